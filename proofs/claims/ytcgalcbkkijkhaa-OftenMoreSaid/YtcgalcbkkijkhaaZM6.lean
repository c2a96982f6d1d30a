/- Part 6 of the texts on which the proof rests. Conditions: none. -/
import Derived.Test.YtcgalcbkkijkhaaZM5
set_option linter.unusedVariables false
set_option linter.unusedSimpArgs false
set_option linter.unusedSectionVars false
namespace Go.Nm
theorem getD_app_lt {t : List Int} {x : Int} {k : Nat} (h : k < t.length) : (t ++ [x]).getD k 0 = t.getD k 0 := by
  rw [List.getD_eq_getElem?_getD, List.getElem?_append_left h, ← List.getD_eq_getElem?_getD]
theorem getD_app_eq {t : List Int} {x : Int} : (t ++ [x]).getD t.length 0 = x := by
  rw [List.getD_eq_getElem?_getD, List.getElem?_append_right (Nat.le_refl _), Nat.sub_self]; rfl
namespace Bk
theorem chk_of {ys : List Yr} {os : List Old10} {f l : Int} (h : Ok ys os f l) : chkB ys os f l = 0 := by
  have h1 := h.f0
  have h2 := h.fl
  have h3 := h.l3
  have h4 := h.ln
  have h5 := h.y60
  have h6 := h.o8
  have hfr : frB f l = true := by
    simp only [frB, Bool.and_eq_true, decide_eq_true_eq]
    omega
  have hfew : os.all fewO = true := by
    rw [List.all_eq_true]
    intro o ho
    have := h.few o ho
    exact decide_eq_true (by omega)
  have hb : os.all (oB f l) = true := by
    rw [List.all_eq_true]
    intro o ho
    have k1 := h.o.in_ o ho
    have k2 := h.ris o ho
    simp only [oB, Bool.and_eq_true, decide_eq_true_eq]
    exact ⟨⟨⟨⟨k1.1, k1.2.1⟩, by omega, k1.2.2.1⟩, k1.2.2.2.1, k1.2.2.2.2⟩, k2⟩
  have he : Pk.fe (errY f l ys) ys.length = 0 := by
    rw [Pk.fe_all]
    intro i hi
    have e : ys.getD i default = ys[i] := by rw [List.getD_eq_getElem?_getD, List.getElem?_eq_getElem hi, Option.getD_some]
    have k1 := h.y.in_ ys[i] (List.getElem_mem hi)
    unfold errY
    rw [if_neg, if_neg]
    · rintro ⟨h0, hle⟩
      have e2 : ys.getD (i - 1) default = ys[i - 1] := by rw [List.getD_eq_getElem?_getD, List.getElem?_eq_getElem (by omega), Option.getD_some]
      rw [e, e2] at hle
      have := List.pairwise_iff_getElem.1 h.y.up (i - 1) i (by omega) hi (by omega)
      omega
    · rw [e]
      have : yrB f l ys[i] = true := by
        simp only [yrB, Bool.and_eq_true, decide_eq_true_eq]
        omega
      rw [this]
      simp
  unfold chkB
  rw [if_neg (by rw [hfr]; simp), if_neg (by rw [hfew]; simp; omega), if_neg (by rw [he]; simp), if_neg (by rw [hb]; simp)]
/-- A truth of a book. -/
structure Tr (ys : List Yr) (os : List Old10) (f l : Int) (t : List Int) : Prop where
  ok : Ok ys os f l
  len : (t.length : Int) = l - f + 1
  all : All2 t
  can : Can ys os f t
theorem Tr.at_ {ys : List Yr} {os : List Old10} {f l : Int} {t : List Int} (h : Tr ys os f l t) {y : Int} (h1 : f <= y) (h2 : y <= l) : (kn ys os y).lo <= t.getD (Int.toNat (y - f)) 0 /\ t.getD (Int.toNat (y - f)) 0 <= (kn ys os y).hi := by
  have hl := h.len
  have k := h.can (Int.toNat (y - f)) (by omega)
  rwa [show f + ((Int.toNat (y - f) : Nat) : Int) = y by omega] at k
theorem Tr.fine {ys : List Yr} {os : List Old10} {f l : Int} {t : List Int} (h : Tr ys os f l t) : Fine ys os f l := fun z h1 h2 => by
  have := h.at_ h1 h2
  omega
/-- An old note that a truth bears out. -/
structure Nt (f l : Int) (t : List Int) (o : Old10) : Prop where
  a : f <= o.src
  b : o.src <= o.dst
  c : o.dst <= l
  s1 : 1 <= o.stage
  s2 : o.stage <= 2000
  few : o.passed.length <= 10
  up : o.passed.Pairwise (· < ·)
  mem : ∀ y, y ∈ o.passed ↔ (o.src <= y /\ y <= o.dst) /\ o.stage <= t.getD (Int.toNat (y - f)) 0
theorem Nt.rin {f l : Int} {t : List Int} {o : Old10} (h : Nt f l t o) : Rin o.passed o.src o.dst := by
  intro i hi
  have e : o.passed.getD i 0 = o.passed[i] := by rw [List.getD_eq_getElem?_getD, List.getElem?_eq_getElem hi, Option.getD_some]
  rw [e]
  refine ⟨((h.mem _).1 (List.getElem_mem hi)).1, fun h0 => ?_⟩
  have e2 : o.passed.getD (i - 1) 0 = o.passed[i - 1] := by rw [List.getD_eq_getElem?_getD, List.getElem?_eq_getElem (by omega), Option.getD_some]
  rw [e2]
  exact List.pairwise_iff_getElem.1 h.up (i - 1) i (by omega) hi (by omega)
/-- Recorded years that a truth bears out. -/
structure Yt (f l : Int) (t : List Int) (ys : List Yr) : Prop where
  in_ : ∀ r ∈ ys, (f <= r.year /\ r.year <= l /\ 0 <= r.lo /\ r.lo <= r.hi /\ r.hi <= 2000) /\ r.lo <= t.getD (Int.toNat (r.year - f)) 0 /\ t.getD (Int.toNat (r.year - f)) 0 <= r.hi
  up : ys.Pairwise fun a b => a.year < b.year
/-- What is borne out is a book with a truth. -/
theorem Tr.of {ys : List Yr} {os : List Old10} {f l : Int} {t : List Int} (h0 : 0 <= f) (h1 : f <= l) (h2 : l <= 3000) (h3 : l - f < 1000) (hy : ys.length <= 60) (ho : os.length <= 8) (hl : (t.length : Int) = l - f + 1) (ha : All2 t) (hY : Yt f l t ys) (hO : ∀ o ∈ os, Nt f l t o) : Tr ys os f l t := by
  have oky : OkY f l ys := ⟨fun r hr => (hY.in_ r hr).1, hY.up⟩
  refine ⟨⟨h0, h1, h2, h3, hy, ho, fun o h => (hO o h).few, oky, ⟨fun o h => ?_⟩, fun o h => (hO o h).rin⟩, hl, ha, fun i hi => ?_⟩
  · have k := hO o h
    exact ⟨k.a, k.b, k.c, k.s1, k.s2⟩
  · rw [← can_iff oky (ha i hi).1 (ha i hi).2]
    unfold Bk.can
    rw [Bool.and_eq_true, List.all_eq_true, List.all_eq_true]
    refine ⟨fun r hr => ?_, fun o hm => ?_⟩
    · have k := (hY.in_ r hr).2
      by_cases e : r.year = f + i
      · rw [e, show Int.toNat (f + (i : Int) - f) = i by omega] at k
        rw [decide_eq_false (by omega), decide_eq_false (by omega)]
        simp
      · rw [beq_eq_false_iff_ne.2 e]
        rfl
    · have k := hO o hm
      by_cases e : o.src <= f + i /\ f + i <= o.dst
      · have m := k.mem (f + i)
        rw [show Int.toNat (f + (i : Int) - f) = i by omega] at m
        rw [Bool.or_eq_true]
        right
        rw [beq_iff_eq, Bool.eq_iff_iff, List.contains_iff_mem, m, decide_eq_true_eq]
        exact ⟨fun h => h.2, fun h => ⟨e, h⟩⟩
      · rw [Bool.or_eq_true]
        left
        rw [Bool.not_eq_true', Bool.and_eq_false_iff, decide_eq_false_iff_not, decide_eq_false_iff_not]
        omega
/-- What is made. -/
structure Md (most : Int) (ys : List Yr) (os : List Old10) (f l : Int) (t : List Int) : Prop where
  f0 : 0 <= f
  f2 : f < 2000
  fl : f <= l
  near : l - f < most
  len : (t.length : Int) = l - f + 1
  t6 : ∀ i, i < t.length -> 0 <= t.getD i 0 /\ t.getD i 0 < 600
  y60 : ys.length <= 60
  o3 : os.length <= 3
  y : Yt f l t ys
  o : ∀ o ∈ os, Nt f l t o
theorem Md.tr {most : Int} {ys : List Yr} {os : List Old10} {f l : Int} {t : List Int} (h : Md most ys os f l t) (hm : most <= 1000) : Tr ys os f l t := by
  have h1 := h.f0
  have h2 := h.f2
  have h3 := h.fl
  have h4 := h.near
  have h5 := h.o3
  exact .of h1 h3 (by omega) (by omega) h.y60 (by omega) h.len (fun i hi => by have := h.t6 i hi; omega) h.y h.o
end Bk
end Go.Nm
namespace Go.Proofs.Ytcgalcbkkijkhaa
open Go Go.Nm
variable {ys : List Yr} {os : List Old10} {f l : Int} {t : List Int} {b : List UInt8}
theorem noted_years {a d s : Int} (h1 : f <= a) (h2 : a <= d) (h3 : d <= l) (hl : (t.length : Int) = l - f + 1) (hl1 : t.length <= 1000) (hf : 0 <= f /\ f <= 100000) : (M.iter (zav f t d s) (a, [])).Out (fun y => y.2.length <= 1000 /\ y.2.Pairwise (· < ·) /\ ∀ z, z ∈ y.2 ↔ (a <= z /\ z <= d) /\ s <= t.getD (Int.toNat (z - f)) 0) := by
  refine M.o_for (Int.toNat (d + 1 - a)) (fun i (x : Int × List Int) => x.1 = a + i /\ x.2.length <= i /\ x.2.Pairwise (· < ·) /\ ∀ z, z ∈ x.2 ↔ (a <= z /\ z < a + i) /\ s <= t.getD (Int.toNat (z - f)) 0) ?_ ?_ ⟨by simp, by simp, by simp, fun z => by simp; omega⟩
  · rintro i ⟨y, q⟩ hi ⟨e1, e2, e3, e4⟩
    dsimp only at e1 e2 e3 e4
    subst e1
    simp only [zav]
    refine M.o_t (decide_eq_true (by omega)) (M.o_grd (gA2 (by omega) (by omega)) (M.o_grd (gA2 (by omega) (by omega)) (M.o_if (fun hb => ?_) (fun hb => ?_))))
    · have hb := of_decide_eq_true hb
      refine M.o_grdD (by simp only [List.length_cons, List.length_nil]; omega) (M.o_grd (gA2 (by omega) (by omega)) (M.o_pure ⟨by dsimp only; omega, by dsimp only; rw [List.length_append, List.length_singleton]; omega, ?_, fun z => ?_⟩))
      · rw [List.pairwise_append]
        refine ⟨e3, by simp, fun u hu v hv => ?_⟩
        rw [List.mem_singleton] at hv
        have := ((e4 u).1 hu).1
        omega
      · dsimp only
        rw [List.mem_append, List.mem_singleton, e4]
        constructor
        · rintro (h | rfl)
          · exact ⟨by omega, h.2⟩
          · exact ⟨by omega, hb⟩
        · rintro ⟨h, h'⟩
          by_cases e : z = a + i
          · exact .inr e
          · exact .inl ⟨by omega, h'⟩
    · have hb := of_decide_eq_false hb
      refine M.o_grd (gA2 (by omega) (by omega)) (M.o_pure ⟨by dsimp only; omega, by dsimp only; omega, e3, fun z => ?_⟩)
      dsimp only
      rw [e4]
      constructor
      · rintro ⟨h, h'⟩
        exact ⟨by omega, h'⟩
      · rintro ⟨h, h'⟩
        by_cases e : z = a + i
        · subst e; exact absurd h' hb
        · exact ⟨by omega, h'⟩
  · rintro ⟨y, q⟩ ⟨e1, e2, e3, e4⟩
    dsimp only at e1 e2 e3 e4
    subst e1
    simp only [zav]
    refine M.o_f (decide_eq_false (by omega)) (M.o_pure ⟨by dsimp only; omega, e3, fun z => ?_⟩)
    dsimp only
    rw [e4]
    constructor
    · rintro ⟨h, h'⟩
      exact ⟨by omega, h'⟩
    · rintro ⟨h, h'⟩
      exact ⟨by omega, h'⟩
theorem noted_out {c u x : Int} (hk : SOk c u x) (hc : c <= 1000000) (hf : 0 <= f /\ f < 2000) (hfl : f <= l) (hln : l - f < 1000) (hl : (t.length : Int) = l - f + 1) (h6 : ∀ i, i < t.length -> 0 <= t.getD i 0 /\ t.getD i 0 < 600) :
    (zaE b u x ys os f l t).Out (fun y => Bk.Nt f l t ⟨y.1, y.2.1, y.2.2.1, y.2.2.2.1⟩ /\ SOk (c + 3) y.2.2.2.2.1 y.2.2.2.2.2) := by
  unfold zaE
  refine M.o_bind (within_out hk (by omega) (by omega) (by omega) (by omega)) ?_
  rintro ⟨r2, u1, x1⟩ ⟨k1, g1, g1'⟩
  dsimp only at k1 g1 g1' ⊢
  refine M.o_bind (within_out k1 (by omega) (by omega) (by omega) (by omega)) ?_
  rintro ⟨r3, u2, x2⟩ ⟨k2, g2, g2'⟩
  dsimp only at k2 g2 g2' ⊢
  refine M.o_bind (within_out k2 (by omega) (by omega) (by omega) (by omega)) ?_
  rintro ⟨r4, u3, x3⟩ ⟨k3, g3, g3'⟩
  dsimp only at k3 g3 g3' ⊢
  refine M.o_bind (P := fun y => Bk.Nt f l t ⟨r2, r4, y.1, y.2.2⟩) ?_ ?_
  · refine M.o_iter (fun m (s : Int × Bool × List Int) => (1 <= s.1 /\ s.1 <= 2000) /\ ((s.2.1 = true /\ m = 1 + Int.toNat (2000 - s.1)) ∨ (s.2.1 = false /\ m = 0 /\ Bk.Nt f l t ⟨r2, r4, s.1, s.2.2⟩))) ?_ (1 + Int.toNat (2000 - r3)) _ ⟨⟨by omega, by omega⟩, .inl ⟨rfl, rfl⟩⟩
    rintro m ⟨s2, ag, l4⟩ ⟨⟨b1, b2⟩, hj⟩
    dsimp only at b1 b2 hj
    simp only [zaV]
    rcases hj with ⟨rfl, rfl⟩ | ⟨rfl, rfl, hN⟩
    · refine M.o_t rfl (M.o_bind (noted_years (s := s2) g1 g3 g3' hl (by omega) (by omega)) ?_)
      rintro ⟨q1, q⟩ ⟨n1, n2, n3⟩
      dsimp only at n1 n2 n3 ⊢
      refine M.o_if (fun hb => ?_) (fun hb => ?_)
      · have hb := of_decide_eq_true hb
        have hs : s2 < 600 := by
          cases q with
          | nil => simp at hb
          | cons z q =>
            have h := (n3 z).1 (by simp)
            have := h6 (Int.toNat (z - f)) (by omega)
            omega
        refine M.o_grd (gA2 (by omega) (by omega)) (M.o_pure ⟨1 + Int.toNat (2000 - (s2 + 100)), by omega, ⟨by dsimp only; omega, by dsimp only; omega⟩, .inl ⟨rfl, ?_⟩⟩)
        dsimp only
        rw [show min 2000 (s2 + 100) = s2 + 100 by omega]
      · have hb := of_decide_eq_false hb
        exact M.o_pure ⟨0, by omega, ⟨b1, b2⟩, .inr ⟨rfl, rfl, ⟨g1, g3, g3', b1, b2, by dsimp only; omega, n2, n3⟩⟩⟩
    · exact M.o_f rfl (M.o_pure hN)
  · rintro ⟨s3, l5, l6⟩ hN
    exact M.o_pure ⟨hN, k3.mono (by omega)⟩
theorem made_out {c u x most : Int} (hk : SOk c u x) (hc : c <= 1000) (hm : 2 <= most /\ most <= 100) : (za7 b u x most).Out (fun y => Bk.Md most y.1 y.2.1 y.2.2.1 y.2.2.2.1 y.2.2.2.2.1 /\ SOk (c + 1000) y.2.2.2.2.2.1 y.2.2.2.2.2.2) := by
  unfold za7
  refine M.o_bind (next_out hk (by omega) (by omega)) ?_
  rintro ⟨f, u1, x1⟩ ⟨k1, g1, _⟩
  have g1 := g1 (by omega)
  dsimp only at k1 g1 ⊢
  refine M.o_bind (next_out k1 (by omega) (by omega)) ?_
  rintro ⟨d, u2, x2⟩ ⟨k2, g2, _⟩
  have g2 := g2 (by omega)
  dsimp only at k2 g2 ⊢
  refine M.o_grd (gA2 (by omega) (by omega)) (M.o_bind (P := fun y => (y.2.2.2.2.1.length : Int) = d + 1 /\ (∀ i, i < y.2.2.2.2.1.length -> 0 <= y.2.2.2.2.1.getD i 0 /\ y.2.2.2.2.1.getD i 0 < 600) /\ y.2.2.2.2.2.length <= 60 /\ Bk.Yt f (f + d) y.2.2.2.2.1 y.2.2.2.2.2 /\ SOk (c + 2 + 4 * (d + 1)) y.1 y.2.1) ?_ ?_)
  · refine M.o_for (Int.toNat (d + 1)) (fun i (s : Int × Int × Int × List Yr × List Int) => s.2.2.1 = f + i /\ SOk (c + 2 + 4 * i) s.1 s.2.1 /\ s.2.2.2.2.length = i /\ (∀ k, k < i -> 0 <= s.2.2.2.2.getD k 0 /\ s.2.2.2.2.getD k 0 < 600) /\ s.2.2.2.1.length <= 60 /\ Bk.Yt f (f + i - 1) s.2.2.2.2 s.2.2.2.1) ?_ ?_ ⟨by simp, k2.mono (by omega), rfl, fun k hk => by omega, by simp, ⟨fun r hr => by simp at hr, .nil⟩⟩
    · rintro i ⟨s2, s3, y, q, t⟩ hi ⟨e1, e2, e3, e4, e5, e6⟩
      dsimp only at e1 e2 e3 e4 e5 e6
      subst e1
      simp only [zaq]
      refine M.o_t (decide_eq_true (by omega)) (M.o_bind (next_out e2 (by omega) (by omega)) ?_)
      rintro ⟨r4, u4, x4⟩ ⟨k4, g4, _⟩
      have g4 := g4 (by omega)
      dsimp only at k4 g4 ⊢
      have ht : ∀ k, k < i + 1 -> 0 <= (t ++ [r4]).getD k 0 /\ (t ++ [r4]).getD k 0 < 600 := by
        intro k hk
        by_cases e : k < i
        · rw [getD_app_lt (by omega)]; exact e4 k e
        · obtain rfl : k = t.length := by omega
          rw [getD_app_eq]; exact g4
      have hY : Bk.Yt f (f + ((i + 1 : Nat) : Int) - 1) (t ++ [r4]) q := by
        refine ⟨fun r hr => ?_, e6.up⟩
        have h := e6.in_ r hr
        rw [getD_app_lt (by omega)]
        exact ⟨by omega, h.2⟩
      refine M.o_grdD (by simp only [List.length_cons, List.length_nil]; omega) (M.o_bind (next_out k4 (by omega) (by omega)) ?_)
      rintro ⟨r5, u5, x5⟩ ⟨k5, g5, _⟩
      dsimp only at k5 ⊢
      refine M.o_if (fun hb => ?_) (fun hb => ?_)
      · rw [Bool.and_eq_true, decide_eq_true_eq] at hb
        have hq := hb.2
        refine M.o_bind (next_out k5 (by omega) (by omega)) ?_
        rintro ⟨r6, u6, x6⟩ ⟨k6, g6, _⟩
        have g6 := g6 (by omega)
        dsimp only at k6 g6 ⊢
        refine M.o_grd (gA2 (by omega) (by omega)) (M.o_bind (next_out k6 (by omega) (by omega)) ?_)
        rintro ⟨r7, u7, x7⟩ ⟨k7, g7, _⟩
        have g7 := g7 (by omega)
        dsimp only at k7 g7 ⊢
        refine M.o_grd (gA2 (by omega) (by omega)) (M.o_grdD (by simp only [List.length_cons, List.length_nil]; omega) (M.o_grd (gA2 (by omega) (by omega)) (M.o_pure ⟨by dsimp only; omega, k7.mono (by omega), by dsimp only; rw [List.length_append, List.length_singleton, e3], ht, by dsimp only; rw [List.length_append, List.length_singleton]; omega, ⟨fun r hr => ?_, ?_⟩⟩)))
        · dsimp only at hr ⊢
          rcases List.mem_append.1 hr with hr | hr
          · exact hY.in_ r hr
          · rw [List.mem_singleton] at hr
            subst hr
            dsimp only
            rw [show Int.toNat (f + (i : Int) - f) = t.length by omega, getD_app_eq]
            omega
        · dsimp only
          rw [List.pairwise_append]
          refine ⟨e6.up, by simp, fun r hr s hs => ?_⟩
          rw [List.mem_singleton] at hs
          subst hs
          have := (e6.in_ r hr).1
          dsimp only
          omega
      · exact M.o_grd (gA2 (by omega) (by omega)) (M.o_pure ⟨by dsimp only; omega, k5.mono (by omega), by dsimp only; rw [List.length_append, List.length_singleton, e3], ht, e5, hY⟩)
    · rintro ⟨s2, s3, y, q, t⟩ ⟨e1, e2, e3, e4, e5, e6⟩
      dsimp only at e1 e2 e3 e4 e5 e6
      subst e1
      simp only [zaq]
      refine M.o_f (decide_eq_false (by omega)) (M.o_pure ⟨by dsimp only; omega, fun k hk => e4 k (by dsimp only at hk; omega), e5, ?_, e2.mono (by omega)⟩)
      rwa [show f + ((Int.toNat (d + 1) : Nat) : Int) - 1 = f + d by omega] at e6
  · rintro ⟨s4, s5, l3, l4, t, q⟩ ⟨h1, h2, h3, h4, h5⟩
    dsimp only at h1 h2 h3 h4 h5 ⊢
    refine M.o_bind (next_out h5 (by omega) (by omega)) ?_
    rintro ⟨r8, u8, x8⟩ ⟨k8, g8, _⟩
    have g8 := g8 (by omega)
    dsimp only at k8 g8 ⊢
    refine M.o_bind (P := fun y => y.2.1.length <= 3 /\ (∀ o ∈ y.2.1, Bk.Nt f (f + d) t o) /\ SOk (c + 900) y.2.2.1 y.2.2.2) ?_ ?_
    · refine M.o_iter (fun m (s : Int × Int × Int × List Old10) => (m : Int) = s.2.2.1 /\ (s.2.2.2.length : Int) + s.2.2.1 <= 3 /\ (∀ o ∈ s.2.2.2, Bk.Nt f (f + d) t o) /\ SOk (c + 500 + 4 * (s.2.2.2.length : Int)) s.1 s.2.1) ?_ (Int.toNat r8) _ ⟨by dsimp only; omega, by simp; omega, fun o ho => by simp at ho, by simpa using k8.mono (by omega)⟩
      rintro m ⟨s6, s7, n, os⟩ ⟨e1, e2, e3, e4⟩
      dsimp only at e1 e2 e3 e4
      simp only [zax]
      refine M.o_if (fun hb => ?_) (fun hb => ?_)
      · have hb := of_decide_eq_true hb
        refine M.o_bind (noted_out e4 (by omega) (by omega) (by omega) (by omega) (by omega) h2) ?_
        rintro ⟨r0, r1, r22, r32, q18, q28⟩ ⟨n1, n2⟩
        dsimp only at n1 n2 ⊢
        refine M.o_grdD (by simp only [List.length_cons, List.length_nil]; omega) (M.o_grd (gA2 (by omega) (by omega)) (M.o_pure ⟨m - 1, by omega, by dsimp only; omega, by dsimp only; rw [List.length_append, List.length_singleton]; omega, fun o ho => ?_, ?_⟩))
        · dsimp only at ho
          rcases List.mem_append.1 ho with ho | ho
          · exact e3 o ho
          · rw [List.mem_singleton] at ho
            subst ho
            exact n1
        · dsimp only
          rw [List.length_append, List.length_singleton]
          exact n2.mono (by omega)
      · have hb := of_decide_eq_false hb
        exact M.o_pure ⟨by dsimp only; omega, e3, e4.mono (by omega)⟩
    · rintro ⟨l8, os, s8, s9⟩ ⟨n1, n2, n3⟩
      dsimp only at n1 n2 n3 ⊢
      have hMd : Bk.Md most q os f (f + d) t := ⟨by omega, by omega, by omega, by omega, by omega, h2, h3, n1, h4, n2⟩
      exact M.o_pure ⟨hMd, n3.mono (by omega)⟩
end Go.Proofs.Ytcgalcbkkijkhaa
namespace Go.Proofs.Ytcgalcbkkijkhaa
open Go Go.Nm
variable {ys : List Yr} {os : List Old10} {f l : Int}
/-- A book that is not too long to be looked at. -/
structure Short (ys : List Yr) (os : List Old10) : Prop where
  y : ys.length <= 65
  o : os.length <= 10
  p : ∀ o ∈ os, o.passed.length <= 12
theorem copy_yr (h : ys.length <= 1000000) : (zbj ys).Ends ys := M.i_grd (decide_eq_true (by simp only [List.length_nil]; omega)) M.i_pure
theorem copyB_ends (h : Short ys os) : (zaC ys os f l).Ends (ys, os, f, l) := by
  have hy := h.y
  have ho := h.o
  unfold zaC
  refine M.i_bind (copy_yr (by omega)) (M.i_bind (a := (os, os)) ?_ M.i_pure)
  refine M.Out.ends ?_
  refine M.o_for os.length (fun i (s : Nat × List Old10) => s.1 = i /\ s.2 = os.take i) ?_ ?_ ⟨rfl, rfl⟩
  · rintro i ⟨s, q⟩ hi ⟨e1, e2⟩
    dsimp only at e1 e2
    subst e1
    subst e2
    simp only [zao]
    have e : os.getD s default = os[s] := by rw [List.getD_eq_getElem?_getD, List.getElem?_eq_getElem hi, Option.getD_some]
    have hp := h.p os[s] (List.getElem_mem hi)
    rw [← e] at hp
    exact M.o_t (decide_eq_true (by omega)) (M.o_grdD (by omega) (M.o_bindE (copy_int (by omega)) (M.o_grdD (by simp [List.length_take]; omega) (M.o_pure ⟨rfl, take_succ_D os s hi default⟩))))
  · rintro ⟨s, q⟩ ⟨e1, e2⟩
    dsimp only at e1 e2
    subst e1
    simp only [zao]
    exact M.o_f (by simp) (M.o_pure (by rw [e2, List.take_length]))
end Go.Proofs.Ytcgalcbkkijkhaa
section
set_option maxRecDepth 100000
set_option maxHeartbeats 16000000
namespace Go.Proofs.Ytcgalcbkkijkhaa
open Go Go.Nm
end Go.Proofs.Ytcgalcbkkijkhaa
end
section
set_option maxRecDepth 100000
set_option maxHeartbeats 16000000
namespace Go.Proofs.Ytcgalcbkkijkhaa
open Go Go.Nm
end Go.Proofs.Ytcgalcbkkijkhaa
end
namespace Go.Nm
namespace Bk
/-- What the years from one on can have. -/
def kl (ys : List Yr) (os : List Old10) (a : Int) (n : Nat) : List Span := (List.range n).map fun (i : Nat) => kn ys os (a + (i : Int))
theorem kl_succ (ys : List Yr) (os : List Old10) (a : Int) (n : Nat) : kl ys os a (n + 1) = kl ys os a n ++ [kn ys os (a + (n : Int))] := by
  unfold kl
  rw [List.range_succ, List.map_append]
  rfl
theorem kl_len (ys : List Yr) (os : List Old10) (a : Int) (n : Nat) : (kl ys os a n).length = n := by unfold kl; rw [List.length_map, List.length_range]
def In (f l fr to : Int) : Prop := f <= fr /\ fr <= to /\ to <= l
/-- The first error of a book, two years, a number, and that no truth can be. -/
def WrE (ys : List Yr) (os : List Old10) (f l fr to n a b e : Int) : Prop := (chkB ys os f l ≠ 0 /\ e = chkB ys os f l) ∨ (chkB ys os f l = 0 /\ ¬ In f l fr to /\ e = 2) ∨ (chkB ys os f l = 0 /\ In f l fr to /\ ¬ (a <= n /\ n <= b) /\ e = 4) ∨
  (chkB ys os f l = 0 /\ In f l fr to /\ (a <= n /\ n <= b) /\ ¬ Fine ys os f l /\ e = 6) ∨ (chkB ys os f l = 0 /\ In f l fr to /\ (a <= n /\ n <= b) /\ Fine ys os f l /\ e = 0)
theorem WrE.uniq {ys : List Yr} {os : List Old10} {f l fr to n a b e e' : Int} (h : WrE ys os f l fr to n a b e) (k : WrE ys os f l fr to n a b e') : e = e' := by
  rcases h with ⟨h1, rfl⟩ | ⟨h1, h2, rfl⟩ | ⟨h1, h2, h3, rfl⟩ | ⟨h1, h2, h3, h4, rfl⟩ | ⟨h1, h2, h3, h4, rfl⟩ <;> rcases k with ⟨k1, rfl⟩ | ⟨k1, k2, rfl⟩ | ⟨k1, k2, k3, rfl⟩ | ⟨k1, k2, k3, k4, rfl⟩ | ⟨k1, k2, k3, k4, rfl⟩ <;> first | rfl | contradiction
theorem WrE.ok {ys : List Yr} {os : List Old10} {f l fr to n a b : Int} (h : WrE ys os f l fr to n a b 0) : chkB ys os f l = 0 /\ In f l fr to /\ (a <= n /\ n <= b) /\ Fine ys os f l := by
  rcases h with ⟨h1, h2⟩ | ⟨h1, h2, h3⟩ | ⟨h1, h2, h3, h4⟩ | ⟨h1, h2, h3, h4, h5⟩ | ⟨h1, h2, h3, h4, h5⟩
  · exact absurd h2.symm h1
  · cases h3
  · cases h4
  · cases h5
  · exact ⟨h1, h2, h3, h4⟩
theorem WrE.last {ys : List Yr} {os : List Old10} {f l fr to n a b b' e : Int} (h : WrE ys os f l fr to n a b e) (hb : chkB ys os f l = 0 -> In f l fr to -> b = b') : WrE ys os f l fr to n a b' e := by
  rcases h with ⟨h1, h2⟩ | ⟨h1, h2, h3⟩ | ⟨h1, h2, h3, h4⟩ | ⟨h1, h2, h3, h4, h5⟩ | ⟨h1, h2, h3, h4, h5⟩
  · exact .inl ⟨h1, h2⟩
  · exact .inr (.inl ⟨h1, h2, h3⟩)
  · exact .inr (.inr (.inl ⟨h1, h2, by rw [← hb h1 h2]; exact h3, h4⟩))
  · exact .inr (.inr (.inr (.inl ⟨h1, h2, by rw [← hb h1 h2]; exact h3, h4, h5⟩)))
  · exact .inr (.inr (.inr (.inr ⟨h1, h2, by rw [← hb h1 h2]; exact h3, h4, h5⟩)))
def many (p : Span -> Bool) (ys : List Yr) (os : List Old10) (fr to : Int) : Int := ((kl ys os fr (Int.toNat (to + 1 - fr))).countP p : Nat)
def lop (x : Int) (s : Span) : Bool := decide (x <= s.lo)
def hip (x : Int) (s : Span) : Bool := decide (x <= s.hi)
def PaE (ys : List Yr) (os : List Old10) (f l fr to st : Int) (r : Int × Int × Int) : Prop := (r.2.2 ≠ 0 /\ WrE ys os f l fr to st 0 2000 r.2.2 /\ r.1 = 0 /\ r.2.1 = 0) ∨ (r.2.2 = 0 /\ WrE ys os f l fr to st 0 2000 0 /\ r.1 = many (lop st) ys os fr to /\ r.2.1 = many (hip st) ys os fr to)
theorem PaE.wr {ys : List Yr} {os : List Old10} {f l fr to st : Int} {r : Int × Int × Int} (h : PaE ys os f l fr to st r) : WrE ys os f l fr to st 0 2000 r.2.2 := by
  rcases h with ⟨h1, h2, h3⟩ | ⟨h1, h2, h3⟩
  · exact h2
  · rw [h1]; exact h2
theorem PaE.uniq {ys : List Yr} {os : List Old10} {f l fr to st : Int} {r s : Int × Int × Int} (h : PaE ys os f l fr to st r) (k : PaE ys os f l fr to st s) : r = s := by
  have e := h.wr.uniq k.wr
  obtain ⟨r1, r2, r3⟩ := r
  obtain ⟨s1, s2, s3⟩ := s
  dsimp only at e
  subst e
  rcases h with ⟨h1, h2, h3, h4⟩ | ⟨h1, h2, h3, h4⟩ <;> rcases k with ⟨k1, k2, k3, k4⟩ | ⟨k1, k2, k3, k4⟩ <;> dsimp only at h1 h3 h4 k1 k3 k4
  · rw [h3, h4, k3, k4]
  · exact absurd k1 h1
  · exact absurd h1 k1
  · rw [h3, h4, k3, k4]
/-- The highest number that so many have. -/
def Top (L : List Int) (t v : Int) : Prop := 0 <= v /\ v <= 2000 /\ t <= (L.countP (fun x => decide (v <= x)) : Nat) /\ ((L.countP (fun x => decide (v + 1 <= x)) : Nat) : Int) < t
theorem cnt_mono {L : List Int} {v w : Int} (h : v <= w) : L.countP (fun x => decide (w <= x)) <= L.countP (fun x => decide (v <= x)) := by
  refine List.countP_mono_left fun x _ hx => ?_
  have := of_decide_eq_true hx
  exact decide_eq_true (by omega)
theorem Top.uniq {L : List Int} {t v w : Int} (h : Top L t v) (k : Top L t w) : v = w := by
  obtain ⟨h1, h2, h3, h4⟩ := h
  obtain ⟨k1, k2, k3, k4⟩ := k
  rcases Int.lt_trichotomy v w with e | e | e
  · have := cnt_mono (L := L) (v := v + 1) (w := w) (by omega)
    omega
  · exact e
  · have := cnt_mono (L := L) (v := w + 1) (w := v) (by omega)
    omega
def ReE (ys : List Yr) (os : List Old10) (f l fr to t : Int) (r : Int × Int × Int) : Prop := (r.2.2 ≠ 0 /\ WrE ys os f l fr to t 1 (to - fr + 1) r.2.2 /\ r.1 = 0 /\ r.2.1 = 0) ∨
  (r.2.2 = 0 /\ WrE ys os f l fr to t 1 (to - fr + 1) 0 /\ Top ((kl ys os fr (Int.toNat (to + 1 - fr))).map Span.lo) t r.1 /\ Top ((kl ys os fr (Int.toNat (to + 1 - fr))).map Span.hi) t r.2.1)
theorem ReE.wr {ys : List Yr} {os : List Old10} {f l fr to t : Int} {r : Int × Int × Int} (h : ReE ys os f l fr to t r) : WrE ys os f l fr to t 1 (to - fr + 1) r.2.2 := by
  rcases h with ⟨h1, h2, h3⟩ | ⟨h1, h2, h3⟩
  · exact h2
  · rw [h1]; exact h2
theorem ReE.uniq {ys : List Yr} {os : List Old10} {f l fr to t : Int} {r s : Int × Int × Int} (h : ReE ys os f l fr to t r) (k : ReE ys os f l fr to t s) : r = s := by
  have e := h.wr.uniq k.wr
  obtain ⟨r1, r2, r3⟩ := r
  obtain ⟨s1, s2, s3⟩ := s
  dsimp only at e
  subst e
  rcases h with ⟨h1, h2, h3, h4⟩ | ⟨h1, h2, h3, h4⟩ <;> rcases k with ⟨k1, k2, k3, k4⟩ | ⟨k1, k2, k3, k4⟩ <;> dsimp only at h1 h3 h4 k1 k3 k4
  · rw [h3, h4, k3, k4]
  · exact absurd k1 h1
  · exact absurd h1 k1
  · rw [h3.uniq k3, h4.uniq k4]
end Bk
end Go.Nm
namespace Go.Proofs.Ytcgalcbkkijkhaa
open Go Go.Nm
variable {ys : List Yr} {os : List Old10} {f l : Int}
theorem between_out (hy : ys.length <= 1000000) (ho : os.length <= 1000000) (fr to n a b : Int) : (zaL ys os f l fr to n a b).Out (fun r => match r with | .inl e => e ≠ 0 /\ Bk.WrE ys os f l fr to n a b e | .inr (f', l', m, z) => f' = f /\ l' = l /\ z = 0 /\ Bk.WrE ys os f l fr to n a b 0 /\ Knows ys os f l m) := by
  unfold zaL
  by_cases h0 : Bk.chkB ys os f l = 0
  · have h := Bk.chk_ok h0
    obtain ⟨m, g1, hm⟩ := opened_ok hy ho h0
    refine M.o_bindE g1 (M.o_f rfl (M.o_bindE (in_ends _ _ _) (M.o_bindE (a := (decide (f <= fr) && decide (fr <= to)) && (decide (f <= to) && decide (to <= l))) (M.i_opt (fun h => by rw [Bool.not_not] at h; rw [h]; exact in_ends _ _ _) (fun h => by rw [Bool.not_not] at h; rw [h]; rfl)) (M.o_if (fun hb => ?_) (fun hb => ?_)))))
    · have hI : ¬ Bk.In f l fr to := by
        rintro ⟨i1, i2, i3⟩
        rw [decide_eq_true i1, decide_eq_true i2, decide_eq_true i3, decide_eq_true (show f <= to by omega)] at hb
        cases hb
      exact M.o_pure ⟨by decide, .inr (.inl ⟨h0, hI, rfl⟩)⟩
    · have hI : Bk.In f l fr to := by
        rw [Bool.or_eq_false_iff, Bool.not_eq_false', Bool.not_eq_false'] at hb
        have := hb.2
        rw [Bool.and_eq_true, Bool.and_eq_true, Bool.and_eq_true, decide_eq_true_eq, decide_eq_true_eq, decide_eq_true_eq, decide_eq_true_eq] at this
        exact ⟨this.1.1, this.1.2, this.2.2⟩
      refine M.o_bindE (in_ends _ _ _) (M.o_if (fun hb => ?_) (fun hb => ?_))
      · rw [Bool.not_eq_true', Bool.and_eq_false_iff, decide_eq_false_iff_not, decide_eq_false_iff_not] at hb
        exact M.o_pure ⟨by decide, .inr (.inr (.inl ⟨h0, hI, by omega, rfl⟩))⟩
      · rw [Bool.not_eq_false', Bool.and_eq_true, decide_eq_true_eq, decide_eq_true_eq] at hb
        refine M.o_bind (clash_out h hm) ?_
        rintro ⟨y', c⟩ (⟨e, hF⟩ | ⟨e, hF⟩)
        · rw [Prod.mk.injEq] at e
          obtain ⟨rfl, rfl⟩ := e
          exact M.o_f rfl (M.o_pure ⟨rfl, rfl, rfl, .inr (.inr (.inr (.inr ⟨h0, hI, hb, hF, rfl⟩))), hm⟩)
        · dsimp only at e hF
          subst e
          exact M.o_t rfl (M.o_pure ⟨by decide, .inr (.inr (.inr (.inl ⟨h0, hI, hb, fun hh => hF.bad hh, rfl⟩)))⟩)
  · exact M.o_bindE (opened_bad hy ho h0) (M.o_t (bne_iff_ne.2 h0) (M.o_pure ⟨h0, .inl ⟨h0, rfl⟩⟩))
theorem cnt_succ (p : Span -> Bool) (a : Int) (n : Nat) : ((Bk.kl ys os a (n + 1)).countP p : Int) = ((Bk.kl ys os a n).countP p : Int) + (if p (Bk.kn ys os (a + (n : Int))) = true then 1 else 0) := by
  rw [Bk.kl_succ, List.countP_append]
  simp only [List.countP_cons, List.countP_nil]
  split <;> simp
theorem cnt_le (p : Span -> Bool) (a : Int) (n : Nat) : (Bk.kl ys os a n).countP p <= n := by
  have := List.countP_le_length (p := p) (l := Bk.kl ys os a n)
  rwa [Bk.kl_len] at this
theorem of_passed (hy : ys.length <= 1000000) (ho : os.length <= 1000000) (fr to st : Int) : (zae ys os f l fr to st).Out (Bk.PaE ys os f l fr to st) := by
  unfold zae
  refine M.o_bind (between_out hy ho fr to st 0 2000) ?_
  rintro (e | ⟨f', l', m, z⟩) h
  · exact M.o_t (bne_iff_ne.2 h.1) (M.o_pure (.inl ⟨h.1, h.2, rfl, rfl⟩))
  · obtain ⟨rfl, rfl, rfl, hw, hm⟩ := h
    obtain ⟨h0, ⟨i1, i2, i3⟩, hn, hF⟩ := hw.ok
    have h := Bk.chk_ok h0
    have hf0 := h.f0
    have hl3 := h.l3
    have hln := h.ln
    unfold zai
    refine M.o_f rfl (M.o_bindE M.i_pure (M.o_bind (P := fun x => match x with | .inl s => s = (Bk.many (Bk.lop st) ys os fr to, Bk.many (Bk.hip st) ys os fr to) | .inr (_ : Unit) => False) ?_ ?_))
    · refine years_out (s0 := ((0 : Int), (0 : Int))) hl3 (by omega) (by omega) i3 i1 hm (fun y s => ∃ n : Nat, y = fr + n /\ s = (((Bk.kl ys os fr n).countP (Bk.lop st) : Int), ((Bk.kl ys os fr n).countP (Bk.hip st) : Int))) ⟨0, by omega, rfl⟩ ?_ ?_ _ _ _ _
      · rintro y ⟨s, s2⟩ h1 h2 ⟨n, rfl, e⟩
        obtain ⟨rfl, rfl⟩ := Prod.mk.inj e
        have c1 := cnt_le (ys := ys) (os := os) (Bk.lop st) fr n
        have c2 := cnt_le (ys := ys) (os := os) (Bk.hip st) fr n
        have d1 := cnt_succ (ys := ys) (os := os) (Bk.lop st) fr n
        have d2 := cnt_succ (ys := ys) (os := os) (Bk.hip st) fr n
        simp only [zan]
        refine M.o_bindE M.i_pure (M.o_bindE M.i_pure (M.o_bindE M.i_pure (M.o_if (fun hb => ?_) (fun hb => ?_))))
        · have hb' : Bk.lop st (Bk.kn ys os (fr + (n : Int))) = true := hb
          rw [if_pos hb'] at d1
          refine M.o_grd (gA2 (by omega) (by omega)) (M.o_bindE M.i_pure (M.o_bindE M.i_pure (M.o_bindE M.i_pure (M.o_if (fun hc => ?_) (fun hc => ?_)))))
          · have hc' : Bk.hip st (Bk.kn ys os (fr + (n : Int))) = true := hc
            rw [if_pos hc'] at d2
            exact M.o_grd (gA2 (by omega) (by omega)) (M.o_pure ⟨n + 1, by omega, by rw [d1, d2]⟩)
          · have hc' : Bk.hip st (Bk.kn ys os (fr + (n : Int))) = false := hc
            rw [if_neg (by rw [hc']; simp)] at d2
            exact M.o_pure ⟨n + 1, by omega, by rw [d1, d2, Int.add_zero]⟩
        · have hb' : Bk.lop st (Bk.kn ys os (fr + (n : Int))) = false := hb
          rw [if_neg (by rw [hb']; simp)] at d1
          refine M.o_bindE M.i_pure (M.o_bindE M.i_pure (M.o_bindE M.i_pure (M.o_if (fun hc => ?_) (fun hc => ?_))))
          · have hc' : Bk.hip st (Bk.kn ys os (fr + (n : Int))) = true := hc
            rw [if_pos hc'] at d2
            exact M.o_grd (gA2 (by omega) (by omega)) (M.o_pure ⟨n + 1, by omega, by rw [d1, d2, Int.add_zero]⟩)
          · have hc' : Bk.hip st (Bk.kn ys os (fr + (n : Int))) = false := hc
            rw [if_neg (by rw [hc']; simp)] at d2
            exact M.o_pure ⟨n + 1, by omega, by rw [d1, d2, Int.add_zero, Int.add_zero]⟩
      · rintro s ⟨n, e, rfl⟩
        unfold Bk.many
        rw [show Int.toNat (to + 1 - fr) = n by omega]
    · intro x hx
      cases x with
      | inl s => subst hx; exact M.o_pure (.inr ⟨rfl, hw, rfl, rfl⟩)
      | inr u => exact hx.elim
end Go.Proofs.Ytcgalcbkkijkhaa
namespace Go.Proofs.Ytcgalcbkkijkhaa
open Go Go.Nm
variable {ys : List Yr} {os : List Old10} {f l : Int}
/-! ### Shares -/
/-! ### The highest stage that is passed so often -/
end Go.Proofs.Ytcgalcbkkijkhaa
section
set_option maxRecDepth 100000
set_option maxHeartbeats 16000000
namespace Go.Proofs.Ytcgalcbkkijkhaa
open Go Go.Nm
end Go.Proofs.Ytcgalcbkkijkhaa
end
namespace Go.Nm
namespace Bk
end Bk
end Go.Nm
namespace Go.Proofs.Ytcgalcbkkijkhaa
open Go Go.Nm
variable {ys : List Yr} {os : List Old10} {f l : Int}
end Go.Proofs.Ytcgalcbkkijkhaa
namespace Go.Nm
namespace Bk
/-- What a truth has from one year on. -/
def vl (t : List Int) (f a : Int) (n : Nat) : List Int := (List.range n).map fun (i : Nat) => t.getD (Int.toNat (a + (i : Int) - f)) 0
theorem mapc {g h : Nat -> Int} {n : Nat} (hgh : ∀ i, i < n -> g i <= h i) (st : Int) : ((List.range n).map g).countP (fun x => decide (st <= x)) <= ((List.range n).map h).countP (fun x => decide (st <= x)) := by
  rw [List.countP_map, List.countP_map]
  refine List.countP_mono_left fun i hi hx => ?_
  have h1 := hgh i (List.mem_range.1 hi)
  have h2 : st <= g i := of_decide_eq_true hx
  exact decide_eq_true (by omega)
theorem Top.le {A B : List Int} {t u v : Int} (hc : ∀ x, A.countP (fun y => decide (x <= y)) <= B.countP (fun y => decide (x <= y))) (hu : Top A t u) (hv : Top B t v) : u <= v := by
  obtain ⟨h1, h2, h3, h4⟩ := hu
  obtain ⟨k1, k2, k3, k4⟩ := hv
  refine Int.not_lt.1 fun e => ?_
  have := cnt_mono (L := B) (v := v + 1) (w := u) (by omega)
  have := hc u
  omega
theorem los (ys : List Yr) (os : List Old10) (a : Int) (n : Nat) : (kl ys os a n).map Span.lo = (List.range n).map fun (i : Nat) => (kn ys os (a + (i : Int))).lo := by unfold kl; rw [List.map_map]; rfl
theorem his (ys : List Yr) (os : List Old10) (a : Int) (n : Nat) : (kl ys os a n).map Span.hi = (List.range n).map fun (i : Nat) => (kn ys os (a + (i : Int))).hi := by unfold kl; rw [List.map_map]; rfl
theorem many_lo (ys : List Yr) (os : List Old10) (fr to st : Int) : many (lop st) ys os fr to = (((kl ys os fr (Int.toNat (to + 1 - fr))).map Span.lo).countP (fun x => decide (st <= x)) : Nat) := by unfold many; rw [List.countP_map]; rfl
theorem many_hi (ys : List Yr) (os : List Old10) (fr to st : Int) : many (hip st) ys os fr to = (((kl ys os fr (Int.toNat (to + 1 - fr))).map Span.hi).countP (fun x => decide (st <= x)) : Nat) := by unfold many; rw [List.countP_map]; rfl
/-- What is told of a book with a truth. -/
theorem Tr.wr {ys : List Yr} {os : List Old10} {f l : Int} {t : List Int} (h : Tr ys os f l t) {fr to n a b : Int} (hI : In f l fr to) (hn : a <= n /\ n <= b) : WrE ys os f l fr to n a b 0 := .inr (.inr (.inr (.inr ⟨chk_of h.ok, hI, hn, h.fine, rfl⟩)))
end Bk
end Go.Nm
namespace Go.Proofs.Ytcgalcbkkijkhaa
open Go Go.Nm
variable {ys : List Yr} {os : List Old10} {f l : Int} {t : List Int}
theorem tr_passed (h : Bk.Tr ys os f l t) {fr to st : Int} (hI : Bk.In f l fr to) (hs : 0 <= st /\ st <= 2000) : (zae ys os f l fr to st).Ends (Bk.many (Bk.lop st) ys os fr to, Bk.many (Bk.hip st) ys os fr to, 0) := by
  have h60 := h.ok.y60
  have h8 := h.ok.o8
  obtain ⟨r, g, e⟩ := of_passed (ys := ys) (os := os) (f := f) (l := l) (by omega) (by omega) fr to st
  have k : Bk.PaE ys os f l fr to st (Bk.many (Bk.lop st) ys os fr to, Bk.many (Bk.hip st) ys os fr to, 0) := .inr ⟨rfl, h.wr hI hs, rfl, rfl⟩
  rw [← e.uniq k]
  exact g
theorem tr_highest (h : Bk.Tr ys os f l t) {y : Int} (h1 : f <= y) (h2 : y <= l) : (zag ys os f l y).Ends ((Bk.kn ys os y).lo, (Bk.kn ys os y).hi, 0) := by
  have h60 := h.ok.y60
  have h8 := h.ok.o8
  obtain ⟨r, g, e⟩ := of_highest (ys := ys) (os := os) (f := f) (l := l) (by omega) (by omega) y
  have k : Bk.HiE ys os f l y ((Bk.kn ys os y).lo, (Bk.kn ys os y).hi, 0) := .inr (.inr (.inr ⟨Bk.chk_of h.ok, ⟨h1, h2⟩, h.fine, rfl⟩))
  rw [← e.uniq k]
  exact g
end Go.Proofs.Ytcgalcbkkijkhaa
namespace Go.Nm
open Go
section
variable {P : Program} {ops : Array Oper} {md : Region.Mode} {C : World -> Prop} {z : Nat}
def wpAnyZ (P : Program) (md : Region.Mode) (ops : Array Oper) (C : World -> Prop) (z : Nat) (Q : Act -> World -> Prop) : Nat -> Array Bool -> Act -> World -> Prop
  | 0, listed, a, w => Region.ready md ops listed = [] /\ Q a w
  | fuel + 1, listed, a, w =>
    (Region.ready md ops listed = [] -> Q a w) ∧
    ∀ i ∈ Region.ready md ops listed, lOp P ops i (fun a' w' => (i ≠ z -> C w') /\ wpAnyZ P md ops C z Q fuel (listed.setIfInBounds i true) a' w') a w
theorem wpAny_of_Z {r : Option Nat} {Q : Act -> World -> Prop} {Q' : Exit -> Act -> World -> Prop} (hQ : ∀ a w, Q a w -> Q' .normal a w) : ∀ (fuel : Nat) (listed : Array Bool) (a : Act) (w : World),
    wpAnyZ P md ops C z Q fuel listed a w -> wpAnyIn (FR r) 0 P md ops Q' fuel listed a w
  | 0, _, _, _, h => ⟨h.1, hQ _ _ h.2⟩
  | fuel + 1, _, _, _, h => ⟨fun h0 => hQ _ _ (h.1 h0), fun i hi => lOp_wpOp (lOp_mono (fun a' w' hh => wpAny_of_Z hQ fuel _ a' w' hh.2) (h.2 i hi))⟩
def bindsOn (md : Region.Mode) (ops : Array Oper) (z i : Nat) : Bool := match ops[z]? with
  | some o => o.after.toList.any fun e => Region.binds md e && (e.on == i)
  | none => false
theorem wpAnyZ_first {Q : Act -> World -> Prop} {i : Nat} {oi : Oper} {v : Value} (hi : ops[i]? = some oi) (hz : i ≠ z) (hb : bindsOn md ops z i = true) (hsel : ∀ (j : Nat) (o : Oper) cs b, ops[j]? = some o -> o.op ≠ .select cs b) :
    ∀ (fuel : Nat) (listed : Array Bool) (a : Act) (w : World), C w →
      (∀ j oj, ops[j]? = some oj -> j ≠ i -> listed.getD j true = false -> (∀ e ∈ oj.after, Region.binds md e = true -> e.on ≠ i) -> oi.apart ops oj = true) →
      i ∈ Region.ready md ops listed -> YV P ops C oi v a →
      wpAnyZ P md ops C z Q fuel (listed.setIfInBounds i true) (a.put oi.dst v) w -> wpAnyZ P md ops C z Q (fuel + 1) listed a w := by
  intro fuel
  induction fuel with
  | zero =>
    intro listed a w hC _ hr hy H
    refine ⟨fun h => (by rw [h] at hr; cases hr), fun j hj => ?_⟩
    by_cases hji : j = i
    · subst hji; exact hy.lOp hi hC ⟨fun _ => hC, H⟩
    · have := ready_mono hj hji
      rw [H.1] at this
      cases this
  | succ fuel ih =>
    intro listed a w hC hfree hr hy H
    refine ⟨fun h => (by rw [h] at hr; cases hr), fun j hj => ?_⟩
    by_cases hji : j = i
    · subst hji; exact hy.lOp hi hC ⟨fun _ => hC, H⟩
    · have h1 := H.2 j (ready_mono hj hji)
      obtain ⟨hjun, oj, hoj, hall⟩ := mem_ready.1 hj
      have hnot : ∀ e ∈ oj.after, Region.binds md e = true -> e.on ≠ i := fun e he hb heq => by
        have h1 := hall e he hb
        have h0 := (mem_ready.1 hr).1
        rw [heq] at h1
        rcases Nat.lt_or_ge i listed.size with h' | h'
        · simp [h'] at h0 h1; rw [h0] at h1; cases h1
        · simp [Array.getElem?_eq_none h'] at h1
      have hjz : j ≠ z := fun e => by
        subst e
        unfold bindsOn at hb
        simp only [hoj] at hb
        obtain ⟨e, he, h2⟩ := List.any_eq_true.1 hb
        rw [Bool.and_eq_true, beq_iff_eq] at h2
        exact hnot e (by simpa using he) h2.1 h2.2
      have h2 := lOp_put hoj (hfree j oj hoj hji hjun hnot) (fun cs b => hsel i oi cs b hi) (fun cs b => hsel j oj cs b hoj) hy h1
      have hfree' : ∀ k ok, ops[k]? = some ok -> k ≠ i -> (listed.setIfInBounds j true).getD k true = false →
          (∀ e ∈ ok.after, Region.binds md e = true -> e.on ≠ i) -> oi.apart ops ok = true := fun k ok hk hki hun hno => by
        refine hfree k ok hk hki ?_ hno
        by_cases hjk : j = k
        · subst hjk; exact hjun
        · rw [getD_set_ne true hjk] at hun; exact hun
      refine lOp_mono (fun a' w' h3 => ⟨fun _ => h3.2.1 hjz, ih (listed.setIfInBounds j true) a' w' (h3.2.1 hjz) hfree' (ready_mono hr (Ne.symm hji)) h3.1 ?_⟩) h2
      rw [Array.setIfInBounds_comm _ _ hji]
      exact h3.2.2
end
section
variable {P : Program} {all : List Oper} {C : World -> Prop} {z : Nat} {Q : Post} {r : List Nat} {σ : Env} {w : World}
end
end Go.Nm
namespace Go.Nm
open Go
def canonTZ (md : Region.Mode) (ops : Array Oper) (z : Nat) : Ord -> Nat -> Array Bool -> Bool
  | .nil, 0, listed => (Region.ready md ops listed == [z]) && (Region.ready md ops (listed.setIfInBounds z true)).isEmpty
  | .q k r, n + 1, listed => (Region.ready md ops listed).contains k && Region.free md ops listed k && (k != z) && bindsOn md ops z k && canonTZ md ops z r n (listed.setIfInBounds k true)
  | .l k r, n + 1, listed => (Region.ready md ops listed == [k]) && (k != z) && canonTZ md ops z r n (listed.setIfInBounds k true)
  | .l2 k1 r1 k2 r2, n + 1, listed => (Region.ready md ops listed == [k1, k2]) && (k1 != z) && (k2 != z) && canonTZ md ops z r1 n (listed.setIfInBounds k1 true) && canonTZ md ops z r2 n (listed.setIfInBounds k2 true)
  | _, _, _ => false
section
variable {P : Program} {ops : Array Oper} {md : Region.Mode} {C : World -> Prop} {z : Nat}
def runTZ (P : Program) (ops : Array Oper) (C : World -> Prop) (z : Nat) (Q : Act -> World -> Prop) : Ord -> Act -> World -> Prop
  | .nil, a, w => lOp P ops z Q a w
  | .q k r, a, w => ∃ o v, ops[k]? = some o /\ YV P ops C o v a /\ runTZ P ops C z Q r (a.put o.dst v) w
  | .l k r, a, w => lOp P ops k (fun a' w' => C w' /\ runTZ P ops C z Q r a' w') a w
  | .l2 k1 r1 k2 r2, a, w => lOp P ops k1 (fun a' w' => C w' /\ runTZ P ops C z Q r1 a' w') a w /\ lOp P ops k2 (fun a' w' => C w' /\ runTZ P ops C z Q r2 a' w') a w
  | .l3 _ _ _ _ _ _, _, _ => False
theorem wpAnyZ_canonT {Q : Act -> World -> Prop} (hs : Region.noSelect ops = true) : ∀ (l : Ord) (n : Nat) (listed : Array Bool) (a : Act) (w : World), C w →
    canonTZ md ops z l n listed = true -> runTZ P ops C z Q l a w -> wpAnyZ P md ops C z Q (n + 1) listed a w
  | .nil, 0, listed, a, w, _, hB, h => by
    simp only [canonTZ, Bool.and_eq_true, beq_iff_eq] at hB
    obtain ⟨hr, he⟩ := hB
    refine ⟨fun h0 => by rw [hr] at h0; simp at h0, fun i hi => ?_⟩
    rw [hr] at hi
    obtain rfl : i = z := by simpa using hi
    exact lOp_mono (fun a' w' hh => ⟨fun h => absurd rfl h, by simpa using he, hh⟩) h
  | .q k r, n + 1, listed, a, w, hC, hB, h => by
    simp only [canonTZ, Bool.and_eq_true, bne_iff_ne, ne_eq] at hB
    obtain ⟨⟨⟨⟨hr, hf⟩, hz⟩, hb⟩, hB'⟩ := hB
    obtain ⟨o, v, h0, hy, hK⟩ := h
    exact wpAnyZ_first h0 hz hb (Region.noSelect_spec hs) (n + 1) listed a w hC (Region.free_spec h0 hf) (by simpa using hr) hy (wpAnyZ_canonT hs r n _ _ _ hC hB' hK)
  | .l k r, n + 1, listed, a, w, hC, hB, h => by
    simp only [canonTZ, Bool.and_eq_true, beq_iff_eq] at hB
    obtain ⟨⟨hr, _⟩, hB'⟩ := hB
    refine ⟨fun h0 => by rw [hr] at h0; simp at h0, fun i hi => ?_⟩
    rw [hr] at hi
    obtain rfl : i = k := by simpa using hi
    exact lOp_mono (fun a' w' hh => ⟨fun _ => hh.1, wpAnyZ_canonT hs r n _ _ _ hh.1 hB' hh.2⟩) h
  | .l2 k1 r1 k2 r2, n + 1, listed, a, w, hC, hB, h => by
    simp only [canonTZ, Bool.and_eq_true, beq_iff_eq] at hB
    obtain ⟨⟨⟨⟨hr, _⟩, _⟩, hB1⟩, hB2⟩ := hB
    refine ⟨fun h0 => by rw [hr] at h0; simp at h0, fun i hi => ?_⟩
    rw [hr] at hi
    rcases List.mem_cons.1 hi with rfl | hi
    · exact lOp_mono (fun a' w' hh => ⟨fun _ => hh.1, wpAnyZ_canonT hs r1 n _ _ _ hh.1 hB1 hh.2⟩) h.1
    · obtain rfl : i = k2 := by simpa using hi
      exact lOp_mono (fun a' w' hh => ⟨fun _ => hh.1, wpAnyZ_canonT hs r2 n _ _ _ hh.1 hB2 hh.2⟩) h.2
  | .nil, _ + 1, _, _, _, _, hB, _ => by simp [canonTZ] at hB
  | .q _ _, 0, _, _, _, _, hB, _ => by simp [canonTZ] at hB
  | .l _ _, 0, _, _, _, _, hB, _ => by simp [canonTZ] at hB
  | .l2 _ _ _ _, 0, _, _, _, _, hB, _ => by simp [canonTZ] at hB
  | .l3 _ _ _ _ _ _, _, _, _, _, _, _, h => h.elim
end
def SLTZ (P : Program) (all : List Oper) (C : World -> Prop) (z : Nat) (Q : Post) : Ord -> Env -> World -> Prop
  | .nil, σ, w => ∃ o, all[z]? = some o /\ SL P all (loudQ (fun _ => True) (Q .normal)) [o] σ w
  | .q k r, σ, w => ∃ o v, all[k]? = some o /\ (bif wantedE all o σ then ∀ w', C w' -> (execOp (ev σ) o).run P w' = .ok (.value v) w' else v = undef) /\ SLTZ P all C z Q r (updo σ o.dst v) w
  | .l k r, σ, w => ∃ o, all[k]? = some o /\ SL P all (loudQ C (SLTZ P all C z Q r)) [o] σ w
  | .l2 k1 r1 k2 r2, σ, w => (∃ o, all[k1]? = some o /\ SL P all (loudQ C (SLTZ P all C z Q r1)) [o] σ w) /\ ∃ o, all[k2]? = some o /\ SL P all (loudQ C (SLTZ P all C z Q r2)) [o] σ w
  | .l3 _ _ _ _ _ _, _, _ => False
theorem SLTZ_runTZ {P : Program} {ds : List Deferred} {n : Nat} {C : World -> Prop} {z : Nat} {Q : Post} (all : List Oper) (hok : ∀ o ∈ all, ∀ d, o.dst = some d -> d < n) : ∀ (l : Ord) (σ : Env) (w : World) (a : Act), Fr ds n σ a →
    SLTZ P all C z Q l σ w -> runTZ P all.toArray C z (fun a' w' => ∃ σ', Fr ds n σ' a' /\ Q .normal σ' w') l a w
  | .nil, σ, w, a, ha, ⟨o, ho, h⟩ => lOp_mono (fun _ _ hh => hh.2) (SL_lOp (K' := fun a' w' => ∃ σ', Fr ds n σ' a' /\ Q .normal σ' w') all hok (fun σ' w' a' ha' h' => ⟨σ', ha', h'⟩) ho ha h)
  | .q k r, σ, w, a, ha, ⟨o, v, ho, hv, hK⟩ => by
    have hmem : o ∈ all := List.mem_of_getElem? ho
    refine ⟨o, v, by simpa using ho, ?_, SLTZ_runTZ all hok r _ _ _ (ha.puto (hok o hmem) v) hK⟩
    unfold YV
    rw [wanted_eq ha all hok, ha.eval]
    cases hw : wantedE all o σ with
    | true => rw [hw] at hv; exact .inl ⟨rfl, hv⟩
    | false => rw [hw] at hv; exact .inr ⟨rfl, hv⟩
  | .l k r, σ, w, a, ha, ⟨o, ho, h⟩ => SL_lOp all hok (fun σ' w' a' ha' h' => SLTZ_runTZ all hok r σ' w' a' ha' h') ho ha h
  | .l2 k1 r1 k2 r2, σ, w, a, ha, ⟨⟨o, ho, h⟩, ⟨o', ho', h'⟩⟩ =>
    ⟨SL_lOp all hok (fun σ' w' a' ha' h' => SLTZ_runTZ all hok r1 σ' w' a' ha' h') ho ha h, SL_lOp all hok (fun σ' w' a' ha' h' => SLTZ_runTZ all hok r2 σ' w' a' ha' h') ho' ha h'⟩
  | .l3 _ _ _ _ _ _, _, _, _, _, h => h.elim
theorem W.drawTZ {r : Option Nat} {P : Program} {n : Nat} {Q : Post} {σ : Env} {w : World} {id : Nat} {l : List Oper} (C : World -> Prop) (order : Ord) (m z : Nat) (hm : P.follows .mixedOrders = true)
    (hB : (Region.noSelect l.toArray && Nat.beq (m + 1) l.length && canonTZ .any l.toArray z order m (Array.replicate l.length false)) = true)
    (hok : okDst n l = true) (h : ∀ w1, Ext w w1 -> C w1 /\ SLTZ P l C z Q order σ w1) : WR r P n (.region id l.toArray true) Q σ w := by
  intro ds a ha
  simp only [Bool.and_eq_true] at hB
  obtain ⟨⟨hs, hl⟩, hB⟩ := hB
  have hl' := Nat.eq_of_beq_eq_true hl
  obtain ⟨hC, hS⟩ := h w.drew (.drew w)
  refine wpIn_region_any hm (wpAny_of_Z (C := C) (z := z) (Q := fun a' w' => ∃ σ', Fr ds n σ' a' /\ Q .normal σ' w') (fun _ _ h => h) _ _ _ _ ?_)
  have := wpAnyZ_canonT (P := P) (md := .any) (Q := fun a' w' => ∃ σ', Fr ds n σ' a' /\ Q .normal σ' w') hs order m (Array.replicate l.length false) a w.drew hC hB (SLTZ_runTZ l (okDst_spec hok) order σ w.drew a ha hS)
  rw [hl'] at this
  simpa using this
section
variable {P : Program} {all : List Oper} {C : World -> Prop} {z : Nat} {Q : Post} {r r2 : Ord} {σ : Env} {w : World}
theorem tz_nil {o : Oper} (ho : all[z]? = some o) (h : SL P all (loudQ (fun _ => True) (Q .normal)) [o] σ w) : SLTZ P all C z Q .nil σ w := ⟨o, ho, h⟩
theorem tz_q {k d : Nat} {op : Op} {ty : TypeId} {pos : String} {af : Array Edge} {v : Value} (ho : all[k]? = some ⟨some d, op, ty, pos, af, none⟩)
    (h : ∀ w', C w' -> (execOp (ev σ) ⟨some d, op, ty, pos, af, none⟩).run P w' = .ok (.value v) w') (hk : SLTZ P all C z Q r (upd σ d v) w) : SLTZ P all C z Q (.q k r) σ w :=
  ⟨_, v, ho, h, hk⟩
theorem tz_l {k : Nat} {o : Oper} (ho : all[k]? = some o) (h : SL P all (loudQ C (SLTZ P all C z Q r)) [o] σ w) : SLTZ P all C z Q (.l k r) σ w := ⟨o, ho, h⟩
end
end Go.Nm
namespace Go.Nm
open Go
theorem fat_fat {p : Value} (hp : ∃ b o, p = .pointer (some ⟨b, o, none⟩)) (a c : Nat) : fat (fat p a) c = fat p (a + c) := by
  obtain ⟨b, o, rfl⟩ := hp
  simp [fat, add_lit, Nat.add_assoc]
section
variable {P : Program} {w : World}
theorem fa_pl2 {s : TypeId} {k off a c : Nat} {ft : TypeId}
    (h : (P.underlying s).bind (fun d => match d with | .struct fs => (fs[k]?).map (fun f => (f.offset, f.type)) | _ => none) = some (off, ft))
    {n : Nat} (hn : (P.info? ft).map (·.size) = some (n + 1)) {p : Value} (hp : ∃ b o, p = .pointer (some ⟨b, o, none⟩)) (hc : a + off = c) : (Instr.fieldAt s (fat p a) k).run P w = .ok (fat p c) w := by
  subst hc
  rw [fa_pl h hn (p := fat p a) (by obtain ⟨b, o, rfl⟩ := hp; exact ⟨b, o + a, by simp [fat, add_lit]⟩), fat_fat hp]
end
theorem frozenLe {α : Type} [Flat α] {e : TypeId} {v : Value} {l : List α} {w : World} (h : (cOwn e v l).ok w) : (rowC v (l.flatMap Flat.enc)).Le (Base.cells ⟨w, fun b => v.ownBlock = some b⟩) := fun a x hx => by
  have h1 := ownLe w h a x hx
  unfold Base.cells
  rw [if_pos ?_]
  · exact h1
  · unfold rowC at hx
    split at hx
    · rename_i p _ _
      split at hx
      · rename_i ha
        rw [ha]; rfl
      · cases hx
    · cases hx
theorem St.freezeV {α : Type} [Flat α] {w0 w : World} {L R : List Chunk} (H : St w0 w L R) {k : Nat} {e : TypeId} {v : Value} {l : List α} (hk : L[k]? = some (cOwn e v l)) : ∃ B, St w0 w (L.set k (cRo B)) R /\ Sl B.cells v l /\ (rowC v (l.flatMap Flat.enc)).Le B.cells :=
  ⟨_, H.freeze hk rfl, frozenSl (H.get hk), frozenLe (H.get hk)⟩
/-- A book. -/
structure Bk10 where
  years : List Yr
  olds : List Old10
  first : Int
  last : Int
deriving DecidableEq, Inhabited
instance : Elt Bk10 where
  rep C cs x := ∃ sv0 sv1, cs = [sv0, sv1, I x.first, I x.last] /\ Sl C sv0 x.years /\ Sl C sv1 x.olds
  sz := 4
  agg := true
  sz_pos := by decide
  len := fun ⟨_, _, h, _⟩ => by subst h; rfl
  mono := fun hle ⟨sv0, sv1, h, h0, h1⟩ => ⟨sv0, sv1, h, h0.mono hle, h1.mono hle⟩
  one := fun ⟨sv0, sv1, h, h0, h1⟩ v hv => by
    subst h; simp at hv
    rcases hv with rfl | rfl | rfl | rfl
    · exact sl_one h0
    · exact sl_one h1
    · rfl
    · rfl
theorem Bk10_rep {C : Cells} {cs : List Value} {x : Bk10} (h : Elt.rep C cs x) : ∃ sv0 sv1, cs = [sv0, sv1, I x.first, I x.last] /\ Sl C sv0 x.years /\ Sl C sv1 x.olds := h
theorem Bk10_atA {C : Cells} {v : Value} {i : Int} {l : List Bk10} (h : Sl C v l) (h0 : 0 <= i) (h1 : i < l.length) : ∃ sv0 sv1, At C (vat v 4 i.toNat) [sv0, sv1, I (l.getD i.toNat default).first, I (l.getD i.toNat default).last] /\ Sl C sv0 (l.getD i.toNat default).years /\ Sl C sv1 (l.getD i.toNat default).olds := by
  obtain ⟨cs, ha, hr⟩ := h.atI h0 h1 default
  obtain ⟨sv0, sv1, rfl, hs⟩ := Bk10_rep hr
  exact ⟨sv0, sv1, ha, hs⟩
end Go.Nm
namespace Go.Proofs.Ytcgalcbkkijkhaa
open Go Go.Nm
theorem T49 : SlT Try.prog 49 26 4 64 (.agg #[.slice none 0 0, .slice none 0 0, I 0, I 0]) := ⟨Try.underlying49, by kernel_rfl, rfl, by decide⟩
end Go.Proofs.Ytcgalcbkkijkhaa
