/- Part 6 of the texts on which the proof rests. Conditions: none. -/
import Derived.Shelf.Slices.Delete
import Derived.Test.YtndobgodeicloaaZB5
set_option linter.unusedVariables false
set_option linter.unusedSimpArgs false
set_option linter.unusedSectionVars false
namespace Go.Nm
variable {ws : List Work} {rev : List Int} {t : Nat} {c : Nat -> Nat -> Int}
/-- How many lines begin with a work. -/
def wentB (rev : List Int) (t : Nat) (c : Nat -> Nat -> Int) (k i : Nat) : Bool := innB rev (t : Int) (i : Int) && decide (0 < c (2 * i) (2 * k + 1))
def cntW (ws : List Work) (rev : List Int) (t : Nat) (c : Nat -> Nat -> Int) (k n : Nat) : Int := sumN (fun i => if wentB rev t c k i then 1 else 0) n
theorem val_lines (H : LnHyp ws rev t) (h : Lanes ws rev t c) : vaL ws rev t c = sumN (fun k => if rev.contains (k : Int) then cntW ws rev t c k ws.length else 0) ws.length := by
  have key := h.cut (S := srcB rev) (by have := H.tl; omega) (by unfold srcB; rw [show decide ((2 * t) % 2 = 1) = false from by simp]; rfl) (fun v _ hs => hs)
  show flowV (2 * ws.length) (2 * t) (C0 ws rev t ws.length) c = _
  rw [key, sumN_two]
  refine sumN_congr fun k hk => ?_
  have e0 : sumN (fun v => if srcB rev (2 * k) && !srcB rev v then C0 ws rev t ws.length (2 * k) v - c (2 * k) v else 0) (2 * ws.length) = 0 := by
    refine sumN_zero' fun v _ => ?_
    rw [show srcB rev (2 * k) = false from by unfold srcB; rw [show decide ((2 * k) % 2 = 1) = false from by simp]; rfl]
    rfl
  rw [e0, Int.zero_add]
  have es : srcB rev (2 * k + 1) = rev.contains (k : Int) := by
    unfold srcB
    rw [show decide ((2 * k + 1) % 2 = 1) = true from by simp, show (2 * k + 1) / 2 = k from by omega, Bool.true_and]
  rw [es]
  cases hr : rev.contains (k : Int) with
  | false => exact sumN_zero' fun v _ => rfl
  | true =>
    rw [List.contains_iff_mem] at hr
    rw [if_pos rfl, sumN_two]
    unfold cntW
    refine sumN_congr fun i hi => ?_
    have e1 : (if true && !srcB rev (2 * i + 1) then C0 ws rev t ws.length (2 * k + 1) (2 * i + 1) - c (2 * k + 1) (2 * i + 1) else 0) = 0 := by
      rw [flow_eq0 h (by omega)]
      exact ite_self _
    have e2 : srcB rev (2 * i) = false := by unfold srcB; rw [show decide ((2 * i) % 2 = 1) = false from by simp]; rfl
    rw [e1, e2, Int.add_zero]
    simp only [Bool.not_false, Bool.and_self, if_true]
    by_cases e : i = k
    · subst e
      have hni : innB rev (t : Int) (i : Int) = false := by
        cases hb : innB rev (t : Int) (i : Int) with
        | false => rfl
        | true => exact absurd hr (innB_iff.1 hb).2
      have hit : i ≠ t := fun e => H.nt (e ▸ hr)
      have z1 : C0 ws rev t ws.length (2 * i) (2 * i + 1) = 0 := C0_no (fun h => by
        have := h.2.2.2
        rw [show 2 * i / 2 = i from by omega, hni] at this
        cases this) (fun h => by have := h.1; omega)
      have z2 : C0 ws rev t ws.length (2 * i + 1) (2 * i) = 0 := C0_no (fun h => by have := h.1; omega) (fun h => by
        have := h.2.2.2.2.2
        rw [show 2 * i / 2 = i from by omega, hni] at this
        rcases this with h | h
        · exact hit h
        · cases h)
      have h1 := h.skew (2 * i) (2 * i + 1)
      have h2 := h.nn (2 * i) (2 * i + 1)
      have h3 := h.nn (2 * i + 1) (2 * i)
      unfold wentB
      rw [hni, z2]
      simp only [Bool.false_and, Bool.false_eq_true, if_false]
      omega
    · rw [Lanes.back h e]
      have h2 := h.nn (2 * i) (2 * k + 1)
      unfold wentB
      by_cases hp : 0 < c (2 * i) (2 * k + 1)
      · have hx : nx c k i := ⟨hp, e⟩
        obtain ⟨m, _, _, hin⟩ := nx_big h hx
        rcases hin with rfl | hin
        · exact absurd m (H.dir _ hr)
        · rw [hin, decide_eq_true hp, (nx_in h hi hk hin hx).1]
          rfl
      · rw [decide_eq_false hp, Bool.and_false]
        simp only [Bool.false_eq_true, if_false]
        omega
theorem sumN_rev {h : Nat -> Int} {n : Nat} : ∀ (m : Nat), m <= rev.length -> rev.Nodup -> (∀ r ∈ rev, 0 <= r /\ r < (n : Int)) -> sumN (fun k => if (rev.take m).contains (k : Int) then h k else 0) n = sumN (fun j => h (rev.getD j 0).toNat) m
  | 0, _, _, _ => by simp only [List.take_zero, sumN]; exact sumN_zero' fun i _ => by simp
  | m + 1, hm, hn, hr => by
    have ih := sumN_rev (h := h) (n := n) m (by omega) hn hr
    have hx := hr _ (getD_memN rev (by omega : (m : Int) < _) 0)
    have hno : rev.getD m 0 ∉ rev.take m := by
      intro hc
      rw [← List.take_append_drop m rev, List.nodup_append] at hn
      refine hn.2.2 _ hc _ ?_ rfl
      rw [List.mem_iff_getElem]
      refine ⟨0, by rw [List.length_drop]; omega, ?_⟩
      rw [List.getElem_drop, getD_el rev (by omega) 0]
      simp
    simp only [sumN]
    rw [← ih, show h (rev.getD m 0).toNat = sumN (fun k => if k = (rev.getD m 0).toNat then h k else 0) n from by rw [sumN_one (k := (rev.getD m 0).toNat) (fun i _ hne => if_neg hne), if_pos (by omega), if_pos rfl], ← sumN_add]
    refine sumN_congr fun k _ => ?_
    rw [take_succ_getD rev (by omega) 0]
    by_cases e : k = (rev.getD m 0).toNat
    · have e2 : (k : Int) = rev.getD m 0 := by omega
      rw [if_pos e, e2]
      have c1 : (rev.take m).contains (rev.getD m 0) = false := by
        cases hc : (rev.take m).contains (rev.getD m 0) with
        | false => rfl
        | true => exact absurd (List.contains_iff_mem.1 hc) hno
      have c2 : (rev.take m ++ [rev.getD m 0]).contains (rev.getD m 0) = true := by rw [List.contains_iff_mem]; simp
      rw [c1, c2]
      simp
    · rw [if_neg e, Int.add_zero]
      have : (rev.take m ++ [rev.getD m 0]).contains (k : Int) = (rev.take m).contains (k : Int) := by
        rw [Bool.eq_iff_iff, List.contains_iff_mem, List.contains_iff_mem, List.mem_append, List.mem_singleton]
        constructor
        · rintro (h | h)
          · exact h
          · omega
        · exact .inl
      rw [this]
/-- All lines that are full let as many go. -/
theorem FullL.cut (hF : FullL ws rev t c) : ∃ S, Cut ws rev t c S := by
  classical
  refine ⟨fun u => decide (∃ r, r ∈ rev /\ ∃ S, ShutN (2 * ws.length) c S /\ S (2 * t) = false /\ S (2 * r.toNat + 1) = true /\ S u = true), fun u v hu hv h1 h2 => ?_, ?_, fun r hr => ?_⟩
  · have h1 := of_decide_eq_true h1
    obtain ⟨r, hr, S, a, b, d, e⟩ := h1
    exact decide_eq_true ⟨r, hr, S, a, b, d, a u v hu hv e h2⟩
  · refine decide_eq_false ?_
    rintro ⟨r, hr, S, a, b, d, e⟩
    rw [b] at e
    cases e
  · obtain ⟨S, a, b, d⟩ := hF.shut r hr
    exact decide_eq_true ⟨r, hr, S, a, b, d, d⟩
theorem FullL.uniq (H : LnHyp ws rev t) {c1 c2 : Nat -> Nat -> Int} (h1 : FullL ws rev t c1) (h2 : FullL ws rev t c2) : vaL ws rev t c1 = vaL ws rev t c2 := by
  have key : ∀ {c1 c2 : Nat -> Nat -> Int}, FullL ws rev t c1 -> FullL ws rev t c2 -> vaL ws rev t c1 <= vaL ws rev t c2 := by
    intro c1 c2 h1 h2
    obtain ⟨S, hS⟩ := h2.cut
    have hsrc : ∀ v, v < 2 * ws.length -> srcB rev v = true -> S v = true := fun v _ hs => by
      have := srcB_iff.1 hs
      have h2 := hS.src _ this.2
      rw [Int.toNat_natCast] at h2
      rwa [show 2 * (v / 2) + 1 = v from by omega] at h2
    have a := h1.flow.le (S := S) (by have := H.tl; omega) hS.no hsrc
    have b := h2.flow.full (S := S) (by have := H.tl; omega) hS.no hsrc (fun u v hu hv h3 h4 => by
      have hn := h2.flow.nn u v
      by_cases e : 0 < c2 u v
      · rw [hS.shut u v hu hv h3 e] at h4; cases h4
      · omega)
    exact Int.le_trans a (Int.le_of_eq b.symm)
  exact Int.le_antisymm (key h1 h2) (key h2 h1)
/-- A line on its way. -/
structure OnWay (ws : List Work) (rev : List Int) (t : Nat) (c : Nat -> Nat -> Int) (r i : Int) (l : List Int) (s : Int) : Prop where
  chn : Chn c (l ++ [s])
  one : 1 <= l.length
  rng : ∀ x ∈ l ++ [s], 0 <= x /\ x < (ws.length : Int)
  fst : (l ++ [s]).getD 0 0 = r
  snd : (l ++ [s]).getD 1 0 = i
  mid : ∀ j, 1 <= j -> j < l.length -> innB rev (t : Int) (l.getD j 0) = true
  end_ : s = (t : Int) ∨ (innB rev (t : Int) s = true /\ c (2 * s.toNat) (2 * s.toNat + 1) = 0)
  len : l.length <= posO ws s + 1
theorem chn_snoc {l : List Int} {s k : Int} (h : Chn c (l ++ [s])) (hx : nx c s.toNat k.toNat) : Chn c ((l ++ [s]) ++ [k]) := by
  intro j hj
  simp only [List.length_append, List.length_cons, List.length_nil] at hj
  by_cases e : j + 1 < (l ++ [s]).length
  · rw [clL (by omega : j < (l ++ [s]).length), clL e]
    exact h j e
  · simp only [List.length_append, List.length_cons, List.length_nil] at e
    obtain rfl : j = l.length := by omega
    rw [clL (by simp : l.length < (l ++ [s]).length), clR]
    have : ((l ++ [s]) ++ [k]).getD (l.length + 1) 0 = k := by simp
    rw [this]
    exact hx
theorem OnWay.next (hO : openedE ws = 0) (h : Lanes ws rev t c) {r i s : Int} {l : List Int} (hw : OnWay ws rev t c r i l s) {k : Nat} (hx : nx c s.toNat k) : OnWay ws rev t c r i (l ++ [s]) (k : Int) /\ posO ws s < posO ws (k : Int) := by
  have hs := hw.rng s (by simp)
  obtain ⟨b1, b2, b3, b4⟩ := nx_big h hx
  rw [Int.toNat_of_nonneg hs.1] at b1
  have hp := posO_lt (order_all hO (i := (k : Int)) (by omega) (by omega)) (by rw [Int.toNat_natCast]; exact b1)
  have hone := hw.one
  refine ⟨⟨chn_snoc hw.chn (by rw [Int.toNat_natCast]; exact hx), by simp, fun x hx => ?_, ?_, ?_, fun j h1 h2 => ?_, ?_, ?_⟩, hp⟩
  · rcases List.mem_append.1 hx with hx | hx
    · exact hw.rng x hx
    · rw [List.mem_singleton.1 hx]; omega
  · rw [clL (by simp : 0 < (l ++ [s]).length)]; exact hw.fst
  · rw [clL (by simp; omega : 1 < (l ++ [s]).length)]; exact hw.snd
  · simp only [List.length_append, List.length_cons, List.length_nil] at h2
    by_cases e : j < l.length
    · rw [clL e]; exact hw.mid j h1 e
    · obtain rfl : j = l.length := by omega
      rw [clR]
      rcases hw.end_ with h3 | h3
      · exfalso; exact b3 (by omega)
      · exact h3.1
  · rcases b4 with b4 | b4
    · exact .inl (by omega)
    · refine .inr ⟨b4, ?_⟩
      rw [Int.toNat_natCast]
      exact (nx_in h b2 (by omega) b4 hx).2
  · have := hw.len
    simp only [List.length_append, List.length_cons, List.length_nil]
    omega
theorem OnWay.done {r i : Int} {l : List Int} (hw : OnWay ws rev t c r i l (t : Int)) (hr : r ∈ rev) : Went ws rev t c (l ++ [(t : Int)]) :=
  ⟨hw.chn, by have := hw.one; simp only [List.length_append, List.length_cons, List.length_nil]; omega, hw.rng, by rw [hw.fst]; exact hr, fun j h1 h2 => by
    simp only [List.length_append, List.length_cons, List.length_nil] at h2
    rw [clL (by omega : j < l.length)]
    exact hw.mid j h1 (by omega)⟩
end Go.Nm
namespace Go.Proofs.Ytndobgodeicloaa
open Go Go.Nm
variable {ws : List Work} {rev : List Int} {t : Nat}
theorem upto_get {n j : Nat} (h : j < n) : (upto n).getD j 0 = (j : Int) := by
  unfold upto
  rw [getD_el _ (by simpa using h) 0]
  simp
theorem upto_len (n : Nat) : (upto n).length = n := by simp [upto]
theorem lines_all (hn : ws.length <= 1000) : (M.iter (zaq ws) (List.replicate (ws.length) (0 : Int), 0)).Ends (upto ws.length, upto ws.length) := by
  have h := M.i_for (body := zaq ws) (r := (upto ws.length, upto ws.length)) (fun i => (upto i ++ List.replicate (ws.length - i) (0 : Int), i)) ws.length (fun i hi => ?_) ?_
  · simp [upto] at h ⊢
    exact h
  · have hl : (upto i ++ List.replicate (ws.length - i) (0 : Int)).length = ws.length := by rw [List.length_append, upto_len, List.length_replicate]; omega
    simp only [zaq]
    refine M.i_t (by rw [List.length_replicate]; simpa using hi) (M.grdD (by omega) ?_)
    have : (upto i ++ List.replicate (ws.length - i) (0 : Int)).set i (i : Int) = upto (i + 1) ++ List.replicate (ws.length - (i + 1)) (0 : Int) := by
      rw [List.set_append_right _ _ (by rw [upto_len]; omega), upto_len, Nat.sub_self, upto_succ]
      obtain ⟨d, hd⟩ : ∃ d, ws.length - i = d + 1 := ⟨ws.length - i - 1, by omega⟩
      rw [hd, show ws.length - (i + 1) = d from by omega, List.replicate_succ, List.set_cons_zero, List.append_assoc]
      rfl
    rw [this]
    exact M.i_pure
  · simp only [zaq]
    refine M.i_f (by rw [List.length_replicate]; simp) ?_
    rw [Nat.sub_self, List.replicate_zero, List.append_nil]
    exact M.i_pure
theorem went_ends {i k : Nat} (hi : i < 1000) (hk : k < 1000) (mp : Gate -> Option Int) (m : Int -> Option Bool) : (zaQ (i : Int) (k : Int) ws rev (t : Int) mp m).Ends (decide (0 < roomN mp (2 * k) (2 * i + 1))) := by
  unfold zaQ
  refine M.i_grd (gA2 (by omega) (by omega)) (M.i_grd (gA2 (by omega) (by omega)) (M.i_grd (gA2 (by omega) (by omega)) ?_))
  have : (⟨(2 * (k : Int) : Int), ((2 * (i : Int)) + 1 : Int)⟩ : Gate) = ⟨((2 * k : Nat) : Int), ((2 * i + 1 : Nat) : Int)⟩ := by congr 1
  rw [this]
  exact M.i_pure
theorem line_way_out (H : LnHyp ws rev t) {mp : Gate -> Option Int} (m : Int -> Option Bool) (hF : Lanes ws rev t (roomN mp)) {r i : Int} {s : Int} {l : List Int} (hw : OnWay ws rev t (roomN mp) r i l s) :
    (M.iter (zaS ws rev (t : Int) (t : Int) mp m (upto ws.length)) (l, s)).Out (fun q => q.1 = q.2 /\ OnWay ws rev t (roomN mp) r i q.2 (t : Int)) := by
  have hl := right_len (opened_right H.opn)
  refine M.o_iter (fun (d : Nat) (st : List Int × Int) => d = ws.length - posO ws st.2 /\ OnWay ws rev t (roomN mp) r i st.1 st.2) ?_ _ (l, s) ⟨rfl, hw⟩
  rintro d ⟨l, s⟩ ⟨rfl, hw⟩
  dsimp only at hw ⊢
  have hs := hw.rng s (by simp)
  have hp := posO_le (order_all H.opn hs.1 hs.2)
  have hlen := hw.len
  obtain ⟨sn, rfl⟩ := Int.eq_ofNat_of_zero_le hs.1
  simp only [zaS]
  refine M.o_if (fun hb => ?_) (fun hb => ?_)
  · have hne : (sn : Int) ≠ (t : Int) := by simpa using hb
    have hend := hw.end_.resolve_left hne
    rw [Int.toNat_natCast] at hend
    obtain ⟨k0, hk0, hx0⟩ := nx_out hF (by omega) hend.1 hend.2
    refine M.o_grdD (by simp only [List.length_cons, List.length_nil]; omega) (M.o_bind (indexFunc_out (p := fun x => decide (0 < roomN mp (2 * x.toNat) (2 * sn + 1))) (fun x hx => ?_) ?_) ?_)
    · obtain ⟨j, hj, rfl⟩ := mem_getD hx 0
      rw [upto_len] at hj
      rw [upto_get hj, Int.toNat_natCast]
      unfold za8
      exact M.i_bind (went_ends (by omega) (by omega) mp m) M.i_pure
    · rw [List.any_eq_true]
      refine ⟨(k0 : Int), ?_, ?_⟩
      · rw [← upto_get hk0]; exact getD_memN _ (by rw [upto_len]; omega) 0
      · rw [Int.toNat_natCast]; exact decide_eq_true hx0.1
    · rintro k ⟨k1, k2, k3⟩
      rw [upto_len] at k2
      rw [upto_get (by omega), Int.toNat_natCast] at k3
      have k3 := of_decide_eq_true k3
      obtain ⟨kn, rfl⟩ := Int.eq_ofNat_of_zero_le k1
      rw [Int.toNat_natCast] at k3
      have hx : nx (roomN mp) ((sn : Int)).toNat kn := ⟨by rw [Int.toNat_natCast]; exact k3, fun e => by
        rw [Int.toNat_natCast] at e
        rw [e, hend.2] at k3
        omega⟩
      obtain ⟨h1, h2⟩ := hw.next H.opn hF hx
      exact M.o_pure ⟨_, by dsimp only; omega, rfl, h1⟩
  · have he : (sn : Int) = (t : Int) := by simpa using hb
    rw [he] at hw
    exact M.o_pure ⟨rfl, hw⟩
/-- The lines so far. -/
structure SoFar (ws : List Work) (rev : List Int) (t : Nat) (c : Nat -> Nat -> Int) (s i : Nat) (ls : List (List Int)) : Prop where
  went : ∀ l ∈ ls, Went ws rev t c l /\ l.getD (l.length - 1) 0 = (t : Int)
  old : ∀ l ∈ ls, (∃ j, j < s /\ l.getD 0 0 = rev.getD j 0) ∨ (l.getD 0 0 = rev.getD s 0 /\ l.getD 1 0 < (i : Int))
  two : ls.Pairwise fun a b => ∀ x ∈ midL a, x ∉ midL b
  cnt : (ls.length : Int) = sumN (fun j => cntW ws rev t c (rev.getD j 0).toNat ws.length) s + cntW ws rev t c (rev.getD s 0).toNat i
  few : ls.length <= s * 30 + i
theorem nodup_getD {l : List Int} (h : l.Nodup) {i j : Nat} (hi : i < l.length) (hj : j < l.length) (e : l.getD i 0 = l.getD j 0) : i = j := by
  rw [getD_el l hi 0, getD_el l hj 0] at e
  have key := List.pairwise_iff_getElem.1 h
  by_cases h1 : i < j
  · exact absurd e (key i j hi hj h1)
  · by_cases h2 : j < i
    · exact absurd e.symm (key j i hj hi h2)
    · omega
theorem SoFar.put {c : Nat -> Nat -> Int} (hF : Lanes ws rev t c) (hn : rev.Nodup) {s i : Nat} {ls : List (List Int)} (hs : s < rev.length) (h : SoFar ws rev t c s i ls) {l : List Int} (hw : OnWay ws rev t c (rev.getD s 0) (i : Int) l (t : Int)) (hb : wentB rev t c (rev.getD s 0).toNat i = true) :
    SoFar ws rev t c s (i + 1) (ls ++ [l ++ [(t : Int)]]) := by
  have hrm := getD_memN rev (by omega : (s : Int) < _) 0
  have hW := hw.done hrm
  refine ⟨fun m hm => ?_, fun m hm => ?_, ?_, ?_, ?_⟩
  · rcases List.mem_append.1 hm with hm | hm
    · exact h.went m hm
    · rw [List.mem_singleton.1 hm]
      refine ⟨hW, ?_⟩
      rw [show (l ++ [(t : Int)]).length - 1 = l.length from by simp]
      exact clR
  · rcases List.mem_append.1 hm with hm | hm
    · rcases h.old m hm with h1 | h1
      · exact .inl h1
      · exact .inr ⟨h1.1, by have := h1.2; omega⟩
    · rw [List.mem_singleton.1 hm]
      exact .inr ⟨hw.fst, by rw [hw.snd]; omega⟩
  · rw [List.pairwise_append]
    refine ⟨h.two, List.pairwise_singleton _ _, fun a ha b hb x hx hy => ?_⟩
    rw [List.mem_singleton.1 hb] at hy
    obtain ⟨j, j1, j2, rfl⟩ := midL_mem.1 hx
    obtain ⟨k, k1, k2, e⟩ := midL_mem.1 hy
    have := went_same hF (h.went a ha).1 hW j k j1 k1 j2 k2 e.symm
    rw [hw.fst, hw.snd] at this
    rcases h.old a ha with ⟨q, q1, q2⟩ | ⟨_, q2⟩
    · rw [q2] at this
      have := nodup_getD hn (by omega) hs this.1
      omega
    · omega
  · rw [List.length_append]
    have := h.cnt
    have e : cntW ws rev t c (rev.getD s 0).toNat (i + 1) = cntW ws rev t c (rev.getD s 0).toNat i + 1 := by
      unfold cntW
      simp only [sumN]
      rw [hb]
      rfl
    simp only [List.length_cons, List.length_nil]
    omega
  · have := h.few
    simp only [List.length_append, List.length_cons, List.length_nil]
    omega
theorem SoFar.skip {c : Nat -> Nat -> Int} {s i : Nat} {ls : List (List Int)} (h : SoFar ws rev t c s i ls) (hb : wentB rev t c (rev.getD s 0).toNat i = false) : SoFar ws rev t c s (i + 1) ls := by
  refine ⟨h.went, fun m hm => ?_, h.two, ?_, by have := h.few; omega⟩
  · rcases h.old m hm with h1 | h1
    · exact .inl h1
    · exact .inr ⟨h1.1, by have := h1.2; omega⟩
  · have := h.cnt
    have e : cntW ws rev t c (rev.getD s 0).toNat (i + 1) = cntW ws rev t c (rev.getD s 0).toNat i := by
      unfold cntW
      simp only [sumN]
      rw [hb]
      simp
    omega
theorem lines_out (H : LnHyp ws rev t) (hn : rev.Nodup) {mp : Gate -> Option Int} (m : Int -> Option Bool) (hF : Lanes ws rev t (roomN mp)) :
    (M.iter (zax ws rev (t : Int) (t : Int) mp m (upto ws.length)) (0, [])).Out (fun q => ApartA ws rev t q.2 /\ (q.2.length : Int) = vaL ws rev t (roomN mp) /\ q.2.length <= 1000) := by
  have hl := right_len (opened_right H.opn)
  have hrl := nodup_bound ws.length rev hn H.rng
  refine M.o_for rev.length (fun s st => st.1 = s /\ SoFar ws rev t (roomN mp) s 0 st.2) ?_ ?_ (s := (0, [])) ⟨rfl, fun l h => by simp at h, fun l h => by simp at h, List.Pairwise.nil, rfl, Nat.zero_le _⟩
  · rintro s ⟨s', ls⟩ hs ⟨rfl, hS⟩
    dsimp only at hs hS ⊢
    have hrm := getD_memN rev (by omega : (s' : Int) < _) 0
    have hr := H.rng _ hrm
    simp only [zax]
    refine M.o_t (by simpa using hs) (M.o_grdD (by omega) (M.o_bind (P := fun q => SoFar ws rev t (roomN mp) s' ws.length q.2) ?_ ?_))
    · refine M.o_for ws.length (fun i st => st.1 = i /\ SoFar ws rev t (roomN mp) s' i st.2) ?_ ?_ (s := (0, ls)) ⟨rfl, hS⟩
      · rintro i ⟨i', ls⟩ hi ⟨rfl, hS⟩
        dsimp only at hi hS ⊢
        have hfew := hS.few
        have hin : (zah ws rev (t : Int) mp m (i' : Int)).Ends (innB rev (t : Int) (i' : Int)) := M.i_pure
        have hwe := went_ends (ws := ws) (rev := rev) (t := t) (i := (rev.getD s' 0).toNat) (k := i') (by omega) (by omega) mp m
        rw [Int.toNat_of_nonneg hr.1] at hwe
        have hop : (M.opt (!(!innB rev (t : Int) (i' : Int))) (zaQ (rev.getD s' 0) (i' : Int) ws rev (t : Int) mp m) false).Ends ((!(!innB rev (t : Int) (i' : Int))) && decide (0 < roomN mp (2 * i') (2 * (rev.getD s' 0).toNat + 1))) := by
          refine M.i_opt (fun h => ?_) (fun h => ?_)
          · rw [h, Bool.true_and]; exact hwe
          · rw [h]; rfl
        simp only [zaY]
        rw [upto_len, upto_get hi]
        refine M.o_t (by simpa using hi) (M.o_grdD (by omega) (M.o_bindE hin (M.o_bindE hop (M.o_if (fun hb => ?_) (fun hb => ?_)))))
        · refine M.o_pure ⟨rfl, hS.skip ?_⟩
          unfold wentB
          cases h1 : innB rev (t : Int) (i' : Int) with
          | false => rfl
          | true => rw [h1] at hb; simpa using hb
        · have hb' : wentB rev t (roomN mp) (rev.getD s' 0).toNat i' = true := by
            unfold wentB
            cases h1 : innB rev (t : Int) (i' : Int) with
            | false => rw [h1] at hb; simp at hb
            | true => rw [h1] at hb; simpa using hb
          have hb2 := hb'
          unfold wentB at hb2
          simp only [Bool.and_eq_true, decide_eq_true_eq] at hb2
          have hne : (i' : Int) ≠ rev.getD s' 0 := fun e => (innB_iff.1 hb2.1).2 (by rw [e]; exact hrm)
          have hx : nx (roomN mp) (rev.getD s' 0).toNat i' := ⟨hb2.2, by omega⟩
          have hw0 : OnWay ws rev t (roomN mp) (rev.getD s' 0) (i' : Int) [rev.getD s' 0] (i' : Int) := by
            refine ⟨fun j hj => ?_, by simp, fun x hx => ?_, rfl, rfl, fun j h1 h2 => by simp at h2; omega, .inr ⟨hb2.1, ?_⟩, by simp⟩
            · simp only [List.length_append, List.length_cons, List.length_nil] at hj
              obtain rfl : j = 0 := by omega
              exact hx
            · simp only [List.cons_append, List.nil_append, List.mem_cons, List.not_mem_nil, or_false] at hx
              rcases hx with rfl | rfl
              · exact hr
              · omega
            · rw [Int.toNat_natCast]
              exact (nx_in hF hi (by omega) hb2.1 hx).2
          refine M.o_bind (line_way_out H m hF hw0) ?_
          rintro ⟨l5, l6⟩ ⟨_, hw⟩
          dsimp only at hw ⊢
          have hwl := hw.len
          have hwp := posO_le (order_all H.opn (i := (t : Int)) (by omega) (by have := H.tl; omega))
          exact M.o_grdD (by simp only [List.length_cons, List.length_nil]; omega) (M.o_grdD (by simp only [List.length_cons, List.length_nil]; omega) (M.o_pure ⟨rfl, hS.put hF hn hs hw hb'⟩))
      · rintro ⟨i', ls⟩ ⟨rfl, hS⟩
        dsimp only at hS ⊢
        simp only [zaY]
        exact M.o_f (by rw [upto_len]; simp) (M.o_pure hS)
    · rintro ⟨l8, l11⟩ hS
      dsimp only at hS ⊢
      refine M.o_pure ⟨rfl, hS.went, fun l hl => .inl ?_, hS.two, ?_, by have := hS.few; dsimp only; omega⟩
      · rcases hS.old l hl with ⟨j, h1, h2⟩ | ⟨h1, _⟩
        · exact ⟨j, by omega, h2⟩
        · exact ⟨s', by omega, h1⟩
      · have := hS.cnt
        simp only [sumN]
        rw [this]
        show _ = _ + sumN _ 0
        simp only [sumN]
        omega
  · rintro ⟨s', ls⟩ ⟨rfl, hS⟩
    dsimp only at hS ⊢
    simp only [zax]
    refine M.o_f (by simp) (M.o_pure ⟨⟨fun l hl => ?_, hS.two⟩, ?_, by have := hS.few; dsimp only; omega⟩)
    · obtain ⟨hW, hlast⟩ := hS.went l hl
      exact ⟨hW.two, hW.rng, hW.line hF, hW.head, hlast, hW.mid⟩
    · have := hS.cnt
      rw [this, val_lines H hF]
      have h2 := sumN_rev (rev := rev) (h := fun k => cntW ws rev t (roomN mp) k ws.length) (n := ws.length) rev.length (Nat.le_refl _) hn H.rng
      rw [List.take_length] at h2
      rw [h2]
      show _ + sumN _ 0 = _
      simp only [sumN]
      omega
end Go.Proofs.Ytndobgodeicloaa
namespace Go.Nm
variable {ws : List Work}
/-- A line from one work to another one. -/
structure LineG (ws : List Work) (a b : Int) (l : List Int) : Prop where
  line : lineB ws l = true
  rng : ∀ x ∈ l, 0 <= x /\ x < (ws.length : Int)
  first : ∃ r, l = a :: r
  last : ∃ r, l = r ++ [b]
  len : l.length + posO ws a <= ws.length
theorem LineG.one (hO : openedE ws = 0) {a : Int} (h0 : 0 <= a) (h1 : a < ws.length) : LineG ws a a [a] :=
  ⟨rfl, fun x hx => by rw [List.mem_singleton.1 hx]; exact ⟨h0, h1⟩, ⟨[], rfl⟩, ⟨[], rfl⟩, by have := posO_le (order_all hO h0 h1); simp; omega⟩
theorem LineG.cons {a x b : Int} {l : List Int} (h0 : 0 <= a) (h1 : a < ws.length) (hs : Succ ws a x) (hx : posO ws a < posO ws x) (h : LineG ws x b l) : LineG ws a b ([a] ++ l) := by
  obtain ⟨r, hr⟩ := h.first
  obtain ⟨q, hq⟩ := h.last
  refine ⟨?_, fun y hy => ?_, ⟨l, rfl⟩, ⟨a :: q, by rw [hq]; rfl⟩, ?_⟩
  · have := h.line
    rw [hr] at this ⊢
    show ((ws.getD x.toNat default).of.contains a && lineB ws (x :: r)) = true
    rw [this, Bool.and_true, List.contains_iff_mem]
    exact hs.2.2
  · rcases List.mem_append.1 hy with hy | hy
    · rw [List.mem_singleton.1 hy]; exact ⟨h0, h1⟩
    · exact h.rng y hy
  · have := h.len
    simp only [List.length_append, List.length_cons, List.length_nil]
    omega
end Go.Nm
namespace Go.Proofs.Ytndobgodeicloaa
open Go Go.Nm
variable {ws : List Work}
end Go.Proofs.Ytndobgodeicloaa
namespace Go.Nm
open Go
theorem sl_lohi {α : Type} [Elt α] {P : Program} {t e : TypeId} (hu : P.underlying t = some (.slice e)) (hs : (P.info? e).map (·.size) = some (Elt.sz α)) {C : Cells} {v : Value} {l : List α} (h : Sl C v l) {i j : Int} (h0 : 0 <= i) (h1 : i <= j) (h2 : j <= l.length) :
    ∃ u, (∀ w, (Instr.sliceAt t v (some (.int .i64 i)) (some (.int .i64 j)) none).run P w = .ok u w) /\ Sl C u ((l.take j.toNat).drop i.toNat) := by
  obtain ⟨a, c, hv, hc, hm, hh⟩ := h.ex
  have hlen : ((l.take j.toNat).drop i.toNat).length = j.toNat - i.toNat := by simp; omega
  refine ⟨.slice (if c = i.toNat then a else a.map (·.add (i.toNat * Elt.sz α))) (j.toNat - i.toNat) (c - i.toNat), fun w => ?_, ⟨_, c - i.toNat, by rw [hlen], by omega, by omega, fun k x hx => ?_⟩⟩
  · subst hv
    have hjc : j <= (c : Int) := by omega
    simp [Instr.sliceAt, Instr.slice, Instr.sliceBounds, Instr.sliceBound, asIntOf, run_underlying hu, run_sizeOf hs, h0, hjc]
    rw [if_pos (by omega), if_pos (by omega)]
  · rw [List.getElem?_drop, List.getElem?_take] at hx
    split at hx
    · have hlt := (List.getElem?_eq_some_iff.1 hx).1
      obtain ⟨b, o, cs, ha, hr, hy⟩ := hh _ x hx
      refine ⟨b, o + i.toNat * Elt.sz α, cs, ?_, hr, fun j y hj => ?_⟩
      · rw [if_neg (by omega), ha]
        simp [add_lit]
      · have := hy j y hj
        rwa [show o + (i.toNat + k) * Elt.sz α + j = o + i.toNat * Elt.sz α + k * Elt.sz α + j from by rw [Nat.add_mul]; omega] at this
    · cases hx
end Go.Nm
section
set_option maxRecDepth 100000
set_option maxHeartbeats 16000000
namespace Go.Proofs.Ytndobgodeicloaa
open Go Go.Nm
def zad (i : Int) (aa : List Int) : M Bool :=
  M.pure (aa.contains i)
theorem zbo {R : List Chunk} {ac : Nat} {ae : Cells} {aa : Value} (i : Int) (ab : List Int) (ah : Reads R ae) (ai : Sl ae aa ab) (aj : Has R (cBlk ac [aa] 34)) {r : Bool} (hM : (zad i ab).Ends r) (w : World) (H : St w w [] R) : Ret Try.prog 117 #[I i, Pz ac] w fun v w' => ∃ (y0 : Bool), y0 = r /\ v = B y0 /\ St w w' [] R := by
 refine ret_of_W Try.func117 rfl rfl rfl ?_
 refine sQ rfl <| sA (B false) rfl <| s_nil <| sQ rfl <| s_val (x_ld (p := Pz ac) (v := aa) rfl (ldb_sc Sc34 (aj.blk H) rfl)) <| sM (I i) rfl ?_
 refine s_call cf45 [aa, I i] rfl (contains_int i _ (ai.mono (ah.at H))) ?_
 rintro _ ak ⟨rfl, ag⟩
 replace H : St w ak [] R := H.ext ag
 clear ag
 refine sA (B (ab.contains i)) rfl <| s_nil ?_
 refine W.ret ?_
 have al := M.e_pure hM
 exact ⟨_, resE_tmp rfl, ⟨(ab.contains i), al, rfl, H⟩⟩

def zac (i : Int) (aa : List Int) : M Bool :=
  M.pure (!(aa.contains i))
theorem zbu {R : List Chunk} {ac : Nat} {ae : Cells} {ab : Value} (i : Int) (aa : List Int) (ah : Reads R ae) (ai : Sl ae ab aa) (aj : Has R (cBlk ac [ab] 34)) {r : Bool} (hM : (zac i aa).Ends r) (w : World) (H : St w w [] R) : Ret Try.prog 118 #[I i, Pz ac] w fun v w' => ∃ (y0 : Bool), y0 = r /\ v = B y0 /\ St w w' [] R := by
 refine ret_of_W Try.func118 rfl rfl rfl ?_
 refine sQ rfl <| sA (B false) rfl <| s_nil <| sQ rfl <| s_val (x_ld (p := Pz ac) (v := ab) rfl (ldb_sc Sc34 (aj.blk H) rfl)) <| sM (I i) rfl ?_
 refine s_call cf45 [ab, I i] rfl (contains_int i _ (ai.mono (ah.at H))) ?_
 rintro _ ak ⟨rfl, ag⟩
 replace H : St w ak [] R := H.ext ag
 clear ag
 refine s_val (x_not (b := aa.contains i) rfl) <| sA (B (!(aa.contains i))) rfl <| s_nil ?_
 refine W.ret ?_
 have al := M.e_pure hM
 exact ⟨_, resE_tmp rfl, ⟨(!(aa.contains i)), al, rfl, H⟩⟩

def zbr (i : Int) (aa : List Work) (ab : List Int) (ac : Int -> Option Bool) (ae : Int) : M (Bool × (Int -> Option Bool)) :=
  M.bind (zbA aa (fun ag => zac ag ab) ac i ae) fun (r2, ah) =>
  M.pure (r2.isEmpty, ah)
theorem zco {R : List Chunk} {ag : Nat} {ab : Nat} {am : Nat} {ao : Cells} {ap : Value} {ah : Nat} {aq : Cells} {au : Value} {ac : Nat} {ai : Nat} (i : Int) (aj : List Work) (ae : List Int) (ak : Int -> Option Bool) (aa : Int) (ay : Reads R ao) (az : Sl ao ap aj) (aA : Has R (cBlk am [ap] 187)) (aB : Reads R aq) (aC : Sl aq au ae) (aD : Has R (cBlk ah [au] 34)) (aE : Has R (cBlk ab [Pz am, .func (.func 118) #[] #[Pz ah], .map (some ac)] 211)) (aF : Has R (cBlk ag [Pz ab] 160)) (aG : Has R (cBlk ai [I aa] 3)) {r : (Bool × (Int -> Option Bool))} (hM : (zbr i aj ae ak aa).Ends r) (w : World) (H : St w w [cMap I B ac ak] R) : Ret Try.prog 119 #[I i, Pz ag, Pz ai] w fun v w' => ∃ (y0 : Bool) (y1 : Int -> Option Bool), (y0, y1) = r /\ v = B y0 /\ St w w' [cMap I B ac y1] R := by
 refine ret_of_W Try.func119 rfl rfl rfl ?_
 refine sQ rfl <| sA (B false) rfl <| s_nil <| sQ rfl <| s_val (x_ld (p := Pz ag) (v := Pz ab) rfl (ldb_sc Sc160 (aF.blk H) rfl)) <| sM (I i) rfl <| s_val (x_ld (p := Pz ai) (v := I aa) rfl (ldb_sc Sc3 (aG.blk H) rfl)) ?_
 obtain ⟨aU, aH, hM⟩ := M.e_bind hM
 refine s_call cf110 [Pz ab, I i, I aa] rfl (zcg aj (fun al => zac al ae) ak i aa (ay.app _) az (aA.app _) ⟨118, [Pz ah], rfl, cf118, fun av aV aW aI al aX aJ aY aK aL => by obtain rfl := Arg.int aK; exact (zbu al ae (Reads.app (aB.app _) _) aC (Has.app (aD.app _) _) aL av (St.refl aJ)).mono fun aI av ⟨aZ, aM, aN, aO⟩ => by subst aM; exact ⟨aN, aO⟩⟩ (aE.app _) aH _ (St.give (T := []) H rfl)) ?_
 rintro vq aP ⟨r2, aw, aQ, aR, hvq, ax, aS⟩
 subst aR
 subst vq
 try dsimp only at hM
 replace H : St w aP [cOwn (α := Int) 3 aQ r2, cMap I B ac aw] R := H.back ax rfl
 clear ax
 refine s_val (x_eqnil (α := Int) T34.und rfl rfl (ownSl (H.get (k := 0) rfl)) aS) <| sA (B r2.isEmpty) rfl <| s_nil ?_
 refine W.ret ?_
 have aT := M.e_pure hM
 exact ⟨_, resE_tmp rfl, ⟨r2.isEmpty, aw, aT, rfl, (H.pick [1] (by decide) rfl)⟩⟩

def za6 (x : Int) (aa : List Work) (ab : List Int) (ac : Int -> Option Bool) (ae : Int) : M (Bool × (Int -> Option Bool)) :=
  M.bind (zbr x aa ab ac ae) fun (r2, ag) =>
  M.pure ((!r2), ag)
theorem zb0 {R : List Chunk} {ab : Nat} {ac : Nat} {ak : Nat} {al : Nat} {am : Cells} {ao : Value} {ap : Nat} {aq : Cells} {au : Value} {aa : Nat} {ae : Nat} (x : Int) (ag : List Work) (ah : List Int) (ai : Int -> Option Bool) (aj : Int) (ax : Reads R am) (ay : Sl am ao ag) (az : Has R (cBlk al [ao] 187)) (aA : Reads R aq) (aB : Sl aq au ah) (aC : Has R (cBlk ap [au] 34)) (aD : Has R (cBlk ak [Pz al, .func (.func 118) #[] #[Pz ap], .map (some aa)] 211)) (aE : Has R (cBlk ac [Pz ak] 160)) (aF : Has R (cBlk ae [I aj] 3)) (aG : Has R (cBlk ab [.func (.func 119) #[] #[Pz ac, Pz ae]] 75)) {r : (Bool × (Int -> Option Bool))} (hM : (za6 x ag ah ai aj).Ends r) (w : World) (H : St w w [cMap I B aa ai] R) : Ret Try.prog 143 #[I x, Pz ab] w fun v w' => ∃ (y0 : Bool) (y1 : Int -> Option Bool), (y0, y1) = r /\ v = B y0 /\ St w w' [cMap I B aa y1] R := by
 refine ret_of_W Try.func143 rfl rfl rfl ?_
 refine sQ rfl <| sA (B false) rfl <| s_nil <| sQ rfl <| s_val (x_ld (p := Pz ab) (v := .func (.func 119) #[] #[Pz ac, Pz ae]) rfl (ldb_sc Sc75 (aG.blk H) rfl)) <| sM (I x) rfl ?_
 obtain ⟨aL, aH, hM⟩ := M.e_bind hM
 refine s_callv (f := 119) rfl cf119 [I x] rfl (zco x ag ah ai aj (ax.app _) ay (az.app _) (aA.app _) aB (aC.app _) (aD.app _) (aE.app _) (aF.app _) aH _ (St.give (T := []) H rfl)) ?_
 rintro vq aI ⟨r2, av, aJ, hvq, aw⟩
 subst aJ
 subst vq
 try dsimp only at hM
 replace H : St w aI [cMap I B aa av] R := H.back aw rfl
 clear aw
 refine s_val (x_not (b := r2) rfl) <| sA (B (!r2)) rfl <| s_nil ?_
 refine W.ret ?_
 have aK := M.e_pure hM
 exact ⟨_, resE_tmp rfl, ⟨(!r2), av, aK, rfl, H⟩⟩

def za3 (s : List Int) (ab : List Work) (ac : List Int) (ae : Int) : ((Int -> Option Bool) × Nat) -> M (((Int -> Option Bool) × Nat) ⊕ ((Int × (Int -> Option Bool)) ⊕ (Int -> Option Bool))) := fun (mp, s2) =>
  bif decide ((s2 : Int) < (s.length : Int)) then (
  M.grd (decide ((s2 : Int) < (s.length : Int))) <|
  M.bind (za6 (s.getD s2 0) ab ac mp ae) fun (r2, aa) =>
  bif r2 then (
  M.pure (.inr (.inl ((s2 : Int), aa))))
  else (
  M.pure (.inl (aa, s2 + 1))))
  else (
  M.pure (.inr (.inr mp)))
def zbq (s : List Int) (aa : List Work) (ab : List Int) (ac : Int -> Option Bool) (ae : Int) : M (Int × (Int -> Option Bool)) :=
  M.bind (M.iter (za3 s aa ab ae) (ac, 0)) fun x_ => match x_ with
  | (.inl (s3, ag)) => (
  M.pure (s3, ag))
  | (.inr ah) => (
  M.pure ((-1), ah))
theorem zb1 {R : List Chunk} {au : Cells} {aa : Value} {ae : Nat} {av : Nat} {aw : Nat} {ax : Nat} {ay : Cells} {az : Value} {aA : Nat} {aB : Cells} {aC : Value} {ab : Nat} {aD : Nat} (s : List Int) (ag : List Work) (ah : List Int) (ak : Int -> Option Bool) (ai : Int) (aH : Reads R au) (aj : Sl au aa s) (aI : Reads R ay) (aJ : Sl ay az ag) (aK : Has R (cBlk ax [az] 187)) (aL : Reads R aB) (aM : Sl aB aC ah) (aN : Has R (cBlk aA [aC] 34)) (aO : Has R (cBlk aw [Pz ax, .func (.func 118) #[] #[Pz aA], .map (some ab)] 211)) (aP : Has R (cBlk av [Pz aw] 160)) (aQ : Has R (cBlk aD [I ai] 3)) (aR : Has R (cBlk ae [.func (.func 119) #[] #[Pz av, Pz aD]] 75)) {r : (Int × (Int -> Option Bool))} (hM : (zbq s ag ah ak ai).Ends r) (w : World) (H : St w w [cMap I B ab ak] R) : Ret Try.prog 102 #[aa, .func (.func 143) #[] #[Pz ae]] w fun v w' => ∃ (y0 : Int) (y1 : Int -> Option Bool), (y0, y1) = r /\ v = I y0 /\ St w w' [cMap I B ab y1] R := by
 refine ret_of_W Try.func102 rfl rfl rfl ?_
 refine sQ rfl <| sA (I 0) rfl <| s_nil <| W.seq <| sQ rfl <| sM aa rfl ?_
 have a5 := (aj).len_le
 refine s_val (x_lenS T34.und rfl aj) <| sM (I 0) rfl <| s_nil <| W.block ?_
 obtain ⟨aS, al, aE⟩ := M.e_bind hM
 obtain ⟨a6, al⟩ := M.e_iter al
 refine W.loop (fun m σ W => ∃ (mp : Int -> Option Bool) (s2 : Nat) (ρ : Env), σ = upds ρ [(0, aa), (1, .func (.func 143) #[] #[Pz ae]), (7, I (s.length : Int)), (8, I (s2 : Int))] /\ M.iterN (za3 s ag ah ai) m (mp, s2) = some aS /\ St w W [cMap I B ab mp] R) ?_ ?_
 ·exact ⟨_, ak, 0, _, upds_of _ _ ⟨rfl, rfl, rfl, rfl, trivial⟩, al, H⟩
 rintro a7 σ a8 ⟨mp, s2, ρ, rfl, aF, H⟩
 obtain ⟨aT, aU, a9, hM, am⟩ := M.e_iterN aF
 simp only [za3] at hM
 clear aF
 refine sQ rfl <| sC (s2 : Int) (s.length : Int) (decide ((s2 : Int) < (s.length : Int))) rfl rfl rfl <| s_nil <| W.seq ?_
 refine W.cond (decide ((s2 : Int) < (s.length : Int))) rfl (fun ac => ?_) (fun ac => ?_)
 ·replace hM := M.e_t hM ac
  simp only [qz1, qz2, qz3, qz4, qz5, qz6, ne_eq, qz7] at ac
  refine W.skip <| W.seq <| W.block <| sQ rfl <| sM (I (s2 : Int)) rfl <| sA (I (s2 : Int)) rfl <| s_nil <| sQ rfl <| sM (.func (.func 143) #[] #[Pz ae]) rfl <| sM aa rfl ?_
  refine sM (I (s2 : Int)) rfl ?_
  obtain ⟨ba, hM⟩ := M.e_gd hM
  refine s_val (x_ix (a := aa) (b := I (s2 : Int)) (v := vat aa 1 (Int.toNat (s2 : Int))) rfl rfl (Sl.ix (α := Int) T34.und T34.size aj (by omega) (by omega))) <| s_val (x_ld (p := vat aa 1 (Int.toNat (s2 : Int))) (v := I (s.getD s2 0)) rfl (ld_sc Sc3 (At.mono (Int_at aj (i := (s2 : Int)) (by omega) (by omega)) (aH.at H)))) ?_
  obtain ⟨bb, aV, hM⟩ := M.e_bind hM
  refine s_callv (f := 143) rfl cf143 [I (s.getD s2 0)] rfl (zb0 (s.getD s2 0) ag ah mp ai (aI.app _) aJ (aK.app _) (aL.app _) aM (aN.app _) (aO.app _) (aP.app _) (aQ.app _) (aR.app _) aV _ (St.give (T := []) H rfl)) ?_
  rintro vq aW ⟨r2, ao, aX, hvq, aG⟩
  subst aX
  subst vq
  try dsimp only at hM
  replace H : St w aW [cMap I B ab ao] R := H.back aG rfl
  clear aG
  refine s_nil ?_
  refine W.cond r2 rfl (fun ap => ?_) (fun ap => ?_)
  ·replace hM := M.e_t hM ap
   refine sQ rfl <| sM (I (s2 : Int)) rfl <| sA (I (s2 : Int)) rfl <| s_nil ?_
   refine W.ret ?_
   have aY := M.e_inr hM am
   subst aY
   replace hM := aE
   try dsimp only at hM
   have aq := M.e_pure hM
   exact ⟨_, resE_tmp rfl, ⟨(s2 : Int), ao, aq, rfl, H⟩⟩
  replace hM := M.e_f hM ap
  refine W.skip <| W.region rfl <| sR (s2 : Int) 1 ((s2 : Int) + 1) rfl rfl rfl (by omega) <| sM (I ((s2 : Int) + 1)) rfl <| s_nil ?_
  exact ⟨aT, aU, ao, s2 + 1, _, upds_of _ _ ⟨rfl, rfl, rfl, rfl, trivial⟩, M.e_inl hM am, H⟩
 replace hM := M.e_f hM ac
 simp only [qz1, qz2, qz3, qz4, qz5, qz6, ne_eq, qz7] at ac
 refine W.exit ?_
 have aZ := M.e_inr hM am
 subst aZ
 replace hM := aE
 try dsimp only at hM
 refine sQ rfl <| sA (I (-1)) rfl <| s_nil ?_
 refine W.ret ?_
 have aq := M.e_pure hM
 exact ⟨_, resE_tmp rfl, ⟨(-1), mp, aq, rfl, H⟩⟩

def zbI (s : List Int) (aa : List Work) (ab : List Int) (ac : Int -> Option Bool) (ae : Int) : M (Bool × (Int -> Option Bool)) :=
  M.bind (zbq s aa ab ac ae) fun (r2, ag) =>
  M.pure ((decide (0 <= r2)), ag)
theorem zb7 {R : List Chunk} {aj : Cells} {aa : Value} {ab : Nat} {ak : Nat} {al : Nat} {am : Nat} {ao : Cells} {ap : Value} {aq : Nat} {au : Cells} {av : Value} {ac : Nat} {aw : Nat} (s : List Int) (ae : List Work) (ag : List Int) (ah : Int -> Option Bool) (ai : Int) (az : Reads R aj) (aA : Sl aj aa s) (aB : Reads R ao) (aC : Sl ao ap ae) (aD : Has R (cBlk am [ap] 187)) (aE : Reads R au) (aF : Sl au av ag) (aG : Has R (cBlk aq [av] 34)) (aH : Has R (cBlk al [Pz am, .func (.func 118) #[] #[Pz aq], .map (some ac)] 211)) (aI : Has R (cBlk ak [Pz al] 160)) (aJ : Has R (cBlk aw [I ai] 3)) (aK : Has R (cBlk ab [.func (.func 119) #[] #[Pz ak, Pz aw]] 75)) {r : (Bool × (Int -> Option Bool))} (hM : (zbI s ae ag ah ai).Ends r) (w : World) (H : St w w [cMap I B ac ah] R) : Ret Try.prog 48 #[aa, .func (.func 143) #[] #[Pz ab]] w fun v w' => ∃ (y0 : Bool) (y1 : Int -> Option Bool), (y0, y1) = r /\ v = B y0 /\ St w w' [cMap I B ac y1] R := by
 refine ret_of_W Try.func48 rfl rfl rfl ?_
 refine sQ rfl <| sA (B false) rfl <| s_nil <| sQ rfl <| sM aa rfl <| sM (.func (.func 143) #[] #[Pz ab]) rfl ?_
 obtain ⟨aP, aL, hM⟩ := M.e_bind hM
 refine s_call cf102 [aa, .func (.func 143) #[] #[Pz ab]] rfl (zb1 s ae ag ah ai (az.app _) aA (aB.app _) aC (aD.app _) (aE.app _) aF (aG.app _) (aH.app _) (aI.app _) (aJ.app _) (aK.app _) aL _ (St.give (T := []) H rfl)) ?_
 rintro vq aM ⟨r2, ax, aN, hvq, ay⟩
 subst aN
 subst vq
 try dsimp only at hM
 replace H : St w aM [cMap I B ac ax] R := H.back ay rfl
 clear ay
 refine sC r2 0 (decide (0 <= r2)) rfl rfl rfl <| sA (B (decide (0 <= r2))) rfl <| s_nil ?_
 refine W.ret ?_
 have aO := M.e_pure hM
 exact ⟨_, resE_tmp rfl, ⟨(decide (0 <= r2)), ax, aO, rfl, H⟩⟩

def za1 (aa : List Work) (ab : List Int) (ac : Int -> Option Bool) (ae : Int) (l : List Int) : M (Bool × (Int -> Option Bool)) :=
  M.bind (zbI l aa ab ac ae) fun (r2, ag) =>
  M.pure ((!r2), ag)
theorem zbK {R : List Chunk} {aa : Nat} {al : Nat} {am : Nat} {ao : Cells} {ap : Value} {aq : Nat} {au : Cells} {av : Value} {ac : Nat} {ab : Nat} {aw : Cells} {ah : Value} (ai : List Work) (aj : List Int) (ae : Int -> Option Bool) (ak : Int) (l : List Int) (az : Reads R ao) (aA : Sl ao ap ai) (aB : Has R (cBlk am [ap] 187)) (aC : Reads R au) (aD : Sl au av aj) (aE : Has R (cBlk aq [av] 34)) (aF : Has R (cBlk al [Pz am, .func (.func 118) #[] #[Pz aq], .map (some ac)] 211)) (aG : Has R (cBlk aa [Pz al] 160)) (aH : Has R (cBlk ab [I ak] 3)) (aI : Reads R aw) (aJ : Sl aw ah l) {r : (Bool × (Int -> Option Bool))} (hM : (za1 ai aj ae ak l).Ends r) (w : World) (H : St w w [cMap I B ac ae] R) : Ret Try.prog 87 #[.func (.func 119) #[] #[Pz aa, Pz ab], ah] w fun v w' => ∃ (y0 : Bool) (y1 : Int -> Option Bool), (y0, y1) = r /\ v = B y0 /\ St w w' [cMap I B ac y1] R := by
 refine ret_of_W Try.func87 rfl rfl rfl ?_
 refine sQ rfl ?_
 refine t_box (v := .func (.func 119) #[] #[Pz aa, Pz ab]) (cs := [.func (.func 119) #[] #[Pz aa, Pz ab]]) H rfl rfl ?_
 intro ag aO H
 refine sA (B false) rfl <| s_nil <| sQ rfl <| sM ah rfl <| s_val (x_mf (fs := []) (cs := [Pz ag]) rfl rfl) ?_
 obtain ⟨aP, aK, hM⟩ := M.e_bind hM
 refine s_call cf48 [ah, .func (.func 143) #[] #[Pz ag]] rfl (zb7 l ai aj ae ak (aI.app _) aJ (az.app _) aA (aB.app _) (aC.app _) aD (aE.app _) (aF.app _) (aG.app _) (aH.app _) (Has.here (k := 0) rfl) aK _ (St.give (L := [cMap I B ac ae, cBlk ag [.func (.func 119) #[] #[Pz aa, Pz ab]] 75]) (A := [cMap I B ac ae]) (T := [cBlk ag [.func (.func 119) #[] #[Pz aa, Pz ab]] 75]) (H.pick [1, 0] (by decide) rfl) rfl)) ?_
 rintro vq aL ⟨r2, ax, aM, hvq, ay⟩
 subst aM
 subst vq
 try dsimp only at hM
 replace H : St w aL [cMap I B ac ax, cBlk ag [.func (.func 119) #[] #[Pz aa, Pz ab]] 75] R := H.pick [1, 0] (by decide) rfl |>.back ay rfl
 clear ay
 refine s_val (x_not (b := r2) rfl) <| sA (B (!r2)) rfl <| s_nil ?_
 refine W.ret ?_
 have aN := M.e_pure hM
 exact ⟨_, resE_tmp rfl, ⟨(!r2), ax, aN, rfl, (H.pick [0] (by decide) rfl)⟩⟩

def zaU (w_ : List Work) (revised : List Int) (work : Int) (frozen : List Int) : M (Bool × Int) :=
  M.bind (zaD w_ revised work) fun x_ => match x_ with
  | (.inl r1) => (
  bif r1 == 0 then (
  bif (listedE w_.length frozen) != 0 then (
  M.pure (false, (listedE w_.length frozen)))
  else (
  M.bind (M.opt (!(frozen.contains work)) (zaf frozen (fun aa => zad aa revised)) false) fun r2 =>
  bif ((frozen.contains work) || r2) then (
  M.pure (false, 7))
  else (
  M.fail)))
  else (
  bif r1 != 0 then (
  M.pure (false, r1))
  else (
  M.bind (M.opt (!(frozen.contains work)) (zaf frozen (fun aa => zad aa revised)) false) fun r2 =>
  bif ((frozen.contains work) || r2) then (
  M.pure (false, 7))
  else (
  M.fail))))
  | (.inr ab) => (
  bif ab == 0 then (
  bif (listedE w_.length frozen) != 0 then (
  M.pure (false, (listedE w_.length frozen)))
  else (
  M.bind (M.opt (!(frozen.contains work)) (zaf frozen (fun aa => zad aa revised)) false) fun r2 =>
  bif ((frozen.contains work) || r2) then (
  M.pure (false, 7))
  else (
  M.bind (zbv w_ (fun aa => zac aa frozen)) fun ac =>
  M.bind (za1 w_ frozen ac work revised) fun (r3, ae) =>
  M.pure (r3, 0))))
  else (
  bif ab != 0 then (
  M.pure (false, ab))
  else (
  M.bind (M.opt (!(frozen.contains work)) (zaf frozen (fun aa => zad aa revised)) false) fun r2 =>
  bif ((frozen.contains work) || r2) then (
  M.pure (false, 7))
  else (
  M.bind (zbv w_ (fun aa => zac aa frozen)) fun ac =>
  M.bind (za1 w_ frozen ac work revised) fun (r3, ae) =>
  M.pure (r3, 0)))))
theorem zbJ {R : List Chunk} {a8 : Cells} {aG : Value} {a9 : Cells} {ae : Value} {ba : Cells} {aa : Value} (w_ : List Work) (revised : List Int) (work : Int) (frozen : List Int) (aI : Reads R a8) (aJ : Sl a8 aG w_) (aK : Reads R a9) (aH : Sl a9 ae revised) (ax : Reads R ba) (av : Sl ba aa frozen) {r : (Bool × Int)} (hM : (zaU w_ revised work frozen).Ends r) (w : World) (H : St w w [] R) : Ret Try.prog 59 #[aG, ae, I work, aa] w fun v w' => ∃ (y0 : Bool) (y1 : Int), (y0, y1) = r /\ v = .tuple #[B y0, I y1] /\ St w w' [] R := by
 refine ret_of_W Try.func59 rfl rfl rfl ?_
 refine sQ rfl ?_
 refine t_box (v := ae) (cs := [ae]) H rfl (Sl.cells aH) ?_
 intro ac bF H
 refine t_box (v := I work) (cs := [I work]) H rfl rfl ?_
 intro ag bG H
 refine t_box (v := aa) (cs := [aa]) H rfl (Sl.cells av) ?_
 intro ab bH H
 refine sA (B false) rfl <| sA (I 0) rfl <| s_nil <| sQ rfl <| sM aG rfl <| s_val (x_ld (p := Pz ac) (v := ae) rfl (ldb_sc Sc34 (H.blk (k := 2) rfl) rfl)) <| s_val (x_ld (p := Pz ag) (v := I work) rfl (ldb_sc Sc3 (H.blk (k := 1) rfl) rfl)) ?_
 obtain ⟨bI, bc, hM⟩ := M.e_bind hM
 refine s_call cf116 [aG, ae, I work] rfl (zbw w_ revised work (aI.app _) aJ (aK.app _) aH bc _ (St.give (T := [cBlk ab [aa] 34, cBlk ag [I work] 3, cBlk ac [ae] 34]) H rfl)) ?_
 rintro vq bb (⟨r1, bf, hvq, am⟩ | ⟨ao, al, au, bg, hvq, am, aX⟩)
 ·subst bf
  subst vq
  try dsimp only at hM
  replace H : St w bb [cBlk ab [aa] 34, cBlk ag [I work] 3, cBlk ac [ae] 34] R := H.back am rfl
  clear am
  refine sM (.tuple #[.pointer none, I r1]) rfl <| sX [.pointer none, I r1] (.pointer none) rfl rfl <| sX [.pointer none, I r1] (I r1) rfl rfl <| sA (.pointer none) rfl <| sA (I r1) rfl <| s_nil <| W.seq <| sQ rfl <| sM (I r1) rfl <| sC r1 0 (r1 == 0) rfl rfl rfl <| s_nil ?_
  refine W.cond (r1 == 0) rfl (fun aM => ?_) (fun aM => ?_)
  ·replace hM := M.e_t hM aM
   simp only [qz1, qz2, qz3, qz4, qz5, qz6, ne_eq, qz7] at aM
   refine W.region rfl <| sM aG rfl <| s_val (x_ld (p := Pz ab) (v := aa) rfl (ldb_sc Sc34 (H.blk (k := 0) rfl) rfl)) ?_
   refine s_call cf96 [aG, aa] rfl (listed_any _ (aJ.mono (aI.at H)) (av.mono (ax.at H))) ?_
   rintro _ bh ⟨rfl, ap⟩
   replace H : St w bh [cBlk ab [aa] 34, cBlk ag [I work] 3, cBlk ac [ae] 34] R := H.ext ap
   clear ap
   refine sA (I (listedE w_.length frozen)) rfl <| s_nil <| W.seq <| W.block <| sQ rfl <| sM (I (listedE w_.length frozen)) rfl <| sC (listedE w_.length frozen) 0 ((listedE w_.length frozen) != 0) rfl rfl rfl <| sA (B ((listedE w_.length frozen) != 0)) rfl <| s_nil ?_
   refine W.cond ((listedE w_.length frozen) != 0) rfl (fun aN => ?_) (fun aN => ?_)
   ·replace hM := M.e_t hM aN
    simp only [qz1, qz2, qz3, qz4, qz5, qz6, ne_eq, qz7] at aN
    refine sQ rfl <| sM (I (listedE w_.length frozen)) rfl <| sA (B false) rfl <| sA (I (listedE w_.length frozen)) rfl <| s_nil ?_
    refine W.ret ?_
    have ah := M.e_pure hM
    exact ⟨_, resE_tmp2 rfl, ⟨false, (listedE w_.length frozen), ah, rfl, (H.pick [] (by decide) rfl)⟩⟩
   replace hM := M.e_f hM aN
   simp only [qz1, qz2, qz3, qz4, qz5, qz6, ne_eq, qz7] at aN
   refine sQ rfl <| s_val (x_ld (p := Pz ab) (v := aa) rfl (ldb_sc Sc34 (H.blk (k := 0) rfl) rfl)) <| s_val (x_ld (p := Pz ag) (v := I work) rfl (ldb_sc Sc3 (H.blk (k := 1) rfl) rfl)) ?_
   refine s_call cf45 [aa, I work] rfl (contains_int work _ (av.mono (ax.at H))) ?_
   rintro _ bi ⟨rfl, ap⟩
   replace H : St w bi [cBlk ab [aa] 34, cBlk ag [I work] 3, cBlk ac [ae] 34] R := H.ext ap
   clear ap
   refine sM (B (frozen.contains work)) rfl <| g_val (!(frozen.contains work)) (gy_f rfl) (fun hg => x_ld (p := Pz ab) (v := aa) rfl (ldb_sc Sc34 (H.blk (k := 0) rfl) rfl)) <| g_val (!(frozen.contains work)) (gy_f rfl) (fun hg => x_mf (fs := []) (cs := [Pz ac]) rfl rfl) ?_
   obtain ⟨r2, bj, hM⟩ := M.e_bind hM
   refine t_gcall (!(frozen.contains work)) (gy_f rfl) cf48 (B r2) (fun _ => [aa, .func (.func 117) #[] #[Pz ac]]) (fun hg => lst2 (gd_of (c := !(frozen.contains work)) hg (aa)) (gd_of (c := !(frozen.contains work)) hg (.func (.func 117) #[] #[Pz ac]))) H (fun hg => (zar frozen (fun aj => zad aj revised) (ax.app _) av ⟨117, [Pz ac], rfl, cf117, fun aq aO aP ay aj aQ az aR aA aB => by obtain rfl := Arg.int aA; exact (zbo aj revised (Reads.app (aK.app _) _) aH (Has.app (Has.here (k := 2) rfl) _) aB aq (St.refl az)).mono fun ay aq ⟨aS, aC, aD, aE⟩ => by subst aC; exact ⟨aD, aE⟩⟩ (M.e_opt bj hg) _ (H.give (A := []) rfl)).mono fun v_ w_ ⟨y_, ah, aL, H_⟩ => by subst ah; exact ⟨aL, H.via H_⟩) ?_
   intro bJ H
   refine s_val (x_por (b := frozen.contains work) (r := r2) rfl rfl (fun hb => gd_of (c := !(frozen.contains work)) (by first | exact hb | (rw [hb]; rfl) | simp_all) (B r2))) <| sA (B ((frozen.contains work) || r2)) rfl <| s_nil ?_
   refine W.cond ((frozen.contains work) || r2) rfl (fun aY => ?_) (fun aY => ?_)
   ·replace hM := M.e_t hM aY
    refine sQ rfl <| sA (B false) rfl <| sA (I 7) rfl <| s_nil ?_
    refine W.ret ?_
    have ah := M.e_pure hM
    exact ⟨_, resE_tmp2 rfl, ⟨false, 7, ah, rfl, (H.pick [] (by decide) rfl)⟩⟩
   replace hM := M.e_f hM aY
   refine W.skip <| sQ rfl <| sM (.pointer none) rfl <| s_val (x_mf (fs := []) (cs := [Pz ab]) rfl rfl) ?_
   exact (M.e_fail hM).elim
  replace hM := M.e_f hM aM
  simp only [qz1, qz2, qz3, qz4, qz5, qz6, ne_eq, qz7] at aM
  refine W.skip <| W.seq <| W.block <| sQ rfl <| sM (I r1) rfl <| sC r1 0 (r1 != 0) rfl rfl rfl <| sA (B (r1 != 0)) rfl <| s_nil ?_
  refine W.cond (r1 != 0) rfl (fun aT => ?_) (fun aT => ?_)
  ·replace hM := M.e_t hM aT
   simp only [qz1, qz2, qz3, qz4, qz5, qz6, ne_eq, qz7] at aT
   refine sQ rfl <| sM (I r1) rfl <| sA (B false) rfl <| sA (I r1) rfl <| s_nil ?_
   refine W.ret ?_
   have ah := M.e_pure hM
   exact ⟨_, resE_tmp2 rfl, ⟨false, r1, ah, rfl, (H.pick [] (by decide) rfl)⟩⟩
  replace hM := M.e_f hM aT
  simp only [qz1, qz2, qz3, qz4, qz5, qz6, ne_eq, qz7] at aT
  refine sQ rfl <| s_val (x_ld (p := Pz ab) (v := aa) rfl (ldb_sc Sc34 (H.blk (k := 0) rfl) rfl)) <| s_val (x_ld (p := Pz ag) (v := I work) rfl (ldb_sc Sc3 (H.blk (k := 1) rfl) rfl)) ?_
  refine s_call cf45 [aa, I work] rfl (contains_int work _ (av.mono (ax.at H))) ?_
  rintro _ bk ⟨rfl, ap⟩
  replace H : St w bk [cBlk ab [aa] 34, cBlk ag [I work] 3, cBlk ac [ae] 34] R := H.ext ap
  clear ap
  refine sM (B (frozen.contains work)) rfl <| g_val (!(frozen.contains work)) (gy_f rfl) (fun hg => x_ld (p := Pz ab) (v := aa) rfl (ldb_sc Sc34 (H.blk (k := 0) rfl) rfl)) <| g_val (!(frozen.contains work)) (gy_f rfl) (fun hg => x_mf (fs := []) (cs := [Pz ac]) rfl rfl) ?_
  obtain ⟨r2, bl, hM⟩ := M.e_bind hM
  refine t_gcall (!(frozen.contains work)) (gy_f rfl) cf48 (B r2) (fun _ => [aa, .func (.func 117) #[] #[Pz ac]]) (fun hg => lst2 (gd_of (c := !(frozen.contains work)) hg (aa)) (gd_of (c := !(frozen.contains work)) hg (.func (.func 117) #[] #[Pz ac]))) H (fun hg => (zar frozen (fun aj => zad aj revised) (ax.app _) av ⟨117, [Pz ac], rfl, cf117, fun aq aO aP ay aj aQ az aR aA aB => by obtain rfl := Arg.int aA; exact (zbo aj revised (Reads.app (aK.app _) _) aH (Has.app (Has.here (k := 2) rfl) _) aB aq (St.refl az)).mono fun ay aq ⟨aS, aC, aD, aE⟩ => by subst aC; exact ⟨aD, aE⟩⟩ (M.e_opt bl hg) _ (H.give (A := []) rfl)).mono fun v_ w_ ⟨y_, ah, aL, H_⟩ => by subst ah; exact ⟨aL, H.via H_⟩) ?_
  intro bK H
  refine s_val (x_por (b := frozen.contains work) (r := r2) rfl rfl (fun hb => gd_of (c := !(frozen.contains work)) (by first | exact hb | (rw [hb]; rfl) | simp_all) (B r2))) <| sA (B ((frozen.contains work) || r2)) rfl <| s_nil ?_
  refine W.cond ((frozen.contains work) || r2) rfl (fun aZ => ?_) (fun aZ => ?_)
  ·replace hM := M.e_t hM aZ
   refine sQ rfl <| sA (B false) rfl <| sA (I 7) rfl <| s_nil ?_
   refine W.ret ?_
   have ah := M.e_pure hM
   exact ⟨_, resE_tmp2 rfl, ⟨false, 7, ah, rfl, (H.pick [] (by decide) rfl)⟩⟩
  replace hM := M.e_f hM aZ
  refine W.skip <| sQ rfl <| sM (.pointer none) rfl <| s_val (x_mf (fs := []) (cs := [Pz ab]) rfl rfl) ?_
  exact (M.e_fail hM).elim
 subst bg
 subst vq
 try dsimp only at hM
 replace H : St w bb [cRo au, cBlk ab [aa] 34, cBlk ag [I work] 3, cBlk ac [ae] 34] R := H.back am rfl
 clear am
 refine sM (.tuple #[Pz al, I ao]) rfl <| sX [Pz al, I ao] (Pz al) rfl rfl <| sX [Pz al, I ao] (I ao) rfl rfl <| sA (Pz al) rfl <| sA (I ao) rfl <| s_nil <| W.seq <| sQ rfl <| sM (I ao) rfl <| sC ao 0 (ao == 0) rfl rfl rfl <| s_nil ?_
 refine W.cond (ao == 0) rfl (fun aU => ?_) (fun aU => ?_)
 ·replace hM := M.e_t hM aU
  simp only [qz1, qz2, qz3, qz4, qz5, qz6, ne_eq, qz7] at aU
  refine W.region rfl <| sM aG rfl <| s_val (x_ld (p := Pz ab) (v := aa) rfl (ldb_sc Sc34 (H.blk (k := 1) rfl) rfl)) ?_
  refine s_call cf96 [aG, aa] rfl (listed_any _ (aJ.mono (aI.at H)) (av.mono (ax.at H))) ?_
  rintro _ bm ⟨rfl, ap⟩
  replace H : St w bm [cRo au, cBlk ab [aa] 34, cBlk ag [I work] 3, cBlk ac [ae] 34] R := H.ext ap
  clear ap
  refine sA (I (listedE w_.length frozen)) rfl <| s_nil <| W.seq <| W.block <| sQ rfl <| sM (I (listedE w_.length frozen)) rfl <| sC (listedE w_.length frozen) 0 ((listedE w_.length frozen) != 0) rfl rfl rfl <| sA (B ((listedE w_.length frozen) != 0)) rfl <| s_nil ?_
  refine W.cond ((listedE w_.length frozen) != 0) rfl (fun aV => ?_) (fun aV => ?_)
  ·replace hM := M.e_t hM aV
   simp only [qz1, qz2, qz3, qz4, qz5, qz6, ne_eq, qz7] at aV
   refine sQ rfl <| sM (I (listedE w_.length frozen)) rfl <| sA (B false) rfl <| sA (I (listedE w_.length frozen)) rfl <| s_nil ?_
   refine W.ret ?_
   have ah := M.e_pure hM
   exact ⟨_, resE_tmp2 rfl, ⟨false, (listedE w_.length frozen), ah, rfl, (H.pick [] (by decide) rfl)⟩⟩
  replace hM := M.e_f hM aV
  simp only [qz1, qz2, qz3, qz4, qz5, qz6, ne_eq, qz7] at aV
  refine sQ rfl <| s_val (x_ld (p := Pz ab) (v := aa) rfl (ldb_sc Sc34 (H.blk (k := 1) rfl) rfl)) <| s_val (x_ld (p := Pz ag) (v := I work) rfl (ldb_sc Sc3 (H.blk (k := 2) rfl) rfl)) ?_
  refine s_call cf45 [aa, I work] rfl (contains_int work _ (av.mono (ax.at H))) ?_
  rintro _ bn ⟨rfl, ap⟩
  replace H : St w bn [cRo au, cBlk ab [aa] 34, cBlk ag [I work] 3, cBlk ac [ae] 34] R := H.ext ap
  clear ap
  refine sM (B (frozen.contains work)) rfl <| g_val (!(frozen.contains work)) (gy_f rfl) (fun hg => x_ld (p := Pz ab) (v := aa) rfl (ldb_sc Sc34 (H.blk (k := 1) rfl) rfl)) <| g_val (!(frozen.contains work)) (gy_f rfl) (fun hg => x_mf (fs := []) (cs := [Pz ac]) rfl rfl) ?_
  obtain ⟨r2, bo, hM⟩ := M.e_bind hM
  refine t_gcall (!(frozen.contains work)) (gy_f rfl) cf48 (B r2) (fun _ => [aa, .func (.func 117) #[] #[Pz ac]]) (fun hg => lst2 (gd_of (c := !(frozen.contains work)) hg (aa)) (gd_of (c := !(frozen.contains work)) hg (.func (.func 117) #[] #[Pz ac]))) H (fun hg => (zar frozen (fun aj => zad aj revised) (ax.app _) av ⟨117, [Pz ac], rfl, cf117, fun aq aO aP ay aj aQ az aR aA aB => by obtain rfl := Arg.int aA; exact (zbo aj revised (Reads.app (aK.app _) _) aH (Has.app (Has.here (k := 3) rfl) _) aB aq (St.refl az)).mono fun ay aq ⟨aS, aC, aD, aE⟩ => by subst aC; exact ⟨aD, aE⟩⟩ (M.e_opt bo hg) _ (H.give (A := []) rfl)).mono fun v_ w_ ⟨y_, ah, aL, H_⟩ => by subst ah; exact ⟨aL, H.via H_⟩) ?_
  intro bL H
  refine s_val (x_por (b := frozen.contains work) (r := r2) rfl rfl (fun hb => gd_of (c := !(frozen.contains work)) (by first | exact hb | (rw [hb]; rfl) | simp_all) (B r2))) <| sA (B ((frozen.contains work) || r2)) rfl <| s_nil ?_
  refine W.cond ((frozen.contains work) || r2) rfl (fun a5 => ?_) (fun a5 => ?_)
  ·replace hM := M.e_t hM a5
   refine sQ rfl <| sA (B false) rfl <| sA (I 7) rfl <| s_nil ?_
   refine W.ret ?_
   have ah := M.e_pure hM
   exact ⟨_, resE_tmp2 rfl, ⟨false, 7, ah, rfl, (H.pick [] (by decide) rfl)⟩⟩
  replace hM := M.e_f hM a5
  refine W.skip <| sQ rfl <| sM (Pz al) rfl <| s_val (x_mf (fs := []) (cs := [Pz ab]) rfl rfl) ?_
  obtain ⟨bM, bp, hM⟩ := M.e_bind hM
  refine s_call cf108 [Pz al, .func (.func 118) #[] #[Pz ab]] rfl (zbT w_ (fun aj => zac aj frozen) (aI.app _) aJ (Has.ro (k := 0) rfl aX) ⟨118, [Pz ab], rfl, cf118, fun aq aO aP ay aj aQ az aR aA aB => by obtain rfl := Arg.int aA; exact (zbu aj frozen (Reads.app (ax.app _) _) av (Has.app (Has.here (k := 1) rfl) _) aB aq (St.refl az)).mono fun ay aq ⟨aS, aC, aD, aE⟩ => by subst aC; exact ⟨aD, aE⟩⟩ bp _ (St.give (T := [cRo au, cBlk ab [aa] 34, cBlk ag [I work] 3, cBlk ac [ae] 34]) H rfl)) ?_
  rintro vq bq ⟨aF, ai, ak, br, hvq, am⟩
  subst br
  subst vq
  try dsimp only at hM
  replace H : St w bq [cBlk ai [Pz al, .func (.func 118) #[] #[Pz ab], .map (some ak)] 211, cMap I B ak aF, cRo au, cBlk ab [aa] 34, cBlk ag [I work] 3, cBlk ac [ae] 34] R := H.back am rfl
  clear am
  refine t_alloc (cs := [.pointer none]) H Al160 rfl ?_
  intro aw bN H
  refine t_st (k := 0) (b := aw) (off := 0) (cs := [.pointer none]) (vs := [Pz ai]) (cs' := [Pz ai]) (v := Pz ai) (L' := [cBlk aw [Pz ai] 160, cBlk ai [Pz al, .func (.func 118) #[] #[Pz ab], .map (some ak)] 211, cMap I B ak aF, cRo au, cBlk ab [aa] 34, cBlk ag [I work] 3, cBlk ac [ae] 34]) H rfl rfl rfl Sz160 rfl rfl rfl rfl rfl rfl ?_
  intro bO H
  refine s_nil <| sQ rfl <| s_val (x_mf (fs := []) (cs := [Pz aw, Pz ag]) rfl rfl) <| s_val (x_ld (p := Pz ac) (v := ae) rfl (ldb_sc Sc34 (H.blk (k := 6) rfl) rfl)) ?_
  obtain ⟨bP, bt, hM⟩ := M.e_bind hM
  refine s_call cf87 [.func (.func 119) #[] #[Pz aw, Pz ag], ae] rfl (zbK w_ frozen aF work revised (aI.app _) aJ (Has.ro (k := 2) rfl aX) (ax.app _) av (Has.here (k := 3) rfl) (Has.here (k := 1) rfl) (Has.here (k := 0) rfl) (Has.here (k := 4) rfl) (aK.app _) aH bt _ (St.give (L := [cMap I B ak aF, cBlk aw [Pz ai] 160, cBlk ai [Pz al, .func (.func 118) #[] #[Pz ab], .map (some ak)] 211, cRo au, cBlk ab [aa] 34, cBlk ag [I work] 3, cBlk ac [ae] 34]) (A := [cMap I B ak aF]) (T := [cBlk aw [Pz ai] 160, cBlk ai [Pz al, .func (.func 118) #[] #[Pz ab], .map (some ak)] 211, cRo au, cBlk ab [aa] 34, cBlk ag [I work] 3, cBlk ac [ae] 34]) (H.pick [2, 0, 1, 3, 4, 5, 6] (by decide) rfl) rfl)) ?_
  rintro vq bu ⟨r3, a6, bv, hvq, am⟩
  subst bv
  subst vq
  try dsimp only at hM
  replace H : St w bu [cMap I B ak a6, cBlk aw [Pz ai] 160, cBlk ai [Pz al, .func (.func 118) #[] #[Pz ab], .map (some ak)] 211, cRo au, cBlk ab [aa] 34, cBlk ag [I work] 3, cBlk ac [ae] 34] R := H.pick [2, 0, 1, 3, 4, 5, 6] (by decide) rfl |>.back am rfl
  clear am
  refine sA (B r3) rfl <| sA (I 0) rfl <| s_nil ?_
  refine W.ret ?_
  have ah := M.e_pure hM
  exact ⟨_, resE_tmp2 rfl, ⟨r3, 0, ah, rfl, (H.pick [] (by decide) rfl)⟩⟩
 replace hM := M.e_f hM aU
 simp only [qz1, qz2, qz3, qz4, qz5, qz6, ne_eq, qz7] at aU
 refine W.skip <| W.seq <| W.block <| sQ rfl <| sM (I ao) rfl <| sC ao 0 (ao != 0) rfl rfl rfl <| sA (B (ao != 0)) rfl <| s_nil ?_
 refine W.cond (ao != 0) rfl (fun aW => ?_) (fun aW => ?_)
 ·replace hM := M.e_t hM aW
  simp only [qz1, qz2, qz3, qz4, qz5, qz6, ne_eq, qz7] at aW
  refine sQ rfl <| sM (I ao) rfl <| sA (B false) rfl <| sA (I ao) rfl <| s_nil ?_
  refine W.ret ?_
  have ah := M.e_pure hM
  exact ⟨_, resE_tmp2 rfl, ⟨false, ao, ah, rfl, (H.pick [] (by decide) rfl)⟩⟩
 replace hM := M.e_f hM aW
 simp only [qz1, qz2, qz3, qz4, qz5, qz6, ne_eq, qz7] at aW
 refine sQ rfl <| s_val (x_ld (p := Pz ab) (v := aa) rfl (ldb_sc Sc34 (H.blk (k := 1) rfl) rfl)) <| s_val (x_ld (p := Pz ag) (v := I work) rfl (ldb_sc Sc3 (H.blk (k := 2) rfl) rfl)) ?_
 refine s_call cf45 [aa, I work] rfl (contains_int work _ (av.mono (ax.at H))) ?_
 rintro _ bw ⟨rfl, ap⟩
 replace H : St w bw [cRo au, cBlk ab [aa] 34, cBlk ag [I work] 3, cBlk ac [ae] 34] R := H.ext ap
 clear ap
 refine sM (B (frozen.contains work)) rfl <| g_val (!(frozen.contains work)) (gy_f rfl) (fun hg => x_ld (p := Pz ab) (v := aa) rfl (ldb_sc Sc34 (H.blk (k := 1) rfl) rfl)) <| g_val (!(frozen.contains work)) (gy_f rfl) (fun hg => x_mf (fs := []) (cs := [Pz ac]) rfl rfl) ?_
 obtain ⟨r2, bx, hM⟩ := M.e_bind hM
 refine t_gcall (!(frozen.contains work)) (gy_f rfl) cf48 (B r2) (fun _ => [aa, .func (.func 117) #[] #[Pz ac]]) (fun hg => lst2 (gd_of (c := !(frozen.contains work)) hg (aa)) (gd_of (c := !(frozen.contains work)) hg (.func (.func 117) #[] #[Pz ac]))) H (fun hg => (zar frozen (fun aj => zad aj revised) (ax.app _) av ⟨117, [Pz ac], rfl, cf117, fun aq aO aP ay aj aQ az aR aA aB => by obtain rfl := Arg.int aA; exact (zbo aj revised (Reads.app (aK.app _) _) aH (Has.app (Has.here (k := 3) rfl) _) aB aq (St.refl az)).mono fun ay aq ⟨aS, aC, aD, aE⟩ => by subst aC; exact ⟨aD, aE⟩⟩ (M.e_opt bx hg) _ (H.give (A := []) rfl)).mono fun v_ w_ ⟨y_, ah, aL, H_⟩ => by subst ah; exact ⟨aL, H.via H_⟩) ?_
 intro bQ H
 refine s_val (x_por (b := frozen.contains work) (r := r2) rfl rfl (fun hb => gd_of (c := !(frozen.contains work)) (by first | exact hb | (rw [hb]; rfl) | simp_all) (B r2))) <| sA (B ((frozen.contains work) || r2)) rfl <| s_nil ?_
 refine W.cond ((frozen.contains work) || r2) rfl (fun a7 => ?_) (fun a7 => ?_)
 ·replace hM := M.e_t hM a7
  refine sQ rfl <| sA (B false) rfl <| sA (I 7) rfl <| s_nil ?_
  refine W.ret ?_
  have ah := M.e_pure hM
  exact ⟨_, resE_tmp2 rfl, ⟨false, 7, ah, rfl, (H.pick [] (by decide) rfl)⟩⟩
 replace hM := M.e_f hM a7
 refine W.skip <| sQ rfl <| sM (Pz al) rfl <| s_val (x_mf (fs := []) (cs := [Pz ab]) rfl rfl) ?_
 obtain ⟨bR, bz, hM⟩ := M.e_bind hM
 refine s_call cf108 [Pz al, .func (.func 118) #[] #[Pz ab]] rfl (zbT w_ (fun aj => zac aj frozen) (aI.app _) aJ (Has.ro (k := 0) rfl aX) ⟨118, [Pz ab], rfl, cf118, fun aq aO aP ay aj aQ az aR aA aB => by obtain rfl := Arg.int aA; exact (zbu aj frozen (Reads.app (ax.app _) _) av (Has.app (Has.here (k := 1) rfl) _) aB aq (St.refl az)).mono fun ay aq ⟨aS, aC, aD, aE⟩ => by subst aC; exact ⟨aD, aE⟩⟩ bz _ (St.give (T := [cRo au, cBlk ab [aa] 34, cBlk ag [I work] 3, cBlk ac [ae] 34]) H rfl)) ?_
 rintro vq bA ⟨aF, ai, ak, bB, hvq, am⟩
 subst bB
 subst vq
 try dsimp only at hM
 replace H : St w bA [cBlk ai [Pz al, .func (.func 118) #[] #[Pz ab], .map (some ak)] 211, cMap I B ak aF, cRo au, cBlk ab [aa] 34, cBlk ag [I work] 3, cBlk ac [ae] 34] R := H.back am rfl
 clear am
 refine t_alloc (cs := [.pointer none]) H Al160 rfl ?_
 intro aw bS H
 refine t_st (k := 0) (b := aw) (off := 0) (cs := [.pointer none]) (vs := [Pz ai]) (cs' := [Pz ai]) (v := Pz ai) (L' := [cBlk aw [Pz ai] 160, cBlk ai [Pz al, .func (.func 118) #[] #[Pz ab], .map (some ak)] 211, cMap I B ak aF, cRo au, cBlk ab [aa] 34, cBlk ag [I work] 3, cBlk ac [ae] 34]) H rfl rfl rfl Sz160 rfl rfl rfl rfl rfl rfl ?_
 intro bT H
 refine s_nil <| sQ rfl <| s_val (x_mf (fs := []) (cs := [Pz aw, Pz ag]) rfl rfl) <| s_val (x_ld (p := Pz ac) (v := ae) rfl (ldb_sc Sc34 (H.blk (k := 6) rfl) rfl)) ?_
 obtain ⟨bU, bC, hM⟩ := M.e_bind hM
 refine s_call cf87 [.func (.func 119) #[] #[Pz aw, Pz ag], ae] rfl (zbK w_ frozen aF work revised (aI.app _) aJ (Has.ro (k := 2) rfl aX) (ax.app _) av (Has.here (k := 3) rfl) (Has.here (k := 1) rfl) (Has.here (k := 0) rfl) (Has.here (k := 4) rfl) (aK.app _) aH bC _ (St.give (L := [cMap I B ak aF, cBlk aw [Pz ai] 160, cBlk ai [Pz al, .func (.func 118) #[] #[Pz ab], .map (some ak)] 211, cRo au, cBlk ab [aa] 34, cBlk ag [I work] 3, cBlk ac [ae] 34]) (A := [cMap I B ak aF]) (T := [cBlk aw [Pz ai] 160, cBlk ai [Pz al, .func (.func 118) #[] #[Pz ab], .map (some ak)] 211, cRo au, cBlk ab [aa] 34, cBlk ag [I work] 3, cBlk ac [ae] 34]) (H.pick [2, 0, 1, 3, 4, 5, 6] (by decide) rfl) rfl)) ?_
 rintro vq bD ⟨r3, a6, bE, hvq, am⟩
 subst bE
 subst vq
 try dsimp only at hM
 replace H : St w bD [cMap I B ak a6, cBlk aw [Pz ai] 160, cBlk ai [Pz al, .func (.func 118) #[] #[Pz ab], .map (some ak)] 211, cRo au, cBlk ab [aa] 34, cBlk ag [I work] 3, cBlk ac [ae] 34] R := H.pick [2, 0, 1, 3, 4, 5, 6] (by decide) rfl |>.back am rfl
 clear am
 refine sA (B r3) rfl <| sA (I 0) rfl <| s_nil ?_
 refine W.ret ?_
 have ah := M.e_pure hM
 exact ⟨_, resE_tmp2 rfl, ⟨r3, 0, ah, rfl, (H.pick [] (by decide) rfl)⟩⟩

def zaL (s : List (List Int)) (f : (List Int) -> M Bool) : Nat -> M (Nat ⊕ (Int ⊕ Unit)) := fun s2 =>
  bif decide ((s2 : Int) < (s.length : Int)) then (
  M.grd (decide ((s2 : Int) < (s.length : Int))) <|
  M.bind (f (s.getD s2 ([]))) fun r2 =>
  bif r2 then (
  M.pure (.inr (.inl (s2 : Int))))
  else (
  M.pure (.inl (s2 + 1))))
  else (
  M.pure (.inr (.inr ())))
def zbx (s : List (List Int)) (f : (List Int) -> M Bool) : M Int :=
  M.bind (M.iter (zaL s f) 0) fun x_ => match x_ with
  | (.inl s3) => (
  M.pure s3)
  | (.inr (_ : Unit)) => (
  M.pure (-1))
theorem zb3 {R : List Chunk} {al : Cells} {aa : Value} {ac : Value} (s : List (List Int)) (f : (List Int) -> M Bool) (am : Reads R al) (ae : Sl al aa s) (au : FnM Try.prog R ac f) {r : Int} (hM : (zbx s f).Ends r) (w : World) (H : St w w [] R) : Ret Try.prog 185 #[aa, ac] w fun v w' => ∃ (y0 : Int), y0 = r /\ v = I y0 /\ St w w' [] R := by
 refine ret_of_W Try.func185 rfl rfl rfl ?_
 refine sQ rfl <| sA (I 0) rfl <| s_nil <| W.seq <| sQ rfl <| sM aa rfl ?_
 have aC := (ae).len_le
 refine s_val (x_lenS T73.und rfl ae) <| sM (I 0) rfl <| s_nil <| W.block ?_
 obtain ⟨av, ah, ao⟩ := M.e_bind hM
 obtain ⟨aD, ah⟩ := M.e_iter ah
 refine W.loop (fun m σ W => ∃ (s2 : Nat) (ρ : Env), σ = upds ρ [(0, aa), (1, ac), (7, I (s.length : Int)), (8, I (s2 : Int))] /\ M.iterN (zaL s f) m s2 = some av /\ St w W [] R) ?_ ?_
 ·exact ⟨_, 0, _, upds_of _ _ ⟨rfl, rfl, rfl, rfl, trivial⟩, ah, H⟩
 rintro aE σ aF ⟨s2, ρ, rfl, ap, H⟩
 obtain ⟨aw, ax, aG, hM, ai⟩ := M.e_iterN ap
 simp only [zaL] at hM
 clear ap
 refine sQ rfl <| sC (s2 : Int) (s.length : Int) (decide ((s2 : Int) < (s.length : Int))) rfl rfl rfl <| s_nil <| W.seq ?_
 refine W.cond (decide ((s2 : Int) < (s.length : Int))) rfl (fun ab => ?_) (fun ab => ?_)
 ·replace hM := M.e_t hM ab
  simp only [qz1, qz2, qz3, qz4, qz5, qz6, ne_eq, qz7] at ab
  refine W.skip <| W.seq <| W.block <| sQ rfl <| sM (I (s2 : Int)) rfl <| sA (I (s2 : Int)) rfl <| s_nil <| sQ rfl <| sM ac rfl <| sM aa rfl ?_
  refine sM (I (s2 : Int)) rfl ?_
  obtain ⟨aH, hM⟩ := M.e_gd hM
  refine s_val (x_ix (a := aa) (b := I (s2 : Int)) (v := vat aa 1 (Int.toNat (s2 : Int))) rfl rfl (Sl.ix (α := List Int) T73.und T73.size ae (by omega) (by omega))) ?_
  obtain ⟨aq, ay, ag⟩ := List_at ae (i := (s2 : Int)) (by omega) (by omega)
  replace ag : Sl _ aq (s.getD s2 ([])) := ag
  have aI := ag.len_le
  refine s_val (x_ld (p := vat aa 1 (Int.toNat (s2 : Int))) (v := aq) rfl (ld_sc Sc34 (At.mono (ay) (am.at H)))) ?_
  obtain ⟨r2, az, hM⟩ := M.e_bind hM
  refine t_callM H au rfl rfl (s.getD s2 ([])) (am.app _) (Arg.mkS ag) az ?_
  intro aJ H
  refine s_nil ?_
  refine W.cond r2 rfl (fun aj => ?_) (fun aj => ?_)
  ·replace hM := M.e_t hM aj
   refine sQ rfl <| sM (I (s2 : Int)) rfl <| sA (I (s2 : Int)) rfl <| s_nil ?_
   refine W.ret ?_
   have aA := M.e_inr hM ai
   subst aA
   replace hM := ao
   try dsimp only at hM
   have ak := M.e_pure hM
   exact ⟨_, resE_tmp rfl, ⟨(s2 : Int), ak, rfl, H⟩⟩
  replace hM := M.e_f hM aj
  refine W.skip <| W.region rfl <| sR (s2 : Int) 1 ((s2 : Int) + 1) rfl rfl rfl (by omega) <| sM (I ((s2 : Int) + 1)) rfl <| s_nil ?_
  exact ⟨aw, ax, s2 + 1, _, upds_of _ _ ⟨rfl, rfl, rfl, rfl, trivial⟩, M.e_inl hM ai, H⟩
 replace hM := M.e_f hM ab
 simp only [qz1, qz2, qz3, qz4, qz5, qz6, ne_eq, qz7] at ab
 refine W.exit ?_
 have aB := M.e_inr hM ai
 subst aB
 replace hM := ao
 try dsimp only at hM
 refine sQ rfl <| sA (I (-1)) rfl <| s_nil ?_
 refine W.ret ?_
 have ak := M.e_pure hM
 exact ⟨_, resE_tmp rfl, ⟨(-1), ak, rfl, H⟩⟩

def zby (s : List (List Int)) (f : (List Int) -> M Bool) : M Bool :=
  M.bind (zbx s f) fun r2 =>
  M.pure (decide (0 <= r2))
theorem zcc {R : List Chunk} {ac : Cells} {aa : Value} {ab : Value} (s : List (List Int)) (f : (List Int) -> M Bool) (ag : Reads R ac) (ah : Sl ac aa s) (ai : FnM Try.prog R ab f) {r : Bool} (hM : (zby s f).Ends r) (w : World) (H : St w w [] R) : Ret Try.prog 157 #[aa, ab] w fun v w' => ∃ (y0 : Bool), y0 = r /\ v = B y0 /\ St w w' [] R := by
 refine ret_of_W Try.func157 rfl rfl rfl ?_
 refine sQ rfl <| sA (B false) rfl <| s_nil <| sQ rfl <| sM aa rfl <| sM ab rfl ?_
 obtain ⟨ao, aj, hM⟩ := M.e_bind hM
 refine s_call cf185 [aa, ab] rfl (zb3 s f (ag.app _) ah (ai.app _) aj _ (St.give (T := []) H rfl)) ?_
 rintro vq ak ⟨r2, al, hvq, ae⟩
 subst al
 subst vq
 try dsimp only at hM
 replace H : St w ak [] R := H.back ae rfl
 clear ae
 refine sC r2 0 (decide (0 <= r2)) rfl rfl rfl <| sA (B (decide (0 <= r2))) rfl <| s_nil ?_
 refine W.ret ?_
 have am := M.e_pure hM
 exact ⟨_, resE_tmp rfl, ⟨(decide (0 <= r2)), am, rfl, H⟩⟩

def zaW (x : List Int) (aa : (List Int) -> M Bool) : M Bool :=
  M.bind (aa x) fun r2 =>
  M.pure (!r2)
theorem zck {R : List Chunk} {ae : Cells} {aa : Value} {ab : Nat} {ac : Value} (x : List Int) (ag : (List Int) -> M Bool) (ah : Reads R ae) (ai : Sl ae aa x) (aj : FnM Try.prog R ac ag) (ak : Has R (cBlk ab [ac] 159)) {r : Bool} (hM : (zaW x ag).Ends r) (w : World) (H : St w w [] R) : Ret Try.prog 158 #[aa, Pz ab] w fun v w' => ∃ (y0 : Bool), y0 = r /\ v = B y0 /\ St w w' [] R := by
 refine ret_of_W Try.func158 rfl rfl rfl ?_
 refine sQ rfl <| sA (B false) rfl <| s_nil <| sQ rfl <| s_val (x_ld (p := Pz ab) (v := ac) rfl (ldb_sc Sc159 (ak.blk H) rfl)) <| sM aa rfl ?_
 obtain ⟨r2, al, hM⟩ := M.e_bind hM
 refine t_callM H aj rfl rfl x (ah.app _) (Arg.mkS ai) al ?_
 intro ao H
 refine s_val (x_not (b := r2) rfl) <| sA (B (!r2)) rfl <| s_nil ?_
 refine W.ret ?_
 have am := M.e_pure hM
 exact ⟨_, resE_tmp rfl, ⟨(!r2), am, rfl, H⟩⟩

def zaF (so : (List Int) -> M Bool) (l : List (List Int)) : M Bool :=
  M.bind (zby l (fun aa => zaW aa so)) fun r2 =>
  M.pure (!r2)
theorem zbN {R : List Chunk} {aa : Value} {ag : Cells} {ac : Value} (so : (List Int) -> M Bool) (l : List (List Int)) (ah : FnM Try.prog R aa so) (ak : Reads R ag) (al : Sl ag ac l) {r : Bool} (hM : (zaF so l).Ends r) (w : World) (H : St w w [] R) : Ret Try.prog 122 #[aa, ac] w fun v w' => ∃ (y0 : Bool), y0 = r /\ v = B y0 /\ St w w' [] R := by
 refine ret_of_W Try.func122 rfl rfl rfl ?_
 refine sQ rfl ?_
 refine t_box (v := aa) (cs := [aa]) H rfl (FnM.cells ah) ?_
 intro ab aD H
 refine sA (B false) rfl <| s_nil <| sQ rfl <| sM ac rfl <| s_val (x_mf (fs := []) (cs := [Pz ab]) rfl rfl) ?_
 obtain ⟨aE, am, hM⟩ := M.e_bind hM
 refine s_call cf157 [ac, .func (.func 158) #[] #[Pz ab]] rfl (zcc l (fun ae => zaW ae so) (ak.app _) al ⟨158, [Pz ab], rfl, cf158, fun ai aF aG ao ae aH ap aq au av => by have aw := Arg.list au; exact (zck ae so aq aw (FnM.app (ah.app _) _) (Has.app (Has.here (k := 0) rfl) _) av ai (St.refl ap)).mono fun ao ai ⟨aI, ax, ay, az⟩ => by subst ax; exact ⟨ay, az⟩⟩ am _ (St.give (T := [cBlk ab [aa] 159]) H rfl)) ?_
 rintro vq aA ⟨r2, aB, hvq, aj⟩
 subst aB
 subst vq
 try dsimp only at hM
 replace H : St w aA [cBlk ab [aa] 159] R := H.back aj rfl
 clear aj
 refine s_val (x_not (b := r2) rfl) <| sA (B (!r2)) rfl <| s_nil ?_
 refine W.ret ?_
 have aC := M.e_pure hM
 exact ⟨_, resE_tmp rfl, ⟨(!r2), aC, rfl, (H.pick [] (by decide) rfl)⟩⟩

def zbj (i : Int) (aa : List Work) : M Bool :=
  M.pure (inB i 0 ((aa.length : Int) - 1))
theorem zb2 {R : List Chunk} {ab : Nat} {ae : Cells} {ac : Value} (i : Int) (aa : List Work) (al : Reads R ae) (ag : Sl ae ac aa) (ai : Has R (cBlk ab [ac] 22)) {r : Bool} (hM : (zbj i aa).Ends r) (w : World) (H : St w w [] R) : Ret Try.prog 124 #[I i, Pz ab] w fun v w' => ∃ (y0 : Bool), y0 = r /\ v = B y0 /\ St w w' [] R := by
 refine ret_of_W Try.func124 rfl rfl rfl ?_
 refine sQ rfl <| sA (B false) rfl <| s_nil <| sQ rfl <| sM (I i) rfl <| s_val (x_ld (p := Pz ab) (v := ac) rfl (ldb_sc Sc22 (ai.blk H) rfl)) ?_
 have am := (ag).len_le
 refine s_val (x_lenS T22.und rfl ag) <| sR (aa.length : Int) 1 ((aa.length : Int) - 1) rfl rfl rfl (by omega) ?_
 refine s_call cf84 [I i, I 0, I ((aa.length : Int) - 1)] rfl (in_any i 0 ((aa.length : Int) - 1) _) ?_
 rintro _ aj ⟨rfl, ah⟩
 replace H : St w aj [] R := H.ext ah
 clear ah
 refine sA (B (inB i 0 ((aa.length : Int) - 1))) rfl <| s_nil ?_
 refine W.ret ?_
 have ak := M.e_pure hM
 exact ⟨_, resE_tmp rfl, ⟨(inB i 0 ((aa.length : Int) - 1)), ak, rfl, H⟩⟩

def zaI (l : List Int) (aa : List Work) : M Bool :=
  M.bind (zaG (fun ab => zbj ab aa) l) fun r2 =>
  M.pure r2
theorem zbO {R : List Chunk} {ag : Cells} {ab : Value} {aa : Nat} {ah : Cells} {ai : Value} (l : List Int) (ac : List Work) (al : Reads R ag) (am : Sl ag ab l) (ao : Reads R ah) (ap : Sl ah ai ac) (aq : Has R (cBlk aa [ai] 22)) {r : Bool} (hM : (zaI l ac).Ends r) (w : World) (H : St w w [] R) : Ret Try.prog 123 #[ab, Pz aa] w fun v w' => ∃ (y0 : Bool), y0 = r /\ v = B y0 /\ St w w' [] R := by
 refine ret_of_W Try.func123 rfl rfl rfl ?_
 refine sQ rfl <| sA (B false) rfl <| s_nil <| sQ rfl <| s_val (x_mf (fs := []) (cs := [Pz aa]) rfl rfl) <| sM ab rfl ?_
 obtain ⟨aF, au, hM⟩ := M.e_bind hM
 refine s_call cf87 [.func (.func 124) #[] #[Pz aa], ab] rfl (zbi (fun ae => zbj ae ac) l ⟨124, [Pz aa], rfl, cf124, fun aj aG aH av ae aI aw aJ ax ay => by obtain rfl := Arg.int ax; exact (zb2 ae ac (Reads.app (ao.app _) _) ap (Has.app (aq.app _) _) ay aj (St.refl aw)).mono fun av aj ⟨aK, az, aA, aB⟩ => by subst az; exact ⟨aA, aB⟩⟩ (al.app _) am au _ (St.give (T := []) H rfl)) ?_
 rintro vq aC ⟨r2, aD, hvq, ak⟩
 subst aD
 subst vq
 try dsimp only at hM
 replace H : St w aC [] R := H.back ak rfl
 clear ak
 refine sA (B r2) rfl <| s_nil ?_
 refine W.ret ?_
 have aE := M.e_pure hM
 exact ⟨_, resE_tmp rfl, ⟨r2, aE, rfl, H⟩⟩

def zbC (lines : List (List Int)) : ((List Bool) × Nat) -> M (((List Bool) × Nat) ⊕ (List Bool)) := fun (aa, s2) =>
  bif decide ((s2 : Int) < (lines.length : Int)) then (
  M.grd (decide ((s2 : Int) < (lines.length : Int))) <|
  M.fail)
  else (
  M.pure (.inr aa))
def zaK (revised : List Int) (work : Int) (lines : List (List Int)) (s2 : Nat) : ((List Bool) × Nat) -> M (((List Bool) × Nat) ⊕ ((List Bool) ⊕ (List Bool))) := fun (ar, s) =>
  bif decide ((s : Int) < ((((lines.getD s2 ([])).take (Int.toNat (((lines.getD s2 ([])).length : Int) - 1))).drop 1).length : Int)) then (
  M.grd (decide ((s : Int) < ((((lines.getD s2 ([])).take (Int.toNat (((lines.getD s2 ([])).length : Int) - 1))).drop 1).length : Int))) <|
  M.grd (decide ((0 : Int) <= ((((lines.getD s2 ([])).take (Int.toNat (((lines.getD s2 ([])).length : Int) - 1))).drop 1).getD s 0)) && decide (((((lines.getD s2 ([])).take (Int.toNat (((lines.getD s2 ([])).length : Int) - 1))).drop 1).getD s 0) < (30 : Int))) <|
  bif (((ar.getD (Int.toNat ((((lines.getD s2 ([])).take (Int.toNat (((lines.getD s2 ([])).length : Int) - 1))).drop 1).getD s 0)) false) || (((((lines.getD s2 ([])).take (Int.toNat (((lines.getD s2 ([])).length : Int) - 1))).drop 1).getD s 0) == work)) || (revised.contains ((((lines.getD s2 ([])).take (Int.toNat (((lines.getD s2 ([])).length : Int) - 1))).drop 1).getD s 0))) then (
  M.pure (.inr (.inl ar)))
  else (
  M.pure (.inl (ar.set (Int.toNat ((((lines.getD s2 ([])).take (Int.toNat (((lines.getD s2 ([])).length : Int) - 1))).drop 1).getD s 0)) true, s + 1))))
  else (
  M.pure (.inr (.inr ar)))
def zaC (w_ : List Work) (revised : List Int) (work : Int) (lines : List (List Int)) : ((List Bool) × Nat) -> M (((List Bool) × Nat) ⊕ ((List Bool) ⊕ (List Bool))) := fun (aa, s2) =>
  bif decide ((s2 : Int) < (lines.length : Int)) then (
  M.grd (decide ((s2 : Int) < (lines.length : Int))) <|
  M.bind (M.opt (!(decide (((lines.getD s2 ([])).length : Int) < 2))) (za2 w_ (lines.getD s2 ([]))) false) fun r3 =>
  M.grd ((!(!((decide (((lines.getD s2 ([])).length : Int) < 2)) || (!r3))) || (decide (0 < ((lines.getD s2 ([])).length : Int))))) <|
  M.grd ((!(!(((decide (((lines.getD s2 ([])).length : Int) < 2)) || (!r3)) || (!(revised.contains ((lines.getD s2 ([])).getD 0 0))))) || (decide ((0 : Int) <= (((lines.getD s2 ([])).length : Int) - 1)) && decide ((((lines.getD s2 ([])).length : Int) - 1) < ((lines.getD s2 ([])).length : Int))))) <|
  bif ((((decide (((lines.getD s2 ([])).length : Int) < 2)) || (!r3)) || (!(revised.contains ((lines.getD s2 ([])).getD 0 0)))) || (((lines.getD s2 ([])).getD (Int.toNat (((lines.getD s2 ([])).length : Int) - 1)) 0) != work)) then (
  M.pure (.inr (.inl aa)))
  else (
  M.grd (decide ((0 : Int) <= 1) && decide (1 <= (((lines.getD s2 ([])).length : Int) - 1)) && decide ((((lines.getD s2 ([])).length : Int) - 1) <= ((lines.getD s2 ([])).length : Int))) <|
  M.bind (M.iter (zaK revised work lines s2) (aa, 0)) fun x_ => match x_ with
  | (.inl ab) => (
  M.pure (.inr (.inl ab)))
  | (.inr ac) => (
  M.pure (.inl (ac, s2 + 1)))))
  else (
  M.pure (.inr (.inr aa)))
def zbl (w_ : List Work) (revised : List Int) (work : Int) (lines : List (List Int)) : M (Bool × Int) :=
  M.bind (zaD w_ revised work) fun x_ => match x_ with
  | (.inl r1) => (
  bif r1 != 0 then (
  M.pure (false, r1))
  else (
  bif decide (30 < (lines.length : Int)) then (
  M.pure (false, 3))
  else (
  M.bind (zaF (fun aa => zaI aa w_) lines) fun r2 =>
  bif !r2 then (
  M.pure (false, 2))
  else (
  M.bind (M.iter (zbC lines) (List.replicate 30 false, 0)) fun ac =>
  M.pure (true, 0)))))
  | (.inr ab) => (
  bif ab != 0 then (
  M.pure (false, ab))
  else (
  bif decide (30 < (lines.length : Int)) then (
  M.pure (false, 3))
  else (
  M.bind (zaF (fun aa => zaI aa w_) lines) fun r2 =>
  bif !r2 then (
  M.pure (false, 2))
  else (
  M.bind (M.iter (zaC w_ revised work lines) (List.replicate 30 false, 0)) fun x_ => match x_ with
  | (.inl ae) => (
  M.pure (false, 0))
  | (.inr ac) => (
  M.pure (true, 0))))))
theorem zcj {R : List Chunk} {bj : Cells} {ai : Value} {bk : Cells} {aj : Value} {bl : Cells} {ag : Value} (w_ : List Work) (revised : List Int) (work : Int) (lines : List (List Int)) (aO : Reads R bj) (aC : Sl bj ai w_) (aR : Reads R bk) (aS : Sl bk aj revised) (av : Reads R bl) (ak : Sl bl ag lines) {r : (Bool × Int)} (hM : (zbl w_ revised work lines).Ends r) (w : World) (H : St w w [] R) : Ret Try.prog 61 #[ai, aj, I work, ag] w fun v w' => ∃ (y0 : Bool) (y1 : Int), (y0, y1) = r /\ v = .tuple #[B y0, I y1] /\ St w w' [] R := by
 refine ret_of_W Try.func61 rfl rfl rfl ?_
 refine sQ rfl ?_
 refine t_box (v := ai) (cs := [ai]) H rfl (Sl.cells aC) ?_
 intro ah cc H
 refine sA (B false) rfl <| sA (I 0) rfl <| s_nil <| sQ rfl <| s_val (x_ld (p := Pz ah) (v := ai) rfl (ldb_sc Sc22 (H.blk (k := 0) rfl) rfl)) <| sM aj rfl <| sM (I work) rfl ?_
 obtain ⟨cd, bu, hM⟩ := M.e_bind hM
 refine s_call cf116 [ai, aj, I work] rfl (zbw w_ revised work (aO.app _) aC (aR.app _) aS bu _ (St.give (T := [cBlk ah [ai] 22]) H rfl)) ?_
 rintro vq bm (⟨r1, bv, hvq, ap⟩ | ⟨ao, aq, az, bw, hvq, ap, bx⟩)
 ·subst bv
  subst vq
  try dsimp only at hM
  replace H : St w bm [cBlk ah [ai] 22] R := H.back ap rfl
  clear ap
  refine sM (.tuple #[.pointer none, I r1]) rfl <| sX [.pointer none, I r1] (.pointer none) rfl rfl <| sX [.pointer none, I r1] (I r1) rfl rfl <| sA (.pointer none) rfl <| sA (I r1) rfl <| s_nil <| W.seq <| W.block <| sQ rfl <| sM (I r1) rfl <| sC r1 0 (r1 != 0) rfl rfl rfl ?_
  refine sA (B (r1 != 0)) rfl <| s_nil ?_
  refine W.cond (r1 != 0) rfl (fun aD => ?_) (fun aD => ?_)
  ·replace hM := M.e_t hM aD
   simp only [qz1, qz2, qz3, qz4, qz5, qz6, ne_eq, qz7] at aD
   refine sQ rfl <| sM (I r1) rfl <| sA (B false) rfl <| sA (I r1) rfl <| s_nil ?_
   refine W.ret ?_
   have ac := M.e_pure hM
   exact ⟨_, resE_tmp2 rfl, ⟨false, r1, ac, rfl, (H.pick [] (by decide) rfl)⟩⟩
  replace hM := M.e_f hM aD
  simp only [qz1, qz2, qz3, qz4, qz5, qz6, ne_eq, qz7] at aD
  refine sQ rfl <| sM ag rfl ?_
  have ce := (ak).len_le
  refine s_val (x_lenS T73.und rfl ak) <| sC (lines.length : Int) 30 (decide (30 < (lines.length : Int))) rfl rfl rfl <| sA (B (decide (30 < (lines.length : Int)))) rfl <| s_nil ?_
  refine W.cond (decide (30 < (lines.length : Int))) rfl (fun aE => ?_) (fun aE => ?_)
  ·replace hM := M.e_t hM aE
   simp only [qz1, qz2, qz3, qz4, qz5, qz6, ne_eq, qz7] at aE
   refine sQ rfl <| sA (B false) rfl <| sA (I 3) rfl <| s_nil ?_
   refine W.ret ?_
   have ac := M.e_pure hM
   exact ⟨_, resE_tmp2 rfl, ⟨false, 3, ac, rfl, (H.pick [] (by decide) rfl)⟩⟩
  replace hM := M.e_f hM aE
  simp only [qz1, qz2, qz3, qz4, qz5, qz6, ne_eq, qz7] at aE
  refine sQ rfl <| s_val (x_mf (fs := []) (cs := [Pz ah]) rfl rfl) <| sM ag rfl ?_
  obtain ⟨cf, bz, hM⟩ := M.e_bind hM
  refine s_call cf122 [.func (.func 123) #[] #[Pz ah], ag] rfl (zbN (fun aw => zaI aw w_) lines ⟨123, [Pz ah], rfl, cf123, fun aF bA bB aT aw bC aU aV aW aX => by have aY := Arg.list aW; exact (zbO aw w_ aV aY (Reads.app (aO.app _) _) aC (Has.app (Has.here (k := 0) rfl) _) aX aF (St.refl aU)).mono fun aT aF ⟨bD, aZ, a5, a6⟩ => by subst aZ; exact ⟨a5, a6⟩⟩ (av.app _) ak bz _ (St.give (T := [cBlk ah [ai] 22]) H rfl)) ?_
  rintro vq bE ⟨r2, bF, hvq, ap⟩
  subst bF
  subst vq
  try dsimp only at hM
  replace H : St w bE [cBlk ah [ai] 22] R := H.back ap rfl
  clear ap
  refine s_val (x_not (b := r2) rfl) <| sA (B (!r2)) rfl <| s_nil ?_
  refine W.cond (!r2) rfl (fun a7 => ?_) (fun a7 => ?_)
  ·replace hM := M.e_t hM a7
   refine sQ rfl <| sA (B false) rfl <| sA (I 2) rfl <| s_nil ?_
   refine W.ret ?_
   have ac := M.e_pure hM
   exact ⟨_, resE_tmp2 rfl, ⟨false, 2, ac, rfl, (H.pick [] (by decide) rfl)⟩⟩
  replace hM := M.e_f hM a7
  refine W.skip <| sQ rfl ?_
  refine t_alloc (cs := encB (List.replicate 30 false)) H Al141 rfl ?_
  intro al cg H
  have a8 : (List.replicate 30 false).length = 30 := by simp
  refine s_nil <| W.seq <| sQ rfl <| sM ag rfl ?_
  have ci := (ak).len_le
  refine s_val (x_lenS T73.und rfl ak) <| sM (I 0) rfl <| s_nil <| W.block ?_
  obtain ⟨bG, a9, bH⟩ := M.e_bind hM
  obtain ⟨bn, a9⟩ := M.e_iter a9
  refine W.loop (fun m σ W => ∃ (au : List Bool) (s2 : Nat) (ρ : Env), σ = upds ρ [(1, aj), (2, I work), (10, .pointer none), (12, Pz al), (37, ag), (38, I (lines.length : Int)), (39, I (s2 : Int))] /\ M.iterN (zbC lines) m (au, s2) = some bG /\ St w W [cBlk al (encB au) 141, cBlk ah [ai] 22] R /\ au.length = 30) ?_ ?_
  ·exact ⟨_, List.replicate 30 false, 0, _, upds_of _ _ ⟨rfl, rfl, rfl, rfl, rfl, rfl, rfl, trivial⟩, a9, H, a8⟩
  rintro cj σ ck ⟨au, s2, ρ, rfl, bo, H, bp⟩
  obtain ⟨cm, cn, co, hM, bI⟩ := M.e_iterN bo
  simp only [zbC] at hM
  clear bo
  refine sQ rfl <| sC (s2 : Int) (lines.length : Int) (decide ((s2 : Int) < (lines.length : Int))) rfl rfl rfl <| s_nil <| W.seq ?_
  refine W.cond (decide ((s2 : Int) < (lines.length : Int))) rfl (fun aG => ?_) (fun aG => ?_)
  ·replace hM := M.e_t hM aG
   simp only [qz1, qz2, qz3, qz4, qz5, qz6, ne_eq, qz7] at aG
   refine W.skip <| W.seq <| W.block <| sQ rfl ?_
   obtain ⟨cp, hM⟩ := M.e_gd hM
   refine s_val (x_ix (a := ag) (b := I (s2 : Int)) (v := vat ag 1 (Int.toNat (s2 : Int))) rfl rfl (Sl.ix (α := List Int) T73.und T73.size ak (by omega) (by omega))) ?_
   obtain ⟨aH, bJ, aI⟩ := List_at ak (i := (s2 : Int)) (by omega) (by omega)
   replace aI : Sl _ aH (lines.getD s2 ([])) := aI
   have cq := aI.len_le
   refine s_val (x_ld (p := vat ag 1 (Int.toNat (s2 : Int))) (v := aH) rfl (ld_sc Sc34 (At.mono (bJ) (av.at H)))) <| sA aH rfl <| s_nil <| W.seq <| sQ rfl <| sM aH rfl ?_
   have cr := (aI).len_le
   refine s_val (x_lenS T34.und rfl aI) <| sC ((lines.getD s2 ([])).length : Int) 2 (decide (((lines.getD s2 ([])).length : Int) < 2)) rfl rfl rfl <| sM (B (decide (((lines.getD s2 ([])).length : Int) < 2))) rfl <| g_val (!(decide (((lines.getD s2 ([])).length : Int) < 2))) (gy_f rfl) (fun hg => x_mv (v := .pointer none) rfl) <| g_val (!(decide (((lines.getD s2 ([])).length : Int) < 2))) (gy_f rfl) (fun hg => x_mv (v := aH) rfl) ?_
   exact (M.e_fail hM).elim
  replace hM := M.e_f hM aG
  simp only [qz1, qz2, qz3, qz4, qz5, qz6, ne_eq, qz7] at aG
  refine W.exit ?_
  have bK := M.e_inr hM bI
  subst bK
  replace hM := bH
  try dsimp only at hM
  refine sQ rfl <| sA (B true) rfl <| sA (I 0) rfl <| s_nil ?_
  refine W.ret ?_
  have ac := M.e_pure hM
  exact ⟨_, resE_tmp2 rfl, ⟨true, 0, ac, rfl, (H.pick [] (by decide) rfl)⟩⟩
 subst bw
 subst vq
 try dsimp only at hM
 replace H : St w bm [cRo az, cBlk ah [ai] 22] R := H.back ap rfl
 clear ap
 refine sM (.tuple #[Pz aq, I ao]) rfl <| sX [Pz aq, I ao] (Pz aq) rfl rfl <| sX [Pz aq, I ao] (I ao) rfl rfl <| sA (Pz aq) rfl <| sA (I ao) rfl <| s_nil <| W.seq <| W.block <| sQ rfl <| sM (I ao) rfl <| sC ao 0 (ao != 0) rfl rfl rfl ?_
 refine sA (B (ao != 0)) rfl <| s_nil ?_
 refine W.cond (ao != 0) rfl (fun aJ => ?_) (fun aJ => ?_)
 ·replace hM := M.e_t hM aJ
  simp only [qz1, qz2, qz3, qz4, qz5, qz6, ne_eq, qz7] at aJ
  refine sQ rfl <| sM (I ao) rfl <| sA (B false) rfl <| sA (I ao) rfl <| s_nil ?_
  refine W.ret ?_
  have ac := M.e_pure hM
  exact ⟨_, resE_tmp2 rfl, ⟨false, ao, ac, rfl, (H.pick [] (by decide) rfl)⟩⟩
 replace hM := M.e_f hM aJ
 simp only [qz1, qz2, qz3, qz4, qz5, qz6, ne_eq, qz7] at aJ
 refine sQ rfl <| sM ag rfl ?_
 have ct := (ak).len_le
 refine s_val (x_lenS T73.und rfl ak) <| sC (lines.length : Int) 30 (decide (30 < (lines.length : Int))) rfl rfl rfl <| sA (B (decide (30 < (lines.length : Int)))) rfl <| s_nil ?_
 refine W.cond (decide (30 < (lines.length : Int))) rfl (fun aK => ?_) (fun aK => ?_)
 ·replace hM := M.e_t hM aK
  simp only [qz1, qz2, qz3, qz4, qz5, qz6, ne_eq, qz7] at aK
  refine sQ rfl <| sA (B false) rfl <| sA (I 3) rfl <| s_nil ?_
  refine W.ret ?_
  have ac := M.e_pure hM
  exact ⟨_, resE_tmp2 rfl, ⟨false, 3, ac, rfl, (H.pick [] (by decide) rfl)⟩⟩
 replace hM := M.e_f hM aK
 simp only [qz1, qz2, qz3, qz4, qz5, qz6, ne_eq, qz7] at aK
 refine sQ rfl <| s_val (x_mf (fs := []) (cs := [Pz ah]) rfl rfl) <| sM ag rfl ?_
 obtain ⟨cu, bL, hM⟩ := M.e_bind hM
 refine s_call cf122 [.func (.func 123) #[] #[Pz ah], ag] rfl (zbN (fun aw => zaI aw w_) lines ⟨123, [Pz ah], rfl, cf123, fun aF bA bB aT aw bC aU aV aW aX => by have aY := Arg.list aW; exact (zbO aw w_ aV aY (Reads.app (aO.app _) _) aC (Has.app (Has.here (k := 1) rfl) _) aX aF (St.refl aU)).mono fun aT aF ⟨bD, aZ, a5, a6⟩ => by subst aZ; exact ⟨a5, a6⟩⟩ (av.app _) ak bL _ (St.give (T := [cRo az, cBlk ah [ai] 22]) H rfl)) ?_
 rintro vq bM ⟨r2, bN, hvq, ap⟩
 subst bN
 subst vq
 try dsimp only at hM
 replace H : St w bM [cRo az, cBlk ah [ai] 22] R := H.back ap rfl
 clear ap
 refine s_val (x_not (b := r2) rfl) <| sA (B (!r2)) rfl <| s_nil ?_
 refine W.cond (!r2) rfl (fun ba => ?_) (fun ba => ?_)
 ·replace hM := M.e_t hM ba
  refine sQ rfl <| sA (B false) rfl <| sA (I 2) rfl <| s_nil ?_
  refine W.ret ?_
  have ac := M.e_pure hM
  exact ⟨_, resE_tmp2 rfl, ⟨false, 2, ac, rfl, (H.pick [] (by decide) rfl)⟩⟩
 replace hM := M.e_f hM ba
 refine W.skip <| sQ rfl ?_
 refine t_alloc (cs := encB (List.replicate 30 false)) H Al141 rfl ?_
 intro al cv H
 have a8 : (List.replicate 30 false).length = 30 := by simp
 refine s_nil <| W.seq <| sQ rfl <| sM ag rfl ?_
 have cw := (ak).len_le
 refine s_val (x_lenS T73.und rfl ak) <| sM (I 0) rfl <| s_nil <| W.block ?_
 obtain ⟨bO, bb, bc⟩ := M.e_bind hM
 obtain ⟨bn, bb⟩ := M.e_iter bb
 refine W.loop (fun m σ W => ∃ (au : List Bool) (s2 : Nat) (ρ : Env), σ = upds ρ [(1, aj), (2, I work), (10, Pz aq), (12, Pz al), (37, ag), (38, I (lines.length : Int)), (39, I (s2 : Int))] /\ M.iterN (zaC w_ revised work lines) m (au, s2) = some bO /\ St w W [cBlk al (encB au) 141, cRo az, cBlk ah [ai] 22] R /\ au.length = 30) ?_ ?_
 ·exact ⟨_, List.replicate 30 false, 0, _, upds_of _ _ ⟨rfl, rfl, rfl, rfl, rfl, rfl, rfl, trivial⟩, bb, H, a8⟩
 rintro cx σ cy ⟨au, s2, ρ, rfl, bq, H, bp⟩
 obtain ⟨bP, bQ, cz, hM, aP⟩ := M.e_iterN bq
 simp only [zaC] at hM
 clear bq
 refine sQ rfl <| sC (s2 : Int) (lines.length : Int) (decide ((s2 : Int) < (lines.length : Int))) rfl rfl rfl <| s_nil <| W.seq ?_
 refine W.cond (decide ((s2 : Int) < (lines.length : Int))) rfl (fun aL => ?_) (fun aL => ?_)
 ·replace hM := M.e_t hM aL
  simp only [qz1, qz2, qz3, qz4, qz5, qz6, ne_eq, qz7] at aL
  refine W.skip <| W.seq <| W.block <| sQ rfl ?_
  obtain ⟨cA, hM⟩ := M.e_gd hM
  refine s_val (x_ix (a := ag) (b := I (s2 : Int)) (v := vat ag 1 (Int.toNat (s2 : Int))) rfl rfl (Sl.ix (α := List Int) T73.und T73.size ak (by omega) (by omega))) ?_
  obtain ⟨ab, bR, am⟩ := List_at ak (i := (s2 : Int)) (by omega) (by omega)
  replace am : Sl _ ab (lines.getD s2 ([])) := am
  have cB := am.len_le
  refine s_val (x_ld (p := vat ag 1 (Int.toNat (s2 : Int))) (v := ab) rfl (ld_sc Sc34 (At.mono (bR) (av.at H)))) <| sA ab rfl <| s_nil <| W.seq <| sQ rfl <| sM ab rfl ?_
  have cC := (am).len_le
  refine s_val (x_lenS T34.und rfl am) <| sC ((lines.getD s2 ([])).length : Int) 2 (decide (((lines.getD s2 ([])).length : Int) < 2)) rfl rfl rfl <| sM (B (decide (((lines.getD s2 ([])).length : Int) < 2))) rfl <| g_val (!(decide (((lines.getD s2 ([])).length : Int) < 2))) (gy_f rfl) (fun hg => x_mv (v := Pz aq) rfl) <| g_val (!(decide (((lines.getD s2 ([])).length : Int) < 2))) (gy_f rfl) (fun hg => x_mv (v := ab) rfl) ?_
  obtain ⟨r3, bS, hM⟩ := M.e_bind hM
  refine t_gcall (!(decide (((lines.getD s2 ([])).length : Int) < 2))) (gy_f rfl) cf107 (B r3) (fun _ => [Pz aq, ab]) (fun hg => lst2 (gd_of (c := !(decide (((lines.getD s2 ([])).length : Int) < 2))) hg (Pz aq)) (gd_of (c := !(decide (((lines.getD s2 ([])).length : Int) < 2))) hg (ab))) H (fun hg => (zcm w_ (lines.getD s2 ([])) (aO.app _) aC (Has.ro (k := 1) rfl bx) (av.app _) am (M.e_opt bS hg) _ (H.give (A := []) rfl)).mono fun v_ w_ ⟨y_, ac, aM, H_⟩ => by subst ac; exact ⟨aM, H.via H_⟩) ?_
  intro cD H
  refine g_val (!(decide (((lines.getD s2 ([])).length : Int) < 2))) (gy_f rfl) (fun hg => x_not (b := r3) (gd_of (c := !(decide (((lines.getD s2 ([])).length : Int) < 2))) hg (B r3))) <| s_val (x_por (b := decide (((lines.getD s2 ([])).length : Int) < 2)) (r := !r3) rfl rfl (fun hb => gd_of (c := !(decide (((lines.getD s2 ([])).length : Int) < 2))) (by first | exact hb | (rw [hb]; rfl) | simp_all) (B (!r3)))) <| sM (B ((decide (((lines.getD s2 ([])).length : Int) < 2)) || (!r3))) rfl <| g_val (!((decide (((lines.getD s2 ([])).length : Int) < 2)) || (!r3))) (gy_f rfl) (fun hg => x_mv (v := aj) rfl) <| g_val (!((decide (((lines.getD s2 ([])).length : Int) < 2)) || (!r3))) (gy_f rfl) (fun hg => x_mv (v := ab) rfl) ?_
  obtain ⟨ax, hM⟩ := M.e_grd hM
  replace ax := M.imp_of ax
  simp only [Bool.and_eq_true, decide_eq_true_eq] at ax
  refine g_val (!((decide (((lines.getD s2 ([])).length : Int) < 2)) || (!r3))) (gy_f rfl) (fun hg => x_ix (a := ab) (b := I 0) (v := vat ab 1 (Int.toNat 0)) (gd_of (c := !((decide (((lines.getD s2 ([])).length : Int) < 2)) || (!r3))) hg (ab)) rfl (Sl.ix (α := Int) T34.und T34.size am (by have aa := ax.resolve_left (by rw [hg]; decide); first | exact aa | exact aa.1 | exact aa.2 | omega | (have ae := hg; simp at ae; omega)) (by have aa := ax.resolve_left (by rw [hg]; decide); first | exact aa | exact aa.1 | exact aa.2 | omega | (have ae := hg; simp at ae; omega)))) <| g_val (!((decide (((lines.getD s2 ([])).length : Int) < 2)) || (!r3))) (gy_f rfl) (fun hg => x_ld (p := vat ab 1 (Int.toNat 0)) (v := I ((lines.getD s2 ([])).getD 0 0)) (gd_of (c := !((decide (((lines.getD s2 ([])).length : Int) < 2)) || (!r3))) hg (vat ab 1 (Int.toNat 0))) (ld_sc Sc3 (At.mono (Int_at am (i := 0) (by have aa := ax.resolve_left (by rw [hg]; decide); first | exact aa | exact aa.1 | exact aa.2 | omega | (have ae := hg; simp at ae; omega)) (by have aa := ax.resolve_left (by rw [hg]; decide); first | exact aa | exact aa.1 | exact aa.2 | omega | (have ae := hg; simp at ae; omega))) (av.at H)))) ?_
  refine t_gcall (!((decide (((lines.getD s2 ([])).length : Int) < 2)) || (!r3))) (gy_f rfl) cf45 (B (revised.contains ((lines.getD s2 ([])).getD 0 0))) (fun _ => [aj, I ((lines.getD s2 ([])).getD 0 0)]) (fun hg => lst2 (gd_of (c := !((decide (((lines.getD s2 ([])).length : Int) < 2)) || (!r3))) hg (aj)) (gd_of (c := !((decide (((lines.getD s2 ([])).length : Int) < 2)) || (!r3))) hg (I ((lines.getD s2 ([])).getD 0 0)))) H (fun hg => Ret.mono (contains_int ((lines.getD s2 ([])).getD 0 0) _ (aS.mono (aR.at H))) fun v_ w_ ⟨aM, ae⟩ => ⟨aM, H.ext ae⟩) ?_
  intro cE H
  refine g_val (!((decide (((lines.getD s2 ([])).length : Int) < 2)) || (!r3))) (gy_f rfl) (fun hg => x_not (b := revised.contains ((lines.getD s2 ([])).getD 0 0)) (gd_of (c := !((decide (((lines.getD s2 ([])).length : Int) < 2)) || (!r3))) hg (B (revised.contains ((lines.getD s2 ([])).getD 0 0))))) <| s_val (x_por (b := ((decide (((lines.getD s2 ([])).length : Int) < 2)) || (!r3))) (r := !(revised.contains ((lines.getD s2 ([])).getD 0 0))) rfl rfl (fun hb => gd_of (c := !((decide (((lines.getD s2 ([])).length : Int) < 2)) || (!r3))) (by first | exact hb | (rw [hb]; rfl) | simp_all) (B (!(revised.contains ((lines.getD s2 ([])).getD 0 0)))))) <| sM (B (((decide (((lines.getD s2 ([])).length : Int) < 2)) || (!r3)) || (!(revised.contains ((lines.getD s2 ([])).getD 0 0))))) rfl <| g_val (!(((decide (((lines.getD s2 ([])).length : Int) < 2)) || (!r3)) || (!(revised.contains ((lines.getD s2 ([])).getD 0 0))))) (gy_f rfl) (fun hg => x_mv (v := ab) rfl) <| g_val (!(((decide (((lines.getD s2 ([])).length : Int) < 2)) || (!r3)) || (!(revised.contains ((lines.getD s2 ([])).getD 0 0))))) (gy_f rfl) (fun hg => x_mv (v := ab) rfl) <| g_val (!(((decide (((lines.getD s2 ([])).length : Int) < 2)) || (!r3)) || (!(revised.contains ((lines.getD s2 ([])).getD 0 0))))) (gy_f rfl) (fun hg => x_lenS T34.und (gd_of (c := !(((decide (((lines.getD s2 ([])).length : Int) < 2)) || (!r3)) || (!(revised.contains ((lines.getD s2 ([])).getD 0 0))))) hg (ab)) am) <| g_val (!(((decide (((lines.getD s2 ([])).length : Int) < 2)) || (!r3)) || (!(revised.contains ((lines.getD s2 ([])).getD 0 0))))) (gy_f rfl) (fun hg => x_ari (a := ((lines.getD s2 ([])).length : Int)) (b := 1) (r := ((lines.getD s2 ([])).length : Int) - 1) (gd_of (c := !(((decide (((lines.getD s2 ([])).length : Int) < 2)) || (!r3)) || (!(revised.contains ((lines.getD s2 ([])).getD 0 0))))) hg (I ((lines.getD s2 ([])).length : Int))) rfl rfl (by first | omega | (have ae := hg; simp at ae; omega))) ?_
  obtain ⟨ay, hM⟩ := M.e_grd hM
  replace ay := M.imp_of ay
  simp only [Bool.and_eq_true, decide_eq_true_eq] at ay
  refine g_val (!(((decide (((lines.getD s2 ([])).length : Int) < 2)) || (!r3)) || (!(revised.contains ((lines.getD s2 ([])).getD 0 0))))) (gy_f rfl) (fun hg => x_ix (a := ab) (b := I (((lines.getD s2 ([])).length : Int) - 1)) (v := vat ab 1 (Int.toNat (((lines.getD s2 ([])).length : Int) - 1))) (gd_of (c := !(((decide (((lines.getD s2 ([])).length : Int) < 2)) || (!r3)) || (!(revised.contains ((lines.getD s2 ([])).getD 0 0))))) hg (ab)) (gd_of (c := !(((decide (((lines.getD s2 ([])).length : Int) < 2)) || (!r3)) || (!(revised.contains ((lines.getD s2 ([])).getD 0 0))))) hg (I (((lines.getD s2 ([])).length : Int) - 1))) (Sl.ix (α := Int) T34.und T34.size am (by have aa := ay.resolve_left (by rw [hg]; decide); first | exact aa | exact aa.1 | exact aa.2 | omega | (have ae := hg; simp at ae; omega)) (by have aa := ay.resolve_left (by rw [hg]; decide); first | exact aa | exact aa.1 | exact aa.2 | omega | (have ae := hg; simp at ae; omega)))) <| g_val (!(((decide (((lines.getD s2 ([])).length : Int) < 2)) || (!r3)) || (!(revised.contains ((lines.getD s2 ([])).getD 0 0))))) (gy_f rfl) (fun hg => x_ld (p := vat ab 1 (Int.toNat (((lines.getD s2 ([])).length : Int) - 1))) (v := I ((lines.getD s2 ([])).getD (Int.toNat (((lines.getD s2 ([])).length : Int) - 1)) 0)) (gd_of (c := !(((decide (((lines.getD s2 ([])).length : Int) < 2)) || (!r3)) || (!(revised.contains ((lines.getD s2 ([])).getD 0 0))))) hg (vat ab 1 (Int.toNat (((lines.getD s2 ([])).length : Int) - 1)))) (ld_sc Sc3 (At.mono (Int_at am (i := ((lines.getD s2 ([])).length : Int) - 1) (by have aa := ay.resolve_left (by rw [hg]; decide); first | exact aa | exact aa.1 | exact aa.2 | omega | (have ae := hg; simp at ae; omega)) (by have aa := ay.resolve_left (by rw [hg]; decide); first | exact aa | exact aa.1 | exact aa.2 | omega | (have ae := hg; simp at ae; omega))) (av.at H)))) <| g_val (!(((decide (((lines.getD s2 ([])).length : Int) < 2)) || (!r3)) || (!(revised.contains ((lines.getD s2 ([])).getD 0 0))))) (gy_f rfl) (fun hg => x_mv (v := I work) rfl) <| g_val (!(((decide (((lines.getD s2 ([])).length : Int) < 2)) || (!r3)) || (!(revised.contains ((lines.getD s2 ([])).getD 0 0))))) (gy_f rfl) (fun hg => x_cmp (kd := .i64) (a := (lines.getD s2 ([])).getD (Int.toNat (((lines.getD s2 ([])).length : Int) - 1)) 0) (b := work) (r := ((lines.getD s2 ([])).getD (Int.toNat (((lines.getD s2 ([])).length : Int) - 1)) 0) != work) (gd_of (c := !(((decide (((lines.getD s2 ([])).length : Int) < 2)) || (!r3)) || (!(revised.contains ((lines.getD s2 ([])).getD 0 0))))) hg (I ((lines.getD s2 ([])).getD (Int.toNat (((lines.getD s2 ([])).length : Int) - 1)) 0))) (gd_of (c := !(((decide (((lines.getD s2 ([])).length : Int) < 2)) || (!r3)) || (!(revised.contains ((lines.getD s2 ([])).getD 0 0))))) hg (I work)) rfl) <| s_val (x_por (b := (((decide (((lines.getD s2 ([])).length : Int) < 2)) || (!r3)) || (!(revised.contains ((lines.getD s2 ([])).getD 0 0))))) (r := ((lines.getD s2 ([])).getD (Int.toNat (((lines.getD s2 ([])).length : Int) - 1)) 0) != work) rfl rfl (fun hb => gd_of (c := !(((decide (((lines.getD s2 ([])).length : Int) < 2)) || (!r3)) || (!(revised.contains ((lines.getD s2 ([])).getD 0 0))))) (by first | exact hb | (rw [hb]; rfl) | simp_all) (B (((lines.getD s2 ([])).getD (Int.toNat (((lines.getD s2 ([])).length : Int) - 1)) 0) != work)))) <| s_nil ?_
  refine W.cond ((((decide (((lines.getD s2 ([])).length : Int) < 2)) || (!r3)) || (!(revised.contains ((lines.getD s2 ([])).getD 0 0)))) || (((lines.getD s2 ([])).getD (Int.toNat (((lines.getD s2 ([])).length : Int) - 1)) 0) != work)) rfl (fun bf => ?_) (fun bf => ?_)
  ·replace hM := M.e_t hM bf
   refine sQ rfl <| sA (B false) rfl <| sA (I 0) rfl <| s_nil ?_
   refine W.ret ?_
   have bT := M.e_inr hM aP
   subst bT
   replace hM := bc
   try dsimp only at hM
   have ac := M.e_pure hM
   exact ⟨_, resE_tmp2 rfl, ⟨false, 0, ac, rfl, (H.pick [] (by decide) rfl)⟩⟩
  replace hM := M.e_f hM bf
  refine W.skip <| sQ rfl <| sM ab rfl <| sM ab rfl ?_
  have cF := (am).len_le
  refine s_val (x_lenS T34.und rfl am) <| sR ((lines.getD s2 ([])).length : Int) 1 (((lines.getD s2 ([])).length : Int) - 1) rfl rfl rfl (by omega) ?_
  obtain ⟨cG, hM⟩ := M.e_gd hM
  obtain ⟨aA, bU, aB⟩ := sl_lohi T34.und T34.size am (i := 1) (j := ((lines.getD s2 ([])).length : Int) - 1) (by omega) (by omega) (by omega)
  replace aB : Sl _ aA (((lines.getD s2 ([])).take (Int.toNat (((lines.getD s2 ([])).length : Int) - 1))).drop 1) := aB
  refine s_val (x_sl (v := ab) (u := aA) (lo' := some (I 1)) (hi' := some (I (((lines.getD s2 ([])).length : Int) - 1))) (mx' := none) rfl rfl rfl rfl (bU _)) ?_
  have cH := (aB).len_le
  refine s_val (x_lenS T34.und rfl aB) <| sM (I 0) rfl <| s_nil <| W.block ?_
  obtain ⟨bV, bg, br⟩ := M.e_bind hM
  obtain ⟨bn, bg⟩ := M.e_iter bg
  refine W.loop (fun m σ W => ∃ (ar : List Bool) (s : Nat) (ρ : Env), σ = upds ρ [(1, aj), (2, I work), (10, Pz aq), (12, Pz al), (37, ag), (38, I (lines.length : Int)), (39, I (s2 : Int)), (47, gd (!(decide (((lines.getD s2 ([])).length : Int) < 2))) (Pz aq)), (48, gd (!(decide (((lines.getD s2 ([])).length : Int) < 2))) ab), (49, gd (!(decide (((lines.getD s2 ([])).length : Int) < 2))) (B r3)), (50, gd (!(decide (((lines.getD s2 ([])).length : Int) < 2))) (B (!r3))), (53, gd (!((decide (((lines.getD s2 ([])).length : Int) < 2)) || (!r3))) aj), (54, gd (!((decide (((lines.getD s2 ([])).length : Int) < 2)) || (!r3))) ab), (55, gd (!((decide (((lines.getD s2 ([])).length : Int) < 2)) || (!r3))) (vat ab 1 (Int.toNat 0))), (56, gd (!((decide (((lines.getD s2 ([])).length : Int) < 2)) || (!r3))) (I ((lines.getD s2 ([])).getD 0 0))), (57, gd (!((decide (((lines.getD s2 ([])).length : Int) < 2)) || (!r3))) (B (revised.contains ((lines.getD s2 ([])).getD 0 0)))), (58, gd (!((decide (((lines.getD s2 ([])).length : Int) < 2)) || (!r3))) (B (!(revised.contains ((lines.getD s2 ([])).getD 0 0))))), (61, gd (!(((decide (((lines.getD s2 ([])).length : Int) < 2)) || (!r3)) || (!(revised.contains ((lines.getD s2 ([])).getD 0 0))))) ab), (62, gd (!(((decide (((lines.getD s2 ([])).length : Int) < 2)) || (!r3)) || (!(revised.contains ((lines.getD s2 ([])).getD 0 0))))) ab), (63, gd (!(((decide (((lines.getD s2 ([])).length : Int) < 2)) || (!r3)) || (!(revised.contains ((lines.getD s2 ([])).getD 0 0))))) (I ((lines.getD s2 ([])).length : Int))), (64, gd (!(((decide (((lines.getD s2 ([])).length : Int) < 2)) || (!r3)) || (!(revised.contains ((lines.getD s2 ([])).getD 0 0))))) (I (((lines.getD s2 ([])).length : Int) - 1))), (65, gd (!(((decide (((lines.getD s2 ([])).length : Int) < 2)) || (!r3)) || (!(revised.contains ((lines.getD s2 ([])).getD 0 0))))) (vat ab 1 (Int.toNat (((lines.getD s2 ([])).length : Int) - 1)))), (66, gd (!(((decide (((lines.getD s2 ([])).length : Int) < 2)) || (!r3)) || (!(revised.contains ((lines.getD s2 ([])).getD 0 0))))) (I ((lines.getD s2 ([])).getD (Int.toNat (((lines.getD s2 ([])).length : Int) - 1)) 0))), (67, gd (!(((decide (((lines.getD s2 ([])).length : Int) < 2)) || (!r3)) || (!(revised.contains ((lines.getD s2 ([])).getD 0 0))))) (I work)), (68, gd (!(((decide (((lines.getD s2 ([])).length : Int) < 2)) || (!r3)) || (!(revised.contains ((lines.getD s2 ([])).getD 0 0))))) (B (((lines.getD s2 ([])).getD (Int.toNat (((lines.getD s2 ([])).length : Int) - 1)) 0) != work))), (74, aA), (75, I ((((lines.getD s2 ([])).take (Int.toNat (((lines.getD s2 ([])).length : Int) - 1))).drop 1).length : Int)), (76, I (s : Int))] /\ M.iterN (zaK revised work lines s2) m (ar, s) = some bV /\ St w W [cBlk al (encB ar) 141, cRo az, cBlk ah [ai] 22] R /\ ar.length = 30) ?_ ?_
  ·exact ⟨_, au, 0, _, upds_of _ _ ⟨rfl, rfl, rfl, rfl, rfl, rfl, rfl, rfl, rfl, rfl, rfl, rfl, rfl, rfl, rfl, rfl, rfl, rfl, rfl, rfl, rfl, rfl, rfl, rfl, rfl, rfl, rfl, rfl, trivial⟩, bg, H, bp⟩
  rintro cI σ cJ ⟨ar, s, ρ, rfl, bt, H, aQ⟩
  obtain ⟨bW, bX, cK, hM, bh⟩ := M.e_iterN bt
  simp only [zaK] at hM
  clear bt
  refine sQ rfl <| sC (s : Int) ((((lines.getD s2 ([])).take (Int.toNat (((lines.getD s2 ([])).length : Int) - 1))).drop 1).length : Int) (decide ((s : Int) < ((((lines.getD s2 ([])).take (Int.toNat (((lines.getD s2 ([])).length : Int) - 1))).drop 1).length : Int))) rfl rfl rfl <| s_nil <| W.seq ?_
  refine W.cond (decide ((s : Int) < ((((lines.getD s2 ([])).take (Int.toNat (((lines.getD s2 ([])).length : Int) - 1))).drop 1).length : Int))) rfl (fun aN => ?_) (fun aN => ?_)
  ·replace hM := M.e_t hM aN
   simp only [qz1, qz2, qz3, qz4, qz5, qz6, ne_eq, qz7] at aN
   refine W.skip <| W.seq <| W.block <| sQ rfl ?_
   obtain ⟨cL, hM⟩ := M.e_gd hM
   refine s_val (x_ix (a := aA) (b := I (s : Int)) (v := vat aA 1 (Int.toNat (s : Int))) rfl rfl (Sl.ix (α := Int) T34.und T34.size aB (by omega) (by omega))) <| s_val (x_ld (p := vat aA 1 (Int.toNat (s : Int))) (v := I ((((lines.getD s2 ([])).take (Int.toNat (((lines.getD s2 ([])).length : Int) - 1))).drop 1).getD s 0)) rfl (ld_sc Sc3 (At.mono (Int_at aB (i := (s : Int)) (by omega) (by omega)) (av.at H)))) <| sA (I ((((lines.getD s2 ([])).take (Int.toNat (((lines.getD s2 ([])).length : Int) - 1))).drop 1).getD s 0)) rfl <| s_nil <| W.seq <| sQ rfl <| sM (I ((((lines.getD s2 ([])).take (Int.toNat (((lines.getD s2 ([])).length : Int) - 1))).drop 1).getD s 0)) rfl ?_
   obtain ⟨cM, hM⟩ := M.e_gd hM
   refine s_val (x_ix (a := Pz al) (b := I ((((lines.getD s2 ([])).take (Int.toNat (((lines.getD s2 ([])).length : Int) - 1))).drop 1).getD s 0)) (v := .pointer (some ⟨al, 0 + Int.toNat ((((lines.getD s2 ([])).take (Int.toNat (((lines.getD s2 ([])).length : Int) - 1))).drop 1).getD s 0), none⟩)) rfl rfl (run_indexArr Try.underlying141 Sz4 (by omega) (by omega))) <| s_val (x_ld (p := .pointer (some ⟨al, 0 + Int.toNat ((((lines.getD s2 ([])).take (Int.toNat (((lines.getD s2 ([])).length : Int) - 1))).drop 1).getD s 0), none⟩)) (v := B (ar.getD (Int.toNat ((((lines.getD s2 ([])).take (Int.toNat (((lines.getD s2 ([])).length : Int) - 1))).drop 1).getD s 0)) false)) rfl (ldArr Sc4 (H.blk (k := 0) rfl) (by omega) (by have bY := aQ; omega))) <| sM (B (ar.getD (Int.toNat ((((lines.getD s2 ([])).take (Int.toNat (((lines.getD s2 ([])).length : Int) - 1))).drop 1).getD s 0)) false)) rfl <| g_val (!(ar.getD (Int.toNat ((((lines.getD s2 ([])).take (Int.toNat (((lines.getD s2 ([])).length : Int) - 1))).drop 1).getD s 0)) false)) (gy_f rfl) (fun hg => x_mv (v := I ((((lines.getD s2 ([])).take (Int.toNat (((lines.getD s2 ([])).length : Int) - 1))).drop 1).getD s 0)) rfl) <| g_val (!(ar.getD (Int.toNat ((((lines.getD s2 ([])).take (Int.toNat (((lines.getD s2 ([])).length : Int) - 1))).drop 1).getD s 0)) false)) (gy_f rfl) (fun hg => x_mv (v := I work) rfl) <| g_val (!(ar.getD (Int.toNat ((((lines.getD s2 ([])).take (Int.toNat (((lines.getD s2 ([])).length : Int) - 1))).drop 1).getD s 0)) false)) (gy_f rfl) (fun hg => x_cmp (kd := .i64) (a := (((lines.getD s2 ([])).take (Int.toNat (((lines.getD s2 ([])).length : Int) - 1))).drop 1).getD s 0) (b := work) (r := ((((lines.getD s2 ([])).take (Int.toNat (((lines.getD s2 ([])).length : Int) - 1))).drop 1).getD s 0) == work) (gd_of (c := !(ar.getD (Int.toNat ((((lines.getD s2 ([])).take (Int.toNat (((lines.getD s2 ([])).length : Int) - 1))).drop 1).getD s 0)) false)) hg (I ((((lines.getD s2 ([])).take (Int.toNat (((lines.getD s2 ([])).length : Int) - 1))).drop 1).getD s 0))) (gd_of (c := !(ar.getD (Int.toNat ((((lines.getD s2 ([])).take (Int.toNat (((lines.getD s2 ([])).length : Int) - 1))).drop 1).getD s 0)) false)) hg (I work)) rfl) <| s_val (x_por (b := ar.getD (Int.toNat ((((lines.getD s2 ([])).take (Int.toNat (((lines.getD s2 ([])).length : Int) - 1))).drop 1).getD s 0)) false) (r := ((((lines.getD s2 ([])).take (Int.toNat (((lines.getD s2 ([])).length : Int) - 1))).drop 1).getD s 0) == work) rfl rfl (fun hb => gd_of (c := !(ar.getD (Int.toNat ((((lines.getD s2 ([])).take (Int.toNat (((lines.getD s2 ([])).length : Int) - 1))).drop 1).getD s 0)) false)) (by first | exact hb | (rw [hb]; rfl) | simp_all) (B (((((lines.getD s2 ([])).take (Int.toNat (((lines.getD s2 ([])).length : Int) - 1))).drop 1).getD s 0) == work)))) <| sM (B ((ar.getD (Int.toNat ((((lines.getD s2 ([])).take (Int.toNat (((lines.getD s2 ([])).length : Int) - 1))).drop 1).getD s 0)) false) || (((((lines.getD s2 ([])).take (Int.toNat (((lines.getD s2 ([])).length : Int) - 1))).drop 1).getD s 0) == work))) rfl <| g_val (!((ar.getD (Int.toNat ((((lines.getD s2 ([])).take (Int.toNat (((lines.getD s2 ([])).length : Int) - 1))).drop 1).getD s 0)) false) || (((((lines.getD s2 ([])).take (Int.toNat (((lines.getD s2 ([])).length : Int) - 1))).drop 1).getD s 0) == work))) (gy_f rfl) (fun hg => x_mv (v := aj) rfl) <| g_val (!((ar.getD (Int.toNat ((((lines.getD s2 ([])).take (Int.toNat (((lines.getD s2 ([])).length : Int) - 1))).drop 1).getD s 0)) false) || (((((lines.getD s2 ([])).take (Int.toNat (((lines.getD s2 ([])).length : Int) - 1))).drop 1).getD s 0) == work))) (gy_f rfl) (fun hg => x_mv (v := I ((((lines.getD s2 ([])).take (Int.toNat (((lines.getD s2 ([])).length : Int) - 1))).drop 1).getD s 0)) rfl) ?_
   refine t_gcall (!((ar.getD (Int.toNat ((((lines.getD s2 ([])).take (Int.toNat (((lines.getD s2 ([])).length : Int) - 1))).drop 1).getD s 0)) false) || (((((lines.getD s2 ([])).take (Int.toNat (((lines.getD s2 ([])).length : Int) - 1))).drop 1).getD s 0) == work))) (gy_f rfl) cf45 (B (revised.contains ((((lines.getD s2 ([])).take (Int.toNat (((lines.getD s2 ([])).length : Int) - 1))).drop 1).getD s 0))) (fun _ => [aj, I ((((lines.getD s2 ([])).take (Int.toNat (((lines.getD s2 ([])).length : Int) - 1))).drop 1).getD s 0)]) (fun hg => lst2 (gd_of (c := !((ar.getD (Int.toNat ((((lines.getD s2 ([])).take (Int.toNat (((lines.getD s2 ([])).length : Int) - 1))).drop 1).getD s 0)) false) || (((((lines.getD s2 ([])).take (Int.toNat (((lines.getD s2 ([])).length : Int) - 1))).drop 1).getD s 0) == work))) hg (aj)) (gd_of (c := !((ar.getD (Int.toNat ((((lines.getD s2 ([])).take (Int.toNat (((lines.getD s2 ([])).length : Int) - 1))).drop 1).getD s 0)) false) || (((((lines.getD s2 ([])).take (Int.toNat (((lines.getD s2 ([])).length : Int) - 1))).drop 1).getD s 0) == work))) hg (I ((((lines.getD s2 ([])).take (Int.toNat (((lines.getD s2 ([])).length : Int) - 1))).drop 1).getD s 0)))) H (fun hg => Ret.mono (contains_int ((((lines.getD s2 ([])).take (Int.toNat (((lines.getD s2 ([])).length : Int) - 1))).drop 1).getD s 0) _ (aS.mono (aR.at H))) fun v_ w_ ⟨aM, ae⟩ => ⟨aM, H.ext ae⟩) ?_
   intro cN H
   refine s_val (x_por (b := ((ar.getD (Int.toNat ((((lines.getD s2 ([])).take (Int.toNat (((lines.getD s2 ([])).length : Int) - 1))).drop 1).getD s 0)) false) || (((((lines.getD s2 ([])).take (Int.toNat (((lines.getD s2 ([])).length : Int) - 1))).drop 1).getD s 0) == work))) (r := revised.contains ((((lines.getD s2 ([])).take (Int.toNat (((lines.getD s2 ([])).length : Int) - 1))).drop 1).getD s 0)) rfl rfl (fun hb => gd_of (c := !((ar.getD (Int.toNat ((((lines.getD s2 ([])).take (Int.toNat (((lines.getD s2 ([])).length : Int) - 1))).drop 1).getD s 0)) false) || (((((lines.getD s2 ([])).take (Int.toNat (((lines.getD s2 ([])).length : Int) - 1))).drop 1).getD s 0) == work))) (by first | exact hb | (rw [hb]; rfl) | simp_all) (B (revised.contains ((((lines.getD s2 ([])).take (Int.toNat (((lines.getD s2 ([])).length : Int) - 1))).drop 1).getD s 0))))) <| s_nil ?_
   refine W.cond (((ar.getD (Int.toNat ((((lines.getD s2 ([])).take (Int.toNat (((lines.getD s2 ([])).length : Int) - 1))).drop 1).getD s 0)) false) || (((((lines.getD s2 ([])).take (Int.toNat (((lines.getD s2 ([])).length : Int) - 1))).drop 1).getD s 0) == work)) || (revised.contains ((((lines.getD s2 ([])).take (Int.toNat (((lines.getD s2 ([])).length : Int) - 1))).drop 1).getD s 0))) rfl (fun bi => ?_) (fun bi => ?_)
   ·replace hM := M.e_t hM bi
    refine sQ rfl <| sA (B false) rfl <| sA (I 0) rfl <| s_nil ?_
    refine W.ret ?_
    have bZ := M.e_inr hM bh
    subst bZ
    replace hM := br
    try dsimp only at hM
    have b6 := M.e_inr hM aP
    subst b6
    replace hM := bc
    try dsimp only at hM
    have ac := M.e_pure hM
    exact ⟨_, resE_tmp2 rfl, ⟨false, 0, ac, rfl, (H.pick [] (by decide) rfl)⟩⟩
   replace hM := M.e_f hM bi
   refine W.skip <| W.region rfl <| sM (I ((((lines.getD s2 ([])).take (Int.toNat (((lines.getD s2 ([])).length : Int) - 1))).drop 1).getD s 0)) rfl <| s_val (x_ix (a := Pz al) (b := I ((((lines.getD s2 ([])).take (Int.toNat (((lines.getD s2 ([])).length : Int) - 1))).drop 1).getD s 0)) (v := .pointer (some ⟨al, 0 + Int.toNat ((((lines.getD s2 ([])).take (Int.toNat (((lines.getD s2 ([])).length : Int) - 1))).drop 1).getD s 0), none⟩)) rfl rfl (run_indexArr Try.underlying141 Sz4 (by omega) (by omega))) ?_
   refine t_stArr (k := 0) (b := al) (l := ar) (l' := ar.set (Int.toNat ((((lines.getD s2 ([])).take (Int.toNat (((lines.getD s2 ([])).length : Int) - 1))).drop 1).getD s 0)) true) (i := (((lines.getD s2 ([])).take (Int.toNat (((lines.getD s2 ([])).length : Int) - 1))).drop 1).getD s 0) (v := true) (L' := [cBlk al (encB (ar.set (Int.toNat ((((lines.getD s2 ([])).take (Int.toNat (((lines.getD s2 ([])).length : Int) - 1))).drop 1).getD s 0)) true)) 141, cRo az, cBlk ah [ai] 22]) H rfl rfl rfl Sz4 (by omega) (by have bY := aQ; omega) rfl rfl ?_
   intro cO H
   have b8 : (ar.set (Int.toNat ((((lines.getD s2 ([])).take (Int.toNat (((lines.getD s2 ([])).length : Int) - 1))).drop 1).getD s 0)) true).length = 30 := List.length_set.trans aQ
   refine s_nil <| W.region rfl <| sR (s : Int) 1 ((s : Int) + 1) rfl rfl rfl (by omega) <| sM (I ((s : Int) + 1)) rfl <| s_nil ?_
   exact ⟨bW, bX, ar.set (Int.toNat ((((lines.getD s2 ([])).take (Int.toNat (((lines.getD s2 ([])).length : Int) - 1))).drop 1).getD s 0)) true, s + 1, _, upds_of _ _ ⟨rfl, rfl, rfl, rfl, rfl, rfl, rfl, rfl, rfl, rfl, rfl, rfl, rfl, rfl, rfl, rfl, rfl, rfl, rfl, rfl, rfl, rfl, rfl, rfl, rfl, rfl, rfl, rfl, trivial⟩, M.e_inl hM bh, H, b8⟩
  replace hM := M.e_f hM aN
  simp only [qz1, qz2, qz3, qz4, qz5, qz6, ne_eq, qz7] at aN
  refine W.exit ?_
  have ca := M.e_inr hM bh
  subst ca
  replace hM := br
  try dsimp only at hM
  refine W.region rfl <| sR (s2 : Int) 1 ((s2 : Int) + 1) rfl rfl rfl (by omega) <| sM (I ((s2 : Int) + 1)) rfl <| s_nil ?_
  exact ⟨bP, bQ, ar, s2 + 1, _, upds_of _ _ ⟨rfl, rfl, rfl, rfl, rfl, rfl, rfl, trivial⟩, M.e_inl hM aP, H, aQ⟩
 replace hM := M.e_f hM aL
 simp only [qz1, qz2, qz3, qz4, qz5, qz6, ne_eq, qz7] at aL
 refine W.exit ?_
 have cb := M.e_inr hM aP
 subst cb
 replace hM := bc
 try dsimp only at hM
 refine sQ rfl <| sA (B true) rfl <| sA (I 0) rfl <| s_nil ?_
 refine W.ret ?_
 have ac := M.e_pure hM
 exact ⟨_, resE_tmp2 rfl, ⟨true, 0, ac, rfl, (H.pick [] (by decide) rfl)⟩⟩

end Go.Proofs.Ytndobgodeicloaa
end
namespace Go.Nm
variable {ws : List Work} {rev F : List Int} {t : Nat}
/-- One step on, to a work that is not frozen. -/
def SuccF (ws : List Work) (F : List Int) (x y : Int) : Prop := Succ ws x y /\ y ∉ F
/-- What a search that finds nothing leaves. -/
structure SrchF (ws : List Work) (F : List Int) (m m' : Int -> Option Bool) (to_ : Int) : Prop where
  up : ∀ x, mt m x -> mt m' x
  cl : ∀ x, mt m' x -> mt m x ∨ ∀ y, SuccF ws F x y -> mt m' y
  no : ¬ mt m to_ -> ¬ mt m' to_
theorem SrchF.refl (m : Int -> Option Bool) (to_ : Int) : SrchF ws F m m to_ := ⟨fun _ h => h, fun _ h => .inl h, fun h => h⟩
theorem SrchF.trans {a b c : Int -> Option Bool} {to_ : Int} (h : SrchF ws F a b to_) (k : SrchF ws F b c to_) : SrchF ws F a c to_ :=
  ⟨fun x hx => k.up x (h.up x hx), fun x hx => by
    rcases k.cl x hx with h1 | h1
    · rcases h.cl x h1 with h2 | h2
      · exact .inl h2
      · exact .inr fun y hy => k.up y (h2 y hy)
    · exact .inr h1, fun hn => k.no (h.no hn)⟩
/-- A way on that no frozen work is on. -/
inductive WayF (ws : List Work) (F : List Int) : Int -> Int -> Prop
  | one (x : Int) : WayF ws F x x
  | cons {x y z : Int} (h : SuccF ws F x y) (w : WayF ws F y z) : WayF ws F x z
theorem WayF.snoc {x y z : Int} (w : WayF ws F x y) (h : SuccF ws F y z) : WayF ws F x z := by
  induction w with
  | one x => exact .cons h (.one _)
  | cons h' _ ih => exact .cons h' (ih h)
theorem WayF.rch {x z : Int} (w : WayF ws F x z) : 0 <= x -> Rch ws rev F x.toNat -> Rch ws rev F z.toNat := by
  induction w with
  | one x => exact fun _ => id
  | @cons x y z h w ih =>
    intro h0 hx
    have hs := h.1
    exact ih hs.1 (.step hx (by have := hs.2.1; have := hs.1; omega) (by rw [Int.toNat_of_nonneg h0]; exact hs.2.2) (by rw [Int.toNat_of_nonneg hs.1]; exact h.2))
theorem rch_way (hr : ∀ r ∈ rev, 0 <= r /\ r < (ws.length : Int)) {k : Nat} (h : Rch ws rev F k) : ∃ r ∈ rev, WayF ws F r (k : Int) := by
  induction h with
  | @base r h => exact ⟨r, h, by rw [Int.toNat_of_nonneg (hr r h).1]; exact .one r⟩
  | @step k i _ hi hm hf ih =>
    obtain ⟨r, h1, h2⟩ := ih
    exact ⟨r, h1, h2.snoc ⟨⟨by omega, by omega, by rw [Int.toNat_natCast]; exact hm⟩, hf⟩⟩
theorem way_closed {m : Int -> Option Bool} (hc : ∀ x, mt m x -> ∀ y, SuccF ws F x y -> mt m y) {x z : Int} (w : WayF ws F x z) : mt m x -> mt m z := by
  induction w with
  | one x => exact id
  | cons h _ ih => exact fun hx => ih (hc _ hx _ h)
theorem asc_pair {l : List Int} (h : AscTo l l.length) : ∀ i j, i < j -> j < l.length -> l.getD i 0 < l.getD j 0 := by
  intro i j hij
  induction j with
  | zero => omega
  | succ j ih =>
    intro hj
    have h1 := h (j + 1) (by omega) hj
    rw [Nat.add_sub_cancel] at h1
    by_cases e : i = j
    · subst e; exact h1
    · have := ih (by omega) (by omega)
      omega
theorem asc_nodup {l : List Int} (h : AscTo l l.length) : l.Nodup := by
  rw [List.Nodup, List.pairwise_iff_getElem]
  intro i j hi hj hij e
  have := asc_pair h i j hij hj
  rw [getD_el l hi 0, getD_el l hj 0, e] at this
  omega
/-- What a search with frozen works ends in. -/
def OnF (ws : List Work) (F : List Int) (m : Int -> Option Bool) (a to_ : Int) (r : List Int × (Int -> Option Bool)) : Prop :=
  (r.1 ≠ [] /\ WayF ws F a to_ /\ r.1.length + posO ws a <= ws.length) ∨ (r.1 = [] /\ SrchF ws F m r.2 to_ /\ mt r.2 a)
end Go.Nm
namespace Go.Proofs.Ytndobgodeicloaa
open Go Go.Nm
variable {ws : List Work} {rev F : List Int} {t : Nat}
theorem on_outF (hO : openedE ws = 0) {to_ : Int} (hto_ : to_ ∉ F) : ∀ (d : Nat) (a : Int) (m : Int -> Option Bool), 0 <= a -> a < ws.length -> ws.length - posO ws a <= d →
    (zbn ws (fun x => zac x F) m a to_).Out (OnF ws F m a to_) := by
  intro d
  induction d with
  | zero => intro a m h0 h1 hd; have := posO_le (order_all hO h0 h1); omega
  | succ d ih =>
    intro a m h0 h1 hd
    have h1' := h1
    have hlen := right_len (opened_right hO)
    have hpa := posO_le (order_all hO h0 h1)
    suffices h : (zab (M.fix zab zbz) (ws, (fun x => zac x F), m, a, to_)).Out (OnF ws F m a to_) by
      obtain ⟨r, h2, h3⟩ := h
      exact ⟨r, M.i_fix h2, h3⟩
    simp only [zab]
    refine M.o_if (fun hb => ?_) (fun hb => ?_)
    · have e : a = to_ := by simpa using hb
      subst e
      exact M.o_pure (.inl ⟨by simp, .one a, by simp only [List.length_cons, List.length_nil]; omega⟩)
    · have hne : a ≠ to_ := by simpa using hb
      refine M.o_bindE (M.i_pure : (zbd ws a).Ends a) ?_
      refine M.o_bind (made_out' (x := a) (fun i t => ∃ mp, t = .inl mp /\ SrchF ws F (updF m a true) mp to_ /\ ∀ y : Nat, y < i -> SuccF ws F a (y : Int) -> mt mp (y : Int))
        (fun t => ∃ l mp, t = .inr (l, mp) /\ l ≠ [] /\ WayF ws F a to_ /\ l.length + posO ws a <= ws.length) ?_ ?_ ⟨_, rfl, SrchF.refl _ _, fun y hy => by omega⟩) ?_
      · rintro i t hi ⟨mp, rfl, hs, hy⟩ hm
        have hsu : Succ ws a (i : Int) := ⟨by omega, by omega, by rw [Int.toNat_natCast]; exact hm⟩
        have hlt := posO_lt (order_all hO (i := (i : Int)) (by omega) (by omega)) (by rw [Int.toNat_natCast]; exact hm)
        have next : ∀ mp', SrchF ws F (updF m a true) mp' to_ -> (∀ x, mt mp x -> mt mp' x) -> ((i : Int) ∉ F -> mt mp' (i : Int)) -> ∃ mp2, (Sum.inl mp' : (Int -> Option Bool) ⊕ (List Int × (Int -> Option Bool))) = .inl mp2 /\ SrchF ws F (updF m a true) mp2 to_ /\ ∀ y : Nat, y < i + 1 -> SuccF ws F a (y : Int) -> mt mp2 (y : Int) :=
          fun mp' h1 h2 h3 => ⟨mp', rfl, h1, fun y hy' hsy => by
            by_cases e : y = i
            · rw [e]; exact h3 (by rw [← e]; exact hsy.2)
            · exact h2 _ (hy y (by omega) hsy)⟩
        have call : (zbn ws (fun x => zac x F) mp (i : Int) to_).Out (OnF ws F mp (i : Int) to_) := ih (i : Int) mp (by omega) (by omega) (by omega)
        have rest : (i : Int) ∉ F -> (M.bind ((M.fix zab zbz) (ws, (fun x => zac x F), mp, (i : Int), to_)) fun (r4, q_b_s_met) =>
            bif !r4.isEmpty then (
            M.grd (decide ((([(a : Int)]).length + r4.length) * 8 <= 140737488355328)) <|
            M.pure (.inr (([(a : Int)]) ++ r4, q_b_s_met)))
            else (
            M.pure (.inl q_b_s_met)) : M ((Int -> Option Bool) ⊕ ((List Int) × (Int -> Option Bool)))).Out (fun r => (∃ mp', r = .inl mp' /\ SrchF ws F (updF m a true) mp' to_ /\ (∀ x, mt mp x -> mt mp' x) /\ ((i : Int) ∉ F -> mt mp' (i : Int))) ∨ ∃ l mp', r = .inr (l, mp') /\ l ≠ [] /\ WayF ws F a to_ /\ l.length + posO ws a <= ws.length) := by
          intro hnF
          refine M.o_bind call ?_
          rintro ⟨l, mp'⟩ hq
          rcases hq with ⟨h1, h2, h3⟩ | ⟨h1, h2, h3⟩
          · dsimp only at h1 h2 h3 ⊢
            refine M.o_t (by cases l with | nil => exact absurd rfl h1 | cons x l => rfl) (M.o_grdD (by simp only [List.length_cons, List.length_nil]; omega) (M.o_pure (.inr ⟨_, _, rfl, by simp, .cons ⟨hsu, hnF⟩ h2, by simp only [List.length_append, List.length_cons, List.length_nil]; omega⟩)))
          · dsimp only at h1 h2 h3 ⊢
            subst h1
            exact M.o_f rfl (M.o_pure (.inl ⟨_, rfl, hs.trans h2, h2.up, fun _ => h3⟩))
        have fin : ∀ {bd : (Int -> Option Bool) -> Int -> M ((Int -> Option Bool) ⊕ ((List Int) × (Int -> Option Bool)))}, (bd mp (i : Int)).Out (fun r => (∃ mp', r = .inl mp' /\ SrchF ws F (updF m a true) mp' to_ /\ (∀ x, mt mp x -> mt mp' x) /\ ((i : Int) ∉ F -> mt mp' (i : Int))) ∨ ∃ l mp', r = .inr (l, mp') /\ l ≠ [] /\ WayF ws F a to_ /\ l.length + posO ws a <= ws.length) →
            (M.yl bd (.inl mp) (i : Int)).Out (fun r => (r.1 = true /\ ∃ mp, r.2 = .inl mp /\ SrchF ws F (updF m a true) mp to_ /\ ∀ y : Nat, y < i + 1 -> SuccF ws F a (y : Int) -> mt mp (y : Int)) ∨ (r.1 = false /\ ∃ l mp, r.2 = .inr (l, mp) /\ l ≠ [] /\ WayF ws F a to_ /\ l.length + posO ws a <= ws.length)) := by
          intro bd hk
          simp only [M.yl]
          refine M.o_bind hk ?_
          rintro r (⟨mp', rfl, h1, h2, h3⟩ | ⟨l, mp', rfl, h1, h2⟩)
          · exact M.o_pure (.inl ⟨rfl, next mp' h1 h2 h3⟩)
          · exact M.o_pure (.inr ⟨rfl, l, mp', rfl, h1, h2⟩)
        refine fin ?_
        simp only [zal]
        cases hmt : (mp (i : Int)).getD false with
        | true =>
          exact M.o_f rfl (M.o_t rfl (M.o_pure (.inl ⟨mp, rfl, hs, fun x hx => hx, fun _ => hmt⟩)))
        | false =>
          cases hto : ((i : Int) != to_) with
          | true =>
            refine M.o_t rfl (M.o_bindE (M.i_pure : (zac (i : Int) F).Ends (!(F.contains (i : Int)))) ?_)
            cases hF : F.contains (i : Int) with
            | true => exact M.o_t rfl (M.o_pure (.inl ⟨mp, rfl, hs, fun x hx => hx, fun h => absurd (List.contains_iff_mem.1 hF) h⟩))
            | false => exact M.o_f rfl (rest (fun h => by rw [List.contains_iff_mem.2 h] at hF; cases hF))
          | false =>
            have e : (i : Int) = to_ := by simpa using hto
            exact M.o_f rfl (M.o_f rfl (rest (by rw [e]; exact hto_)))
      · rintro i t hi ⟨mp, rfl, hs, hy⟩ hm
        refine ⟨mp, rfl, hs, fun y hy' hsy => ?_⟩
        by_cases e : y = i
        · subst e
          have := hsy.1.2.2
          rw [Int.toNat_natCast] at this
          exact absurd this hm
        · exact hy y (by omega) hsy
      · rintro t (⟨mp, rfl, hs, hy⟩ | ⟨l, mp, rfl, h1, h2, h3⟩)
        · refine M.o_pure (.inr ⟨rfl, ⟨fun x hx => hs.up x ((mt_upd m a x).2 (.inr hx)), fun x hx => ?_, fun hn => hs.no fun h => ?_⟩, hs.up a ((mt_upd m a a).2 (.inl rfl))⟩)
          · rcases hs.cl x hx with h3 | h3
            · rcases (mt_upd m a x).1 h3 with rfl | h3
              · refine .inr fun y hy' => ?_
                have := hy y.toNat (by have := hy'.1.2.1; have := hy'.1.1; omega) (by rw [Int.toNat_of_nonneg hy'.1.1]; exact hy')
                rwa [Int.toNat_of_nonneg hy'.1.1] at this
              · exact .inl h3
            · exact .inr h3
          · rcases (mt_upd m a to_).1 h with h3 | h3
            · exact hne h3.symm
            · exact hn h3
        · refine M.o_grdD (by have := List.length_pos_iff.2 h1; omega) (M.o_pure (.inl ⟨h1, h2, h3⟩))
/-- Is there a way from one work? -/
theorem keeps_one (hO : openedE ws = 0) (ht : (t : Int) ∉ F) {r : Int} (h0 : 0 <= r) (h1 : r < ws.length) (m : Int -> Option Bool) :
    (za6 r ws F m (t : Int)).Out (fun q => q.1 = true ↔ WayF ws F r (t : Int)) := by
  unfold za6 zbr zbA
  refine M.o_bind (P := fun q => q.1 = false ↔ WayF ws F r (t : Int)) (M.o_bind (P := OnF ws F (fun _ => none) r (t : Int)) (M.o_bind (on_outF hO ht ws.length r (fun _ => none) h0 h1 (by omega)) (fun q hq => M.o_pure hq)) ?_) ?_
  · rintro ⟨l, m'⟩ hq
    rcases hq with ⟨h1, h2, _⟩ | ⟨h1, h2, h3⟩
    · dsimp only at h1 h2 ⊢
      refine M.o_pure ⟨fun _ => h2, fun _ => ?_⟩
      cases l with
      | nil => exact absurd rfl h1
      | cons x l => rfl
    · dsimp only at h1 h2 h3 ⊢
      subst h1
      refine M.o_pure ⟨fun h => by simp at h, fun w => ?_⟩
      exfalso
      have hn : ∀ x, ¬ mt (fun _ => none) x := fun x h => by cases h
      exact h2.no (hn _) (way_closed (fun x hx => (h2.cl x hx).resolve_left (hn x)) w h3)
  · rintro ⟨b, m'⟩ hq
    dsimp only at hq ⊢
    refine M.o_pure ?_
    dsimp only
    rw [← hq]
    cases b <;> simp
theorem keeps_every (hO : openedE ws = 0) (ht : (t : Int) ∉ F) (hr : ∀ r ∈ rev, 0 <= r /\ r < (ws.length : Int)) (m : Int -> Option Bool) :
    (za1 ws F m (t : Int) rev).Out (fun q => q.1 = true ↔ ¬ Rch ws rev F t) := by
  unfold za1 zbI zbq
  refine M.o_bind (P := fun q => q.1 = true ↔ Rch ws rev F t) (M.o_bind (P := fun q => 0 <= q.1 ↔ Rch ws rev F t) (M.o_bind (P := fun q => match q with | .inl (i, _) => 0 <= i /\ Rch ws rev F t | .inr _ => ¬ Rch ws rev F t) ?_ ?_) ?_) ?_
  · refine M.o_for rev.length (fun i st => st.2 = i /\ ∀ j, j < i -> ¬ WayF ws F (rev.getD j 0) (t : Int)) ?_ ?_ (s := (m, 0)) ⟨rfl, fun j hj => by omega⟩
    · rintro i ⟨m, s⟩ hi ⟨rfl, hn⟩
      dsimp only at hi hn ⊢
      have hrm := getD_memN rev (by omega : (s : Int) < _) 0
      have hrr := hr _ hrm
      simp only [za3]
      refine M.o_t (by simpa using hi) (M.o_grdD (by omega) (M.o_bind (keeps_one hO ht hrr.1 hrr.2 m) ?_))
      rintro ⟨b, m'⟩ hq
      dsimp only at hq ⊢
      refine M.o_if (fun hb => ?_) (fun hb => ?_)
      · refine M.o_pure ⟨by omega, ?_⟩
        have := WayF.rch (rev := rev) (hq.1 hb) hrr.1 (.base hrm)
        rwa [Int.toNat_natCast] at this
      · refine M.o_pure ⟨rfl, fun j hj w => ?_⟩
        by_cases e : j = s
        · subst e
          rw [hq.2 w] at hb
          cases hb
        · exact hn j (by omega) w
    · rintro ⟨m, s⟩ ⟨rfl, hn⟩
      simp only [za3]
      refine M.o_f (by simp) (M.o_pure fun h => ?_)
      obtain ⟨r, h1, h2⟩ := rch_way hr h
      obtain ⟨j, hj, rfl⟩ := mem_getD h1 0
      exact hn j hj h2
  · rintro (⟨i, m'⟩ | m') hq
    · exact M.o_pure ⟨fun _ => hq.2, fun _ => hq.1⟩
    · exact M.o_pure ⟨fun h => absurd (show (0 : Int) <= -1 from h) (by decide), fun h => absurd h hq⟩
  · rintro ⟨i, m'⟩ hq
    exact M.o_pure ⟨fun h => hq.1 (of_decide_eq_true h), fun h => decide_eq_true (hq.2 h)⟩
  · rintro ⟨b, m'⟩ hq
    dsimp only at hq ⊢
    refine M.o_pure ?_
    dsimp only
    rw [← hq]
    cases b <;> simp
theorem kept_ends (hA : askedE ws rev = 0) (ht : t < ws.length) (hn : (t : Int) ∉ rev) : (zaD ws rev (t : Int)).Ends (.inr 0) := by
  unfold zaD
  have h1 : inB (t : Int) 0 ((ws.length : Int) - 1) = true := by unfold inB; simp only [Bool.and_eq_true, decide_eq_true_eq]; omega
  have h2 : rev.contains (t : Int) = false := by
    cases e : rev.contains (t : Int) with
    | false => rfl
    | true => exact absurd (List.contains_iff_mem.1 e) hn
  exact M.i_t (by rw [hA]; rfl) (M.i_f rfl (M.i_f (by rw [h1]; rfl) (M.i_f h2 M.i_pure)))
theorem keeps_out (hA : askedE ws rev = 0) (ht : t < ws.length) (hn : (t : Int) ∉ rev) (hF : listedE ws.length F = 0) (hFt : ∀ x ∈ F, x ≠ (t : Int) /\ x ∉ rev) :
    (zaU ws rev (t : Int) F).Out (fun r => r.2 = 0 /\ (r.1 = true ↔ ¬ Rch ws rev F t)) := by
  obtain ⟨hO, hL⟩ := asked_ok hA
  have hr := (listed_rng hL).1
  have htF : (t : Int) ∉ F := fun h => (hFt _ h).1 rfl
  have hct : F.contains (t : Int) = false := by
    cases e : F.contains (t : Int) with
    | false => rfl
    | true => exact absurd (List.contains_iff_mem.1 e) htF
  have hop : (M.opt (!(F.contains (t : Int))) (zaf F (fun x => zad x rev)) false).Ends false := by
    rw [hct]
    have := containsFunc_ends (s := F) (f := fun x => zad x rev) (p := fun x => rev.contains x) (fun x _ => M.i_pure)
    rw [show F.any (fun x => rev.contains x) = false from List.any_eq_false.2 fun x hx h => (hFt x hx).2 (List.contains_iff_mem.1 h)] at this
    exact this
  unfold zaU
  refine M.o_bindE (kept_ends hA ht hn) (M.o_t rfl (M.o_f (by rw [hF]; rfl) (M.o_bindE hop (M.o_f (by rw [hct]; rfl) (M.o_bindE M.i_pure (M.o_bind (keeps_every hO htF hr _) ?_))))))
  rintro ⟨b, m⟩ hq
  exact M.o_pure ⟨rfl, hq⟩
/-! ### Apart -/
theorem line_pos (hO : openedE ws = 0) {l : List Int} (hr : ∀ x ∈ l, 0 <= x /\ x < (ws.length : Int)) (hl : lineB ws l = true) : ∀ a b, a < b -> b < l.length -> posO ws (l.getD a 0) < posO ws (l.getD b 0) := by
  intro a b hab
  induction b with
  | zero => omega
  | succ b ih =>
    intro hb
    have h1 := hr _ (getD_memN l (by omega : ((b + 1 : Nat) : Int) < _) 0)
    have := posO_lt (order_all hO h1.1 h1.2) (lineB_step hl b hb)
    by_cases e : a = b
    · subst e; exact this
    · have := ih (by omega) (by omega)
      omega
theorem mid_get {l : List Int} {s : Nat} : (((l.take (Int.toNat ((l.length : Int) - 1))).drop 1).length = l.length - 2) /\ (s + 2 < l.length + 0 -> ((l.take (Int.toNat ((l.length : Int) - 1))).drop 1).getD s 0 = l.getD (s + 1) 0) := by
  constructor
  · rw [List.length_drop, List.length_take]; omega
  · intro h
    rw [List.getD_eq_getElem?_getD, List.getElem?_drop, List.getElem?_take, if_pos (by omega), ← List.getD_eq_getElem?_getD, Nat.add_comm]
theorem apart_line (hO : openedE ws = 0) {ls : List (List Int)} (hA : ApartA ws rev t ls) {k : Nat} (hk : k < ls.length) {ar : List Bool} (hl : ar.length = 30) (hm : ∀ x : Nat, ar.getD x false = true -> ∃ l ∈ ls.take k, (x : Int) ∈ midL l) :
    (M.iter (zaK rev (t : Int) ls k) (ar, 0)).Out (fun q => ∃ ar', q = .inr ar' /\ ar'.length = 30 /\ ∀ x : Nat, ar'.getD x false = true -> ∃ l ∈ ls.take (k + 1), (x : Int) ∈ midL l) := by
  have hlen := right_len (opened_right hO)
  have hmem := getD_memN ls (by omega : (k : Int) < _) []
  have hL := hA.each _ hmem
  have htk : ls.take (k + 1) = ls.take k ++ [ls.getD k []] := take_succ_getD ls hk []
  have hdis : ∀ m ∈ ls.take k, ∀ x ∈ midL m, x ∉ midL (ls.getD k []) := by
    have h2 := hA.two
    rw [← List.take_append_drop (k + 1) ls, htk] at h2
    have h3 := (List.pairwise_append.1 (List.pairwise_append.1 h2).1).2.2
    intro m hm x hx
    exact h3 m hm _ (by simp) x hx
  generalize hle : ls.getD k [] = l at *
  have h2 := hL.two
  have hml := (mid_get (l := l) (s := 0)).1
  refine M.o_for (l.length - 2) (fun s st => st.2 = s /\ st.1.length = 30 /\ ∀ x : Nat, st.1.getD x false = true -> (∃ m ∈ ls.take k, (x : Int) ∈ midL m) ∨ ∃ j, j < s /\ l.getD (j + 1) 0 = (x : Int)) ?_ ?_ (s := (ar, 0)) ⟨rfl, hl, fun x hx => .inl (hm x hx)⟩
  · rintro s ⟨a, s'⟩ hs ⟨rfl, ha, hx⟩
    dsimp only at hs ha hx ⊢
    have hg := (mid_get (l := l) (s := s')).2 (by omega)
    have hin := hL.mid (s' + 1) (by omega) (by omega)
    have hr := hL.rng _ (getD_memN l (by omega : ((s' + 1 : Nat) : Int) < _) 0)
    have hmid : l.getD (s' + 1) 0 ∈ midL l := midL_mem.2 ⟨s' + 1, by omega, by omega, rfl⟩
    have hi := innB_iff.1 hin
    simp only [zaK]
    rw [hle, hml, hg]
    refine M.o_t (by simp only [decide_eq_true_eq]; omega) (M.o_grdD (by omega) (M.o_grd (gA2 hr.1 (by omega)) (M.o_f ?_ (M.o_pure ⟨rfl, by simpa using ha, fun x h => ?_⟩))))
    · have h1 : a.getD (Int.toNat (l.getD (s' + 1) 0)) false = false := by
        cases e : a.getD (Int.toNat (l.getD (s' + 1) 0)) false with
        | false => rfl
        | true =>
          exfalso
          rcases hx _ e with ⟨m, m1, m2⟩ | ⟨j, j1, j2⟩
          · rw [Int.toNat_of_nonneg hr.1] at m2
            exact hdis m m1 _ m2 hmid
          · rw [Int.toNat_of_nonneg hr.1] at j2
            have := line_pos hO hL.rng hL.line (j + 1) (s' + 1) (by omega) (by omega)
            rw [j2] at this
            omega
      have h2 : (l.getD (s' + 1) 0 == (t : Int)) = false := by simpa using hi.1
      have h3 : rev.contains (l.getD (s' + 1) 0) = false := by
        cases e : rev.contains (l.getD (s' + 1) 0) with
        | false => rfl
        | true => exact absurd (List.contains_iff_mem.1 e) hi.2
      rw [h1, h2, h3]
      rfl
    · dsimp only at h
      by_cases e : x = Int.toNat (l.getD (s' + 1) 0)
      · exact .inr ⟨s', by omega, by omega⟩
      · rw [List.getD_eq_getElem?_getD, List.getElem?_set_ne (fun e' => e e'.symm), ← List.getD_eq_getElem?_getD] at h
        rcases hx x h with h | ⟨j, j1, j2⟩
        · exact .inl h
        · exact .inr ⟨j, by omega, j2⟩
  · rintro ⟨a, s'⟩ ⟨rfl, ha, hx⟩
    dsimp only at ha hx ⊢
    simp only [zaK]
    rw [hle, hml]
    refine M.o_f (by simp) (M.o_pure ⟨a, rfl, ha, fun x h => ?_⟩)
    rw [htk]
    rcases hx x h with ⟨m, m1, m2⟩ | ⟨j, j1, j2⟩
    · exact ⟨m, List.mem_append_left _ m1, m2⟩
    · exact ⟨l, by simp, midL_mem.2 ⟨j + 1, by omega, by omega, j2⟩⟩
theorem everyList_ends {s : List (List Int)} {f : List Int -> M Bool} (hf : ∀ x ∈ s, (f x).Ends true) : (zaF f s).Ends true := by
  unfold zaF zby zbx
  have h : (M.iter (zaL s (fun x => zaW x f)) 0).Ends (.inr ()) := by
    refine M.i_for (fun i => i) s.length (fun i hi => ?_) ?_
    · simp only [zaL, zaW]
      exact M.i_t (by simpa using hi) (M.grdD (by omega) (M.i_bind (M.i_bind (hf _ (getD_memN s (by omega : (i : Int) < _) [])) M.i_pure) (M.i_f rfl M.i_pure)))
    · simp only [zaL]
      exact M.i_f (by simp) M.i_pure
  exact M.i_bind (M.i_bind (M.i_bind h M.i_pure) M.i_pure) M.i_pure
theorem apart_out (hA : askedE ws rev = 0) (ht : t < ws.length) (hn : (t : Int) ∉ rev) {ls : List (List Int)} (hL : ApartA ws rev t ls) (h30 : ls.length <= 30) (hll : ∀ l ∈ ls, l.length <= 1000000) :
    (zbl ws rev (t : Int) ls).Ends (true, 0) := by
  obtain ⟨hO, hLs⟩ := asked_ok hA
  have hlen := right_len (opened_right hO)
  have he : (zaF (fun x => zaI x ws) ls).Ends true := everyList_ends fun l hl => by
    have := everyInt_ends (s := l) (f := fun x => zbj x ws) (p := fun x => inB x 0 ((ws.length : Int) - 1)) (fun x _ => M.i_pure)
    rw [show (l.all fun x => inB x 0 ((ws.length : Int) - 1)) = true from List.all_eq_true.2 fun x hx => by
      have := (hL.each l hl).rng x hx
      unfold inB
      simp only [Bool.and_eq_true, decide_eq_true_eq]
      omega] at this
    exact M.i_bind this M.i_pure
  have key : (M.iter (zaC ws rev (t : Int) ls) (List.replicate 30 false, 0)).Out (fun q => ∃ ar, q = .inr ar) := by
    refine M.o_for ls.length (fun k st => st.2 = k /\ st.1.length = 30 /\ ∀ x : Nat, st.1.getD x false = true -> ∃ l ∈ ls.take k, (x : Int) ∈ midL l) ?_ ?_ (s := (List.replicate 30 false, 0)) ⟨rfl, by simp, fun x hx => ?_⟩
    · rintro k ⟨ar, k'⟩ hk ⟨rfl, ha, hm⟩
      dsimp only at hk ha hm ⊢
      have hmem := getD_memN ls (by omega : (k' : Int) < _) []
      have hl := hL.each _ hmem
      have hl2 := hl.two
      have hmax := hll _ hmem
      have hld := webLeads_ends hl.rng hmax
      rw [hl.line, decide_eq_true (by omega : (0 : Int) < ((ls.getD k' []).length : Int))] at hld
      have hlast := hl.last
      have hhead := hl.head
      have hop : (M.opt (!(decide (((ls.getD k' []).length : Int) < 2))) (za2 ws (ls.getD k' [])) false).Ends true := by
        rw [decide_eq_false (by omega)]
        exact hld
      simp only [zaC]
      refine M.o_t (by simpa using hk) (M.o_grdD (by omega) (M.o_bindE hop (M.o_grd (gOr (by omega)) (M.o_grd (gOr2 (by omega) (by omega)) (M.o_f ?_ (M.o_grd (gA3 (by omega) (by omega) (by omega)) (M.o_bind (apart_line hO hL hk ha hm) ?_)))))))
      · rw [decide_eq_false (by omega), List.contains_iff_mem.2 hhead, show Int.toNat (((ls.getD k' []).length : Int) - 1) = (ls.getD k' []).length - 1 from by omega, hlast]
        simp
      · rintro q ⟨ar', rfl, h1, h2⟩
        exact M.o_pure ⟨rfl, h1, h2⟩
    · rintro ⟨ar, k'⟩ ⟨rfl, ha, hm⟩
      simp only [zaC]
      exact M.o_f (by simp) (M.o_pure ⟨_, rfl⟩)
    · dsimp only at hx
      rw [List.getD_eq_getElem?_getD, List.getElem?_replicate] at hx
      split at hx <;> simp at hx
  obtain ⟨q, h1, ar, rfl⟩ := key
  unfold zbl
  exact M.i_bind (kept_ends hA ht hn) (M.i_f rfl (M.i_f (by simp only [decide_eq_false_iff_not]; omega) (M.i_bind he (M.i_f rfl (M.i_bind h1 M.i_pure)))))
/-! ### Freeze and Lines -/
theorem full_direct (hA : askedE ws rev = 0) (ht : t < ws.length) (hn : (t : Int) ∉ rev) (hd : rev.any (fun r => (ws.getD t default).of.contains r) = true) : (zap ws rev (t : Int)).Ends (.inl 5) := by
  have hcf := containsFunc_ends (s := rev) (f := fun x => zaZ x ws (t : Int)) (p := fun r => (ws.getD t default).of.contains r) (fun x _ => M.i_bind (M.i_grd (gA2 (by omega) (by omega)) (by rw [Int.toNat_natCast]; exact M.i_pure)) M.i_pure)
  rw [hd] at hcf
  unfold zap
  exact M.i_bind (kept_ends hA ht hn) (M.i_f rfl (M.i_bind hcf (M.i_t rfl M.i_pure)))
theorem full_out (hA : askedE ws rev = 0) (ht : t < ws.length) (hn : (t : Int) ∉ rev) (hd : rev.any (fun r => (ws.getD t default).of.contains r) = false) :
    LnHyp ws rev t /\ (zap ws rev (t : Int)).Out (fun r => ∃ mp m, r = .inr ((t : Int), mp, m, 0) /\ FullL ws rev t (roomN mp)) := by
  obtain ⟨hO, hL⟩ := asked_ok hA
  have hr := (listed_rng hL).1
  have H : LnHyp ws rev t := ⟨hO, ht, hr, hn, fun r hr h => by
    have := List.any_eq_false.1 hd r hr
    exact this (List.contains_iff_mem.2 h)⟩
  have hcf := containsFunc_ends (s := rev) (f := fun x => zaZ x ws (t : Int)) (p := fun r => (ws.getD t default).of.contains r) (fun x _ => M.i_bind (M.i_grd (gA2 (by omega) (by omega)) (by rw [Int.toNat_natCast]; exact M.i_pure)) M.i_pure)
  rw [hd] at hcf
  refine ⟨H, ?_⟩
  unfold zap
  refine M.o_bindE (kept_ends hA ht hn) (M.o_f rfl (M.o_bindE hcf (M.o_f rfl (M.o_bind (lanes_out H) ?_))))
  rintro ⟨a, mp, m⟩ ⟨h1, h2⟩
  dsimp only at h1 h2 ⊢
  subst h1
  exact M.o_pure ⟨mp, m, rfl, h2⟩
theorem freeze_out (hA : askedE ws rev = 0) (ht : t < ws.length) (hn : (t : Int) ∉ rev) (hd : rev.any (fun r => (ws.getD t default).of.contains r) = false) :
    (zas ws rev (t : Int)).Out (fun r => r.2 = 0 /\ Froz ws rev t r.1 /\ ∃ c, FullL ws rev t c /\ vaL ws rev t c = (r.1.length : Int)) := by
  obtain ⟨H, hf⟩ := full_out hA ht hn hd
  have hl := right_len (opened_right H.opn)
  unfold zas
  refine M.o_bind hf ?_
  rintro r ⟨mp, m, rfl, hF⟩
  dsimp only
  refine M.o_f rfl (M.o_bind (freeze_last H hF) ?_)
  rintro ⟨mp', m'⟩ ⟨rfl, hS⟩
  dsimp only at hS ⊢
  refine M.o_bindE (freeze_list (rev := rev) (t := t) (by omega) _ m') (M.o_pure ⟨rfl, cut_froz H hF.flow hS, _, hF, (cut_count H hF.flow hS).2⟩)
theorem lines_res (hA : askedE ws rev = 0) (ht : t < ws.length) (hn : (t : Int) ∉ rev) (hd : rev.any (fun r => (ws.getD t default).of.contains r) = false) :
    (zaP ws rev (t : Int)).Out (fun r => r.2 = 0 /\ ApartA ws rev t r.1 /\ ∃ c, FullL ws rev t c /\ vaL ws rev t c = (r.1.length : Int)) := by
  obtain ⟨H, hf⟩ := full_out hA ht hn hd
  obtain ⟨hO, hL⟩ := asked_ok hA
  have hl := right_len (opened_right H.opn)
  have hnd : rev.Nodup := asc_nodup (listed_rng hL).2
  unfold zaP
  refine M.o_bind hf ?_
  rintro r ⟨mp, m, rfl, hF⟩
  dsimp only
  refine M.o_f rfl (M.o_grd (gA3 (by omega) (by omega) (by omega)) (M.o_bindE (lines_all (by omega)) (M.o_bind (lines_out H hnd m hF.flow) ?_)))
  rintro ⟨a, ls⟩ ⟨h1, h2, _⟩
  exact M.o_pure ⟨rfl, h1, _, hF, h2.symm⟩
theorem freeze_direct (hA : askedE ws rev = 0) (ht : t < ws.length) (hn : (t : Int) ∉ rev) (hd : rev.any (fun r => (ws.getD t default).of.contains r) = true) : (zas ws rev (t : Int)).Ends ([], 5) /\ (zaP ws rev (t : Int)).Ends ([], 5) := by
  have h := full_direct hA ht hn hd
  exact ⟨M.i_bind h (M.i_t rfl M.i_pure), M.i_bind h (M.i_t rfl M.i_pure)⟩
end Go.Proofs.Ytndobgodeicloaa
namespace Go.Proofs.Ytndobgodeicloaa
open Go Go.Nm
theorem awake_ends : za9.Ends true := ⟨40, by kernel_rfl⟩
end Go.Proofs.Ytndobgodeicloaa
namespace Go.Proofs
open Go.Shelf
def Try.layDel_ren : Go.Shelf.Ren := ⟨fun | 23 => 50 | n => n, fun | 22 => 34 | 3 => 3 | 4 => 4 | 0 => 0 | n => n, fun | n => n⟩
theorem Try.layDel : Go.Proofs.Lays2.n23 Try.prog Try.layDel_ren := {
  mixed := by kernel_rfl
  f23 := Try.func50.trans (congrArg some (by kernel_rfl))
  t0 := Try.underlying0
  a0 := Try.isAgg0
  z0 := Try.sizeOf0
  v0 := Try.zeroValue0
  t3 := Try.underlying3
  a3 := Try.isAgg3
  z3 := Try.sizeOf3
  v3 := Try.zeroValue3
  t4 := Try.underlying4
  a4 := Try.isAgg4
  z4 := Try.sizeOf4
  v4 := Try.zeroValue4
  t22 := Try.underlying34
  a22 := Try.isAgg34
  z22 := Try.sizeOf34
  v22 := Try.zeroValue34
  i3 := by kernel_rfl }
end Go.Proofs
namespace Go.Nm
open Go Go.Sort
theorem mapBlock_setRow {w : World} {g : Nat} {cur : Array Value} {t : TypeId} {fr : Nat × Nat} (f : Array Value -> Array Value) (hg : w.heap[g]? = some (.cells cur t fr)) : mapBlock w g f = w.setRow g (f cur) := by
  unfold mapBlock World.setRow
  congr 1
  apply Array.ext_getElem?
  intro k
  rw [Array.getElem?_modify, Array.getElem?_modify]
  by_cases e : g = k
  · subst e
    rw [if_pos rfl, if_pos rfl, hg]
    rfl
  · rw [if_neg e, if_neg e]
theorem putCells_take (X : List Int) (cur : Array Value) (h : X.length <= cur.size) {n : Nat} (hn : n <= X.length) : (putCells (Value.int .i64) 0 X.toArray cur).toList.take n = (X.take n).map I := by
  apply List.ext_getElem?
  intro k
  rw [List.getElem?_take, List.getElem?_map, List.getElem?_take]
  split
  · rename_i hk
    have hc : cur[k]? = some cur[k] := Array.getElem?_eq_getElem (by omega)
    simp only [putCells, Array.getElem?_toList, Array.getElem?_mapIdx, hc, Option.map_some]
    rw [if_pos ⟨Nat.zero_le _, by simp; omega⟩]
    rw [List.getElem?_eq_getElem (by omega : k < X.length)]
    simp [getElem!_pos, show k < X.length by omega]
  · rfl
end Go.Nm
namespace Go.Proofs.Ytndobgodeicloaa
open Go Go.Nm Go.Proofs Go.Sort
theorem delete_any {B : Nat} {e : TypeId} {w : World} {v : Value} {l : List Int} (ho : OwnF B e w v l) {i j : Int} (h0 : 0 <= i) (hij : i < j) (hj : j <= l.length) :
    Ret Try.prog 50 #[v, I i, I j] w fun u w' => OwnF B e w' u (l.take i.toNat ++ l.drop j.toNat) /\ Grow B v w w' /\ u.ownBlock = v.ownBlock := by
  obtain ⟨i, rfl⟩ := Int.eq_ofNat_of_zero_le h0
  obtain ⟨j, rfl⟩ := Int.eq_ofNat_of_zero_le (show 0 <= j by omega)
  rw [Int.toNat_natCast, Int.toNat_natCast]
  have ho' := ho
  rcases ho.2 with ⟨rfl, hn⟩ | ⟨g, cap, cur, rfl, hb, hg, hc, hm, hcs, htake⟩
  · omega
  · have hs1 : Elt.sz Int = 1 := rfl
    rw [hs1] at hcs htake
    rw [enc_ints] at htake
    have hcell : ∀ k, k < l.length -> w.cell? ⟨g, 0 + k, none⟩ = some (.int .i64 (l.getD k 0)) := by
      intro k hk
      rw [Nat.zero_add, cell_of_row w g k cur e (0, 0) hg]
      have h1 : (cur.toList.take (l.length * 1))[k]? = (l.map I)[k]? := by rw [htake]
      rw [List.getElem?_take, if_pos (by omega), List.getElem?_map, getD_some l hk 0] at h1
      simpa using h1
    have hH : Holds (Value.int .i64) w g 0 l.toArray := by
      intro k hk
      have hk : k < l.length := by simpa using hk
      refine ⟨?_, by simp [World.frozen?, hg]⟩
      rw [hcell k hk]
      have : l.getD k 0 = l.toArray[k]! := by
        rw [List.getD_eq_getElem?_getD, List.getElem?_eq_getElem hk]
        simp [getElem!_pos, hk]
      rw [this]
    refine Calls.mono (Any.slices_Delete_int Try.layDel g 0 cap i j l w hH hc (by simp [maxLen] at hm; omega) (by omega) (by omega)) ?_
    rintro _ w' ⟨rfl, q, rfl⟩
    have hX : (l.take i ++ l.drop j ++ List.replicate (j - i) 0).length = l.length := by
      simp only [List.length_append, List.length_take, List.length_drop, List.length_replicate]
      omega
    have hN : (l.take i ++ l.drop j).length = l.length - (j - i) := by
      simp only [List.length_append, List.length_take, List.length_drop]
      omega
    have hg' : (Sort.ahead w q).heap[g]? = some (.cells cur e (0, 0)) := hg
    have hpr : ∀ X : List Int, putRow (Value.int .i64) (Sort.ahead w q) g 0 X.toArray = (Sort.ahead w q).setRow g (putCells (Value.int .i64) 0 X.toArray cur) := fun X => by
      unfold putRow
      exact mapBlock_setRow _ hg'
    rw [hpr]
    refine ⟨_, rfl, ⟨by rw [enc_ints]; simp [hs1], .inr ⟨g, cap, _, by rw [hN], hb, setRow_heap _ g cur _ e (0, 0) hg', by omega, hm, by simp [hs1, putCells]; omega, ?_⟩⟩, ⟨rfl, rfl, by simp [World.setRow, Sort.ahead], fun k _ hk => ?_, fun g' hg' => (ho'.lt g' hg').1, frozen_setRow _ _ _⟩, rfl⟩
    · rw [enc_ints, hs1, Nat.mul_one, putCells_take _ _ (by omega) (by omega), hN, ← hN, List.take_left]
    · rw [setRow_other]
      · rfl
      · intro e'
        apply hk
        rw [e']
        rfl
end Go.Proofs.Ytndobgodeicloaa
section
set_option maxRecDepth 100000
set_option maxHeartbeats 16000000
namespace Go.Proofs.Ytndobgodeicloaa
open Go Go.Nm
def zbc (i : Int) (ab : List Work) (aa : Int) : M Bool :=
  M.grd (decide ((0 : Int) <= aa) && decide (aa < (ab.length : Int))) <|
  M.pure (((ab.getD (Int.toNat aa) default).of).contains i)
theorem zcn {R : List Chunk} {ag : Nat} {ak : Cells} {ab : Value} {ah : Nat} (i : Int) (ac : List Work) (aa : Int) (al : Reads R ak) (ai : Sl ak ab ac) (ao : Has R (cBlk ag [ab] 22)) (ap : Has R (cBlk ah [I aa] 3)) {r : Bool} (hM : (zbc i ac aa).Ends r) (w : World) (H : St w w [] R) : Ret Try.prog 70 #[I i, Pz ag, Pz ah] w fun v w' => ∃ (y0 : Bool), y0 = r /\ v = B y0 /\ St w w' [] R := by
 refine ret_of_W Try.func70 rfl rfl rfl ?_
 refine sQ rfl <| sA (B false) rfl <| s_nil <| sQ rfl <| s_val (x_ld (p := Pz ag) (v := ab) rfl (ldb_sc Sc22 (ao.blk H) rfl)) <| s_val (x_ld (p := Pz ah) (v := I aa) rfl (ldb_sc Sc3 (ap.blk H) rfl)) ?_
 obtain ⟨aw, hM⟩ := M.e_gd hM
 refine s_val (x_ix (a := ab) (b := I aa) (v := vat ab 3 (Int.toNat aa)) rfl rfl (Sl.ix (α := Work) T22.und T22.size ai (by omega) (by omega))) <| s_val (x_fa (a := vat ab 3 (Int.toNat aa)) (v := fat (vat ab 3 (Int.toNat aa)) 0) rfl (fa_pl Fd60_0 Sz34 (Sl.pl (i := aa) ai (by omega) (by omega)))) ?_
 obtain ⟨aj, aq, ae⟩ := Work_at0 ai (i := aa) (by omega) (by omega)
 replace ae : Sl _ aj (ac.getD (Int.toNat aa) default).of := ae
 have ax := ae.len_le
 refine s_val (x_ld (p := fat (vat ab 3 (Int.toNat aa)) 0) (v := aj) rfl (ld_sc Sc34 (At.mono (aq) (al.at H)))) <| sM (I i) rfl ?_
 refine s_call cf45 [aj, I i] rfl (contains_int i _ (ae.mono (al.at H))) ?_
 rintro _ au ⟨rfl, am⟩
 replace H : St w au [] R := H.ext am
 clear am
 refine sA (B (((ac.getD (Int.toNat aa) default).of).contains i)) rfl <| s_nil ?_
 refine W.ret ?_
 have av := M.e_pure hM
 exact ⟨_, resE_tmp rfl, ⟨(((ac.getD (Int.toNat aa) default).of).contains i), av, rfl, H⟩⟩

def zaH (newer : List UInt8) (which : Int) (r3 : List Work) : (Int × Int × Nat × (List Int)) -> M ((Int × Int × Nat × (List Int)) ⊕ (Int × Int × (List Int) × (List Int))) := fun (s, s2, s3, l2) =>
  bif decide ((s3 : Int) < (r3.length : Int)) then (
  M.grd (decide ((s3 : Int) < (r3.length : Int))) <|
  bif (((((r3.getD s3 default).of).length : Int) == 0) && ((s3 : Int) != (((r3.length : Int) - 1) - (which % (min 4 (r3.length : Int)))))) then (
  M.bind (zaa newer s s2 2) fun (ac, aa, ab) =>
  bif ((((((r3.getD s3 default).of).length : Int) == 0) && ((s3 : Int) != (((r3.length : Int) - 1) - (which % (min 4 (r3.length : Int)))))) && (ac == 0)) then (
  M.grd (decide ((l2.length + ([(s3 : Int)]).length) * 8 <= 140737488355328)) <|
  M.pure (.inl (aa, ab, s3 + 1, l2 ++ ([(s3 : Int)]))))
  else (
  M.pure (.inl (aa, ab, s3 + 1, l2))))
  else (
  bif ((((((r3.getD s3 default).of).length : Int) == 0) && ((s3 : Int) != (((r3.length : Int) - 1) - (which % (min 4 (r3.length : Int)))))) && ((0 : Int) == 0)) then (
  M.grd (decide ((l2.length + ([(s3 : Int)]).length) * 8 <= 140737488355328)) <|
  M.pure (.inl (s, s2, s3 + 1, l2 ++ ([(s3 : Int)]))))
  else (
  M.pure (.inl (s, s2, s3 + 1, l2)))))
  else (
  M.pure (.inr (s, s2, l2, l2)))
def zav (which : Int) (r3 : List Work) (l4 : List Int) (r0 : List Int) : Nat -> M (Nat ⊕ (Unit ⊕ Unit)) := fun s6 =>
  bif decide ((s6 : Int) < (r0.length : Int)) then (
  M.grd (decide (r0.length <= 1000000)) <|
  M.grd (decide ((0 : Int) <= (s6 : Int)) && decide ((s6 : Int) < ((s6 : Int) + 1)) && decide (((s6 : Int) + 1) <= (r0.length : Int))) <|
  M.bind (zaU r3 l4 (((r3.length : Int) - 1) - (which % (min 4 (r3.length : Int)))) (r0.take s6 ++ r0.drop (Int.toNat ((s6 : Int) + 1)))) fun (aa, ab) =>
  bif ((ab != 0) || aa) then (
  M.pure (.inr (.inl ())))
  else (
  M.pure (.inl (s6 + 1))))
  else (
  M.pure (.inr (.inr ())))
def zaM (r3 : List Work) (s8 : Nat) : ((List Int) × Nat) -> M (((List Int) × Nat) ⊕ ((List Int) × (List Int))) := fun (l5, s7) =>
  bif decide ((s7 : Int) < (((r3.getD s8 default).of).length : Int)) then (
  M.grd (decide ((s7 : Int) < (((r3.getD s8 default).of).length : Int))) <|
  M.grd (decide ((s8 : Int) < (l5.length : Int))) <|
  M.grd (decide ((0 : Int) <= (((r3.getD s8 default).of).getD s7 0)) && decide ((((r3.getD s8 default).of).getD s7 0) < (l5.length : Int))) <|
  M.grd (decide ((-9223372036854775808 : Int) <= (((s7 : Int) + 1) * (l5.getD (Int.toNat (((r3.getD s8 default).of).getD s7 0)) 0))) && decide ((((s7 : Int) + 1) * (l5.getD (Int.toNat (((r3.getD s8 default).of).getD s7 0)) 0)) <= (9223372036854775807 : Int))) <|
  M.grd (decide ((-9223372036854775808 : Int) <= ((l5.getD s8 0) + (((s7 : Int) + 1) * (l5.getD (Int.toNat (((r3.getD s8 default).of).getD s7 0)) 0)))) && decide (((l5.getD s8 0) + (((s7 : Int) + 1) * (l5.getD (Int.toNat (((r3.getD s8 default).of).getD s7 0)) 0))) <= (9223372036854775807 : Int))) <|
  M.pure (.inl (l5.set s8 ((l5.getD s8 0) + (((s7 : Int) + 1) * (l5.getD (Int.toNat (((r3.getD s8 default).of).getD s7 0)) 0)) : Int), s7 + 1)))
  else (
  M.pure (.inr (l5, l5)))
def zaJ (newer : List UInt8) (r3 : List Work) (l4 : List Int) (r0 : List Int) : (Nat × Int × Int × (List Int)) -> M ((Nat × Int × Int × (List Int)) ⊕ ((List Int) × (List Int) × Int × Int)) := fun (s8, s9, aa, l8) =>
  bif decide ((s8 : Int) < (r3.length : Int)) then (
  M.grd (decide ((s8 : Int) < (r3.length : Int))) <|
  bif r0.contains (s8 : Int) then (
  M.pure (.inl (s8 + 1, s9, aa, l8)))
  else (
  bif l4.contains (s8 : Int) then (
  M.bind (zaa newer s9 aa 2000) fun (ab, ac, ae) =>
  M.grd (decide ((s8 : Int) < (l8.length : Int))) <|
  M.pure (.inl (s8 + 1, ac, ae, l8.set s8 (ab : Int))))
  else (
  bif decide (0 < (((r3.getD s8 default).of).length : Int)) then (
  M.grd (decide ((s8 : Int) < (l8.length : Int))) <|
  M.bind (M.iter (zaM r3 s8) (l8.set s8 ((r3.getD s8 default).base : Int), 0)) fun (l6, l7) =>
  M.grd (decide ((s8 : Int) < (l7.length : Int))) <|
  M.grd (decide ((0 : Int) <= (l7.getD s8 0)) && decide ((0 : Int) < 1000003)) <|
  M.pure (.inl (s8 + 1, s9, aa, l7.set s8 ((l7.getD s8 0) % 1000003 : Int))))
  else (
  M.pure (.inl (s8 + 1, s9, aa, l8))))))
  else (
  M.pure (.inr (l8, l8, s9, aa)))
def zbb (numbers : List UInt8) (newer : List UInt8) (which : Int) : M Bool :=
  M.bind (zbB numbers) fun (r1, r2) =>
  M.bind (zbB newer) fun (ag, ah) =>
  M.bind (zbg numbers r1 r2 14) fun (r3, q1, q2) =>
  M.bind (za7 numbers q1 q2 r3) fun (r4, au, av) =>
  M.bind (M.pure (valuesR r3 r4, valuesE r3 r4)) fun (l, e) =>
  bif ((e != 0) || ((l.length : Int) != (r3.length : Int))) then (
  M.pure false)
  else (
  M.grd (decide ((0 : Int) <= which) && decide (which < (256 : Int))) <|
  M.grd (decide ((0 : Int) <= which) && decide ((0 : Int) < (min 4 (r3.length : Int)))) <|
  M.grd (decide ((-9223372036854775808 : Int) <= (((r3.length : Int) - 1) - (which % (min 4 (r3.length : Int))))) && decide ((((r3.length : Int) - 1) - (which % (min 4 (r3.length : Int)))) <= (9223372036854775807 : Int))) <|
  M.bind (M.iter (zaH newer which r3) (ag, ah, 0, [])) fun (s4, s5, l3, l4) =>
  M.bind (zas r3 l4 (((r3.length : Int) - 1) - (which % (min 4 (r3.length : Int))))) fun (r0, aa) =>
  M.bind (zaP r3 l4 (((r3.length : Int) - 1) - (which % (min 4 (r3.length : Int))))) fun (ae, ai) =>
  M.bind (zaf l4 (fun aj => zbc aj r3 (((r3.length : Int) - 1) - (which % (min 4 (r3.length : Int)))))) fun ab =>
  bif (((aa != ai) || (ab != (aa == 5))) || ((!ab) && (aa != 0))) then (
  M.pure false)
  else (
  bif ab then (
  M.bind (za9) fun ak =>
  M.pure ak)
  else (
  M.bind (zaU r3 l4 (((r3.length : Int) - 1) - (which % (min 4 (r3.length : Int)))) r0) fun (al, am) =>
  M.bind (zbl r3 l4 (((r3.length : Int) - 1) - (which % (min 4 (r3.length : Int)))) ae) fun (ao, ap) =>
  bif (((((am != 0) || (ap != 0)) || (!al)) || (!ao)) || ((ae.length : Int) != (r0.length : Int))) then (
  M.pure false)
  else (
  M.bind (M.iter (zav which r3 l4 r0) 0) fun x_ => match x_ with
  | (.inl (_ : Unit)) => (
  M.pure false)
  | (.inr (_ : Unit)) => (
  M.grd (decide (l.length <= 1000000)) <|
  M.bind (M.iter (zaJ newer r3 l4 r0) (0, s4, s5, l)) fun (l9, ac, aw, ax) =>
  M.grd (decide ((0 : Int) <= (((r3.length : Int) - 1) - (which % (min 4 (r3.length : Int))))) && decide ((((r3.length : Int) - 1) - (which % (min 4 (r3.length : Int)))) < (ac.length : Int))) <|
  M.grd (decide ((0 : Int) <= (((r3.length : Int) - 1) - (which % (min 4 (r3.length : Int))))) && decide ((((r3.length : Int) - 1) - (which % (min 4 (r3.length : Int)))) < (l.length : Int))) <|
  M.bind (M.opt ((ac.getD (Int.toNat (((r3.length : Int) - 1) - (which % (min 4 (r3.length : Int))))) 0) == (l.getD (Int.toNat (((r3.length : Int) - 1) - (which % (min 4 (r3.length : Int))))) 0)) (za9) false) fun aq =>
  M.pure (((ac.getD (Int.toNat (((r3.length : Int) - 1) - (which % (min 4 (r3.length : Int))))) 0) == (l.getD (Int.toNat (((r3.length : Int) - 1) - (which % (min 4 (r3.length : Int))))) 0)) && aq))))))
theorem zcf {R : List Chunk} {bT : Cells} {ai : Value} {bU : Cells} {ak : Value} (numbers : List UInt8) (newer : List UInt8) (which : Int) (bt : Reads R bT) (bu : Sl bT ai numbers) (bv : Reads R bU) (bw : Sl bU ak newer) {r : Bool} (hM : (zbb numbers newer which).Ends r) (w : World) (H : St w w [] R) : Ret Try.prog 12 #[ai, ak, .int .u8 which] w fun v w' => ∃ (y0 : Bool), y0 = r /\ v = B y0 /\ St w w' [] R := by
 refine ret_of_W Try.func12 rfl rfl rfl ?_
 refine sQ rfl <| sA (B false) rfl <| s_nil <| sQ rfl <| sM ai rfl ?_
 obtain ⟨dN, cg, hM⟩ := M.e_bind hM
 refine s_call cf40 [ai] rfl (zbX numbers (bt.app _) bu cg _ (St.give (T := []) H rfl)) ?_
 rintro vq ci ⟨r1, r2, ah, cj, hvq, az⟩
 subst cj
 subst vq
 try dsimp only at hM
 replace H : St w ci [cBlk ah [ai, I r1, I r2] 158] R := H.back az rfl
 clear az
 refine sM ak rfl ?_
 obtain ⟨dO, ck, hM⟩ := M.e_bind hM
 refine s_call cf40 [ak] rfl (zbX newer (bv.app _) bw ck _ (St.give (T := [cBlk ah [ai, I r1, I r2] 158]) H rfl)) ?_
 rintro vq cm ⟨aO, aP, ac, cn, hvq, az⟩
 subst cn
 subst vq
 try dsimp only at hM
 replace H : St w cm [cBlk ac [ak, I aO, I aP] 158, cBlk ah [ai, I r1, I r2] 158] R := H.back az rfl
 clear az
 refine sA (Pz ah) rfl <| sA (Pz ac) rfl <| s_nil <| sQ rfl <| sM (Pz ah) rfl ?_
 obtain ⟨dP, co, hM⟩ := M.e_bind hM
 refine s_call cf41 [Pz ah, I 14] rfl (zb5 numbers r1 r2 14 (bt.app _) bu co _ (St.give (L := [cBlk ah [ai, I r1, I r2] 158, cBlk ac [ak, I aO, I aP] 158]) (A := [cBlk ah [ai, I r1, I r2] 158]) (T := [cBlk ac [ak, I aO, I aP] 158]) (H.pick [1, 0] (by decide) rfl) rfl)) ?_
 rintro vq cp ⟨r3, q1, q2, aa, am, ao, cq, hvq, az, aK⟩
 subst cq
 subst vq
 try dsimp only at hM
 replace H : St w cp [cOwn (α := Raw 2) 60 aa am, cRo ao, cBlk ah [ai, I q1, I q2] 158, cBlk ac [ak, I aO, I aP] 158] R := H.pick [1, 0] (by decide) rfl |>.back az rfl
 clear az
 refine t_alloc (cs := [.slice none 0 0]) H Al22 rfl ?_
 intro ab dQ H
 refine t_st (k := 0) (b := ab) (off := 0) (cs := [.slice none 0 0]) (vs := [aa]) (cs' := [aa]) (v := aa) (L' := [cBlk ab [aa] 22, cOwn (α := Raw 2) 60 aa am, cRo ao, cBlk ah [ai, I q1, I q2] 158, cBlk ac [ak, I aO, I aP] 158]) H rfl rfl rfl Sz22 (Sl.cells (rowSl rfl (H.get (k := 1) rfl) (roLe _ (H.get (k := 2) rfl)) aK)) rfl rfl (by simp only [List.all_cons, List.all_nil, Bool.true_and, Bool.and_true, Sl.oc (rowSl rfl (H.get (k := 1) rfl) (roLe _ (H.get (k := 2) rfl)) aK)]; try rfl) rfl rfl ?_
 intro dR H
 refine s_nil <| sQ rfl <| sM (Pz ah) rfl <| s_val (x_ld (p := Pz ab) (v := aa) rfl (ldb_sc Sc22 (H.blk (k := 0) rfl) rfl)) ?_
 obtain ⟨dS, cr, hM⟩ := M.e_bind hM
 refine s_call cf42 [Pz ah, aa] rfl (zb6 numbers q1 q2 r3 (bt.app _) bu (Reads.sup (Reads.of (k := 1) rfl ownLe) (Reads.of (k := 2) rfl roLe)) (rowSl rfl (H.get (k := 1) rfl) (roLe _ (H.get (k := 2) rfl)) aK) cr _ (St.give (L := [cBlk ah [ai, I q1, I q2] 158, cBlk ab [aa] 22, cOwn (α := Raw 2) 60 aa am, cRo ao, cBlk ac [ak, I aO, I aP] 158]) (A := [cBlk ah [ai, I q1, I q2] 158]) (T := [cBlk ab [aa] 22, cOwn (α := Raw 2) 60 aa am, cRo ao, cBlk ac [ak, I aO, I aP] 158]) (H.pick [3, 0, 1, 2, 4] (by decide) rfl) rfl)) ?_
 rintro vq ct ⟨r4, au, av, aq, cu, hvq, az⟩
 subst cu
 subst vq
 try dsimp only at hM
 replace H : St w ct [cOwn (α := Note) 30 aq r4, cBlk ah [ai, I au, I av] 158, cBlk ab [aa] 22, cOwn (α := Raw 2) 60 aa am, cRo ao, cBlk ac [ak, I aO, I aP] 158] R := H.pick [3, 0, 1, 2, 4] (by decide) rfl |>.back az rfl
 clear az
 refine sA aq rfl <| s_nil <| sQ rfl <| s_val (x_ld (p := Pz ab) (v := aa) rfl (ldb_sc Sc22 (H.blk (k := 2) rfl) rfl)) <| sM aq rfl ?_
 obtain ⟨⟨l, e⟩, cv, hM⟩ := M.e_bind hM
 obtain ⟨cw, cx⟩ := Prod.mk.inj (M.e_pure cv)
 try dsimp only at hM
 refine s_call cf21 [aa, aq] rfl (by have bV := (Values_any _ ((rowSl rfl (H.get (k := 3) rfl) (roLe _ (H.get (k := 4) rfl)) aK).mono (Cells.sup_le (ownLe _ (H.get (k := 3) rfl)) (roLe _ (H.get (k := 4) rfl)))) ((ownSl (H.get (k := 0) rfl)).mono (ownLe _ (H.get (k := 0) rfl)))); rw [cw, cx] at bV; exact bV) ?_
 rintro _ dT ⟨aN, rfl, aX, aL⟩
 obtain ⟨aw, H, aX⟩ := H.fresh aL aX
 clear aL
 have dU := aX.len_le
 refine sM (.tuple #[aN, I e]) rfl <| sX [aN, I e] aN rfl rfl <| sX [aN, I e] (I e) rfl rfl <| sA aN rfl <| sA (I e) rfl <| s_nil <| W.seq <| sQ rfl <| sM (I e) rfl <| sC e 0 (e != 0) rfl rfl rfl <| sM (B (e != 0)) rfl ?_
 refine g_val (!(e != 0)) (gy_f rfl) (fun hg => x_mv (v := aN) rfl) <| g_val (!(e != 0)) (gy_f rfl) (fun hg => x_lenS T34.und (gd_of (c := !(e != 0)) hg (aN)) aX) <| g_val (!(e != 0)) (gy_f rfl) (fun hg => x_ld (p := Pz ab) (v := aa) rfl (ldb_sc Sc22 (H.blk (k := 3) rfl) rfl)) <| g_val (!(e != 0)) (gy_f rfl) (fun hg => x_lenS T22.und (gd_of (c := !(e != 0)) hg (aa)) (rowSl rfl (H.get (k := 4) rfl) (roLe _ (H.get (k := 5) rfl)) aK)) <| g_val (!(e != 0)) (gy_f rfl) (fun hg => x_cmp (kd := .i64) (a := (l.length : Int)) (b := (r3.length : Int)) (r := (l.length : Int) != (r3.length : Int)) (gd_of (c := !(e != 0)) hg (I (l.length : Int))) (gd_of (c := !(e != 0)) hg (I (r3.length : Int))) rfl) <| s_val (x_por (b := e != 0) (r := (l.length : Int) != (r3.length : Int)) rfl rfl (fun hb => gd_of (c := !(e != 0)) (by first | exact hb | (rw [hb]; rfl) | simp_all) (B ((l.length : Int) != (r3.length : Int))))) <| s_nil ?_
 refine W.cond ((e != 0) || ((l.length : Int) != (r3.length : Int))) rfl (fun bx => ?_) (fun bx => ?_)
 ·replace hM := M.e_t hM bx
  refine sQ rfl <| sA (B false) rfl <| s_nil ?_
  refine W.ret ?_
  have aQ := M.e_pure hM
  exact ⟨_, resE_tmp rfl, ⟨false, aQ, rfl, (H.pick [] (by decide) rfl)⟩⟩
 replace hM := M.e_f hM bx
 refine W.skip <| W.seq ?_
 refine W.draw (fun W => St w W [cRo aw, cOwn (α := Note) 30 aq r4, cBlk ah [ai, I au, I av] 158, cBlk ab [aa] 22, cOwn (α := Raw 2) 60 aa am, cRo ao, cBlk ac [ak, I aO, I aP] 158] R) [(0, true), (1, true), (2, true), (3, true), (4, true), (5, true), (6, true), (7, true), (8, true), (9, true), (10, false), (11, false)] mixed (by decide +kernel) rfl ?_
 intro cy aL
 replace H : St w cy [cRo aw, cOwn (α := Note) 30 aq r4, cBlk ah [ai, I au, I av] 158, cBlk ab [aa] 22, cOwn (α := Raw 2) 60 aa am, cRo ao, cBlk ac [ak, I aO, I aP] 158] R := H.ext aL
 clear aL
 refine ⟨(H.pick [0, 1, 2, 3, 4, 5, 6] (by decide) rfl), ?_⟩
 refine d_q rfl (fun w' H => x_ld (p := Pz ab) (v := aa) rfl (ldb_sc Sc22 (H.blk (k := 3) rfl) rfl)) ?_
 have dV := ((rowSl rfl (H.get (k := 4) rfl) (roLe _ (H.get (k := 5) rfl)) aK)).len_le
 refine d_q rfl (fun w' H => x_lenS T22.und rfl (rowSl rfl (H.get (k := 4) rfl) (roLe _ (H.get (k := 5) rfl)) aK)) ?_
 refine d_q rfl (fun w' H => x_ari (a := (r3.length : Int)) (b := 1) (r := (r3.length : Int) - 1) rfl rfl rfl (by omega)) ?_
 refine d_q rfl (fun w' H => x_mv (v := .int .u8 which) rfl) ?_
 obtain ⟨dW, hM⟩ := M.e_gd hM
 refine d_q rfl (fun w' H => x_conv64 (kd := .u8) (a := which) Try.underlying5 Try.underlying3 rfl (by omega)) ?_
 refine d_q rfl (fun w' H => x_ld (p := Pz ab) (v := aa) rfl (ldb_sc Sc22 (H.blk (k := 3) rfl) rfl)) ?_
 have dX := ((rowSl rfl (H.get (k := 4) rfl) (roLe _ (H.get (k := 5) rfl)) aK)).len_le
 refine d_q rfl (fun w' H => x_lenS T22.und rfl (rowSl rfl (H.get (k := 4) rfl) (roLe _ (H.get (k := 5) rfl)) aK)) ?_
 refine d_q rfl (fun w' H => x_min (kd := .i64) (a := 4) (b := (r3.length : Int)) rfl rfl) ?_
 obtain ⟨dY, hM⟩ := M.e_gd hM
 refine d_q rfl (fun w' H => x_rem' (a := which) (b := min 4 (r3.length : Int)) rfl rfl (by omega)) ?_
 obtain ⟨dZ, hM⟩ := M.e_gd hM
 refine d_q rfl (fun w' H => x_ari (a := (r3.length : Int) - 1) (b := which % (min 4 (r3.length : Int))) (r := ((r3.length : Int) - 1) - (which % (min 4 (r3.length : Int)))) rfl rfl rfl (by omega)) ?_
 refine d_l rfl ?_
 refine t_alloc (cs := [I 0]) H Al3 rfl ?_
 intro aj d3 H
 refine s_nil ⟨(H.pick [1, 2, 3, 4, 5, 6, 7] (by decide) rfl), ?_⟩
 refine d_l rfl ?_
 refine t_st (k := 0) (b := aj) (off := 0) (cs := [I 0]) (vs := [I (((r3.length : Int) - 1) - (which % (min 4 (r3.length : Int))))]) (cs' := [I (((r3.length : Int) - 1) - (which % (min 4 (r3.length : Int))))]) (v := I (((r3.length : Int) - 1) - (which % (min 4 (r3.length : Int))))) (L' := [cBlk aj [I (((r3.length : Int) - 1) - (which % (min 4 (r3.length : Int))))] 3, cRo aw, cOwn (α := Note) 30 aq r4, cBlk ah [ai, I au, I av] 158, cBlk ab [aa] 22, cOwn (α := Raw 2) 60 aa am, cRo ao, cBlk ac [ak, I aO, I aP] 158]) H rfl rfl rfl Sz3 rfl rfl rfl rfl rfl rfl ?_
 intro cz H
 refine s_nil ⟨(H.pick [1, 2, 3, 4, 5, 6, 7] (by decide) rfl), ?_⟩
 refine d_nil ?_
 refine sQ rfl <| sA (.slice none 0 0) rfl <| s_nil <| W.seq <| sQ rfl <| s_val (x_ld (p := Pz ab) (v := aa) rfl (ldb_sc Sc22 (H.blk (k := 4) rfl) rfl)) ?_
 have d4 := ((rowSl rfl (H.get (k := 5) rfl) (roLe _ (H.get (k := 6) rfl)) aK)).len_le
 refine s_val (x_lenS T22.und rfl (rowSl rfl (H.get (k := 5) rfl) (roLe _ (H.get (k := 6) rfl)) aK)) <| sM (I 0) rfl <| s_nil <| W.block ?_
 replace H : St w cz [cOwn (α := Int) 3 (.slice none 0 0) ([]), cBlk aj [I (((r3.length : Int) - 1) - (which % (min 4 (r3.length : Int))))] 3, cRo aw, cOwn (α := Note) 30 aq r4, cBlk ah [ai, I au, I av] 158, cBlk ab [aa] 22, cOwn (α := Raw 2) 60 aa am, cRo ao, cBlk ac [ak, I aO, I aP] 158] R := H.nilOwn (α := Int) 3
 obtain ⟨cA, bz, cB⟩ := M.e_bind hM
 obtain ⟨bA, bz⟩ := M.e_iter bz
 refine W.loop (fun m σ W => ∃ (s : Int) (s2 : Int) (s3 : Nat) (l2 : List Int) (ae : Value) (ρ : Env), σ = upds ρ [(8, Pz ac), (9, Pz ab), (11, aN), (13, Pz aj), (14, ae), (66, aa), (67, I (r3.length : Int)), (68, I (s3 : Int))] /\ M.iterN (zaH newer which r3) m (s, s2, s3, l2) = some cA /\ St w W [cOwn (α := Int) 3 ae l2, cBlk aj [I (((r3.length : Int) - 1) - (which % (min 4 (r3.length : Int))))] 3, cRo aw, cOwn (α := Note) 30 aq r4, cBlk ah [ai, I au, I av] 158, cBlk ab [aa] 22, cOwn (α := Raw 2) 60 aa am, cRo ao, cBlk ac [ak, I s, I s2] 158] R) ?_ ?_
 ·exact ⟨_, aO, aP, 0, [], (.slice none 0 0), _, upds_of _ _ ⟨rfl, rfl, rfl, rfl, rfl, rfl, rfl, rfl, trivial⟩, bz, H⟩
 rintro d5 σ d6 ⟨s, s2, s3, l2, ae, ρ, rfl, bW, H⟩
 obtain ⟨bm, bn, d7, hM, ba⟩ := M.e_iterN bW
 simp only [zaH] at hM
 clear bW
 refine sQ rfl <| sC (s3 : Int) (r3.length : Int) (decide ((s3 : Int) < (r3.length : Int))) rfl rfl rfl <| s_nil <| W.seq ?_
 refine W.cond (decide ((s3 : Int) < (r3.length : Int))) rfl (fun bb => ?_) (fun bb => ?_)
 ·replace hM := M.e_t hM bb
  simp only [qz1, qz2, qz3, qz4, qz5, qz6, ne_eq, qz7] at bb
  refine W.skip <| W.seq <| W.block <| sQ rfl <| sM (I (s3 : Int)) rfl ?_
  obtain ⟨d8, hM⟩ := M.e_gd hM
  refine s_val (x_ix (a := aa) (b := I (s3 : Int)) (v := vat aa 3 (Int.toNat (s3 : Int))) rfl rfl (Sl.ix (α := Work) T22.und T22.size (rowSl rfl (H.get (k := 6) rfl) (roLe _ (H.get (k := 7) rfl)) aK) (by omega) (by omega))) ?_
  obtain ⟨aS, cC, a6⟩ := Work_atA (rowSl rfl (H.get (k := 6) rfl) (roLe _ (H.get (k := 7) rfl)) aK) (i := (s3 : Int)) (by omega) (by omega)
  replace a6 : Sl _ aS (r3.getD s3 default).of := a6
  have d9 := a6.len_le
  refine s_val (x_ld (p := vat aa 3 (Int.toNat (s3 : Int))) (v := .agg #[aS, I ((r3.getD s3 default).base), I ((r3.getD s3 default).minutes)]) rfl (ld_ag Ag60 Sz60 (At.mono cC (Cells.sup_le (ownLe _ (H.get (k := 6) rfl)) (roLe _ (H.get (k := 7) rfl)))))) ?_
  refine t_alloc (cs := [.slice none 0 0, I 0, I 0]) H Al60 rfl ?_
  intro aT ec H
  refine sA (I (s3 : Int)) rfl ?_
  refine t_st (k := 0) (b := aT) (off := 0) (cs := [.slice none 0 0, I 0, I 0]) (vs := [aS, I ((r3.getD s3 default).base), I ((r3.getD s3 default).minutes)]) (cs' := [aS, I ((r3.getD s3 default).base), I ((r3.getD s3 default).minutes)]) (v := .agg #[aS, I ((r3.getD s3 default).base), I ((r3.getD s3 default).minutes)]) (L' := [cBlk aT [aS, I ((r3.getD s3 default).base), I ((r3.getD s3 default).minutes)] 60, cOwn (α := Int) 3 ae l2, cBlk aj [I (((r3.length : Int) - 1) - (which % (min 4 (r3.length : Int))))] 3, cRo aw, cOwn (α := Note) 30 aq r4, cBlk ah [ai, I au, I av] 158, cBlk ab [aa] 22, cOwn (α := Raw 2) 60 aa am, cRo ao, cBlk ac [ak, I s, I s2] 158]) H rfl rfl rfl Sz60 rfl rfl rfl (by simp only [List.all_cons, List.all_nil, Bool.true_and, Bool.and_true, Sl.oc a6]; try rfl) rfl rfl ?_
  intro ed H
  refine s_nil <| sQ rfl <| s_val (x_fa (a := Pz aT) (v := Pz aT) rfl (fa_blk (o := 0) Fd60_0 Sz34)) <| s_val (x_ld (p := Pz aT) (v := aS) rfl (ldb_sc Sc34 (H.blk (k := 0) rfl) rfl)) ?_
  have ee := (a6).len_le
  refine s_val (x_lenS T34.und rfl a6) <| sC (((r3.getD s3 default).of).length : Int) 0 ((((r3.getD s3 default).of).length : Int) == 0) rfl rfl rfl <| sM (B ((((r3.getD s3 default).of).length : Int) == 0)) rfl <| g_val ((((r3.getD s3 default).of).length : Int) == 0) (gy_t rfl) (fun hg => x_mv (v := I (s3 : Int)) rfl) <| g_val ((((r3.getD s3 default).of).length : Int) == 0) (gy_t rfl) (fun hg => x_ld (p := Pz aj) (v := I (((r3.length : Int) - 1) - (which % (min 4 (r3.length : Int))))) rfl (ldb_sc Sc3 (H.blk (k := 2) rfl) rfl)) <| g_val ((((r3.getD s3 default).of).length : Int) == 0) (gy_t rfl) (fun hg => x_cmp (kd := .i64) (a := (s3 : Int)) (b := ((r3.length : Int) - 1) - (which % (min 4 (r3.length : Int)))) (r := (s3 : Int) != (((r3.length : Int) - 1) - (which % (min 4 (r3.length : Int))))) (gd_of (c := (((r3.getD s3 default).of).length : Int) == 0) hg (I (s3 : Int))) (gd_of (c := (((r3.getD s3 default).of).length : Int) == 0) hg (I (((r3.length : Int) - 1) - (which % (min 4 (r3.length : Int)))))) rfl) <| s_val (x_pand (b := (((r3.getD s3 default).of).length : Int) == 0) (r := (s3 : Int) != (((r3.length : Int) - 1) - (which % (min 4 (r3.length : Int))))) rfl (fun hb => gd_of (c := (((r3.getD s3 default).of).length : Int) == 0) (by first | exact hb | (rw [hb]; rfl) | simp_all) (B ((s3 : Int) != (((r3.length : Int) - 1) - (which % (min 4 (r3.length : Int))))))) rfl) <| sM (B (((((r3.getD s3 default).of).length : Int) == 0) && ((s3 : Int) != (((r3.length : Int) - 1) - (which % (min 4 (r3.length : Int))))))) rfl <| g_val (((((r3.getD s3 default).of).length : Int) == 0) && ((s3 : Int) != (((r3.length : Int) - 1) - (which % (min 4 (r3.length : Int)))))) (gy_t rfl) (fun hg => x_mv (v := Pz ac) rfl) ?_
  refine g_splitV (((((r3.getD s3 default).of).length : Int) == 0) && ((s3 : Int) != (((r3.length : Int) - 1) - (which % (min 4 (r3.length : Int)))))) (I 0) (gy_t rfl) (fun aY => ?_) (fun aY => ?_)
  ·replace hM := M.e_t hM aY
   obtain ⟨ef, cD, hM⟩ := M.e_bind hM
   refine s_call cf44 [Pz ac, I 2] (lst2 (gd_of (c := (((((r3.getD s3 default).of).length : Int) == 0) && ((s3 : Int) != (((r3.length : Int) - 1) - (which % (min 4 (r3.length : Int))))))) aY (Pz ac)) rfl) (zag newer s s2 2 (bv.app _) bw cD _ (St.give (L := [cBlk ac [ak, I s, I s2] 158, cBlk aT [aS, I ((r3.getD s3 default).base), I ((r3.getD s3 default).minutes)] 60, cOwn (α := Int) 3 ae l2, cBlk aj [I (((r3.length : Int) - 1) - (which % (min 4 (r3.length : Int))))] 3, cRo aw, cOwn (α := Note) 30 aq r4, cBlk ah [ai, I au, I av] 158, cBlk ab [aa] 22, cOwn (α := Raw 2) 60 aa am, cRo ao]) (A := [cBlk ac [ak, I s, I s2] 158]) (T := [cBlk aT [aS, I ((r3.getD s3 default).base), I ((r3.getD s3 default).minutes)] 60, cOwn (α := Int) 3 ae l2, cBlk aj [I (((r3.length : Int) - 1) - (which % (min 4 (r3.length : Int))))] 3, cRo aw, cOwn (α := Note) 30 aq r4, cBlk ah [ai, I au, I av] 158, cBlk ab [aa] 22, cOwn (α := Raw 2) 60 aa am, cRo ao]) (H.pick [9, 0, 1, 2, 3, 4, 5, 6, 7, 8] (by decide) rfl) rfl)) ?_
   rintro vq cE ⟨bc, bo, bp, cF, hvq, az⟩
   subst cF
   subst vq
   try dsimp only at hM
   replace H : St w cE [cBlk ac [ak, I bo, I bp] 158, cBlk aT [aS, I ((r3.getD s3 default).base), I ((r3.getD s3 default).minutes)] 60, cOwn (α := Int) 3 ae l2, cBlk aj [I (((r3.length : Int) - 1) - (which % (min 4 (r3.length : Int))))] 3, cRo aw, cOwn (α := Note) 30 aq r4, cBlk ah [ai, I au, I av] 158, cBlk ab [aa] 22, cOwn (α := Raw 2) 60 aa am, cRo ao] R := H.pick [9, 0, 1, 2, 3, 4, 5, 6, 7, 8] (by decide) rfl |>.back az rfl
   clear az
   refine g_val (((((r3.getD s3 default).of).length : Int) == 0) && ((s3 : Int) != (((r3.length : Int) - 1) - (which % (min 4 (r3.length : Int)))))) (gy_t rfl) (fun hg => x_cmp (kd := .i64) (a := bc) (b := 0) (r := bc == 0) rfl rfl rfl) <| s_val (x_pand (b := (((((r3.getD s3 default).of).length : Int) == 0) && ((s3 : Int) != (((r3.length : Int) - 1) - (which % (min 4 (r3.length : Int))))))) (r := bc == 0) rfl (fun hb => gd_of (c := (((((r3.getD s3 default).of).length : Int) == 0) && ((s3 : Int) != (((r3.length : Int) - 1) - (which % (min 4 (r3.length : Int))))))) (by first | exact hb | (rw [hb]; rfl) | simp_all) (B (bc == 0))) rfl) <| s_nil ?_
   refine W.cond ((((((r3.getD s3 default).of).length : Int) == 0) && ((s3 : Int) != (((r3.length : Int) - 1) - (which % (min 4 (r3.length : Int)))))) && (bc == 0)) rfl (fun bB => ?_) (fun bB => ?_)
   ·replace hM := M.e_t hM bB
    refine W.region rfl <| sM ae rfl <| sM (I (s3 : Int)) rfl ?_
    refine t_bs (α := Int) T34 [I (s3 : Int)] [(s3 : Int)] H rfl (.cons rfl (Flat.rep_enc _ (s3 : Int)) <| .nil) rfl rfl rfl ?_
    intro bX eg H
    obtain ⟨eh, hM⟩ := M.e_gd hM
    refine t_app (α := Int) (k := 3) (l := l2) (l2 := [(s3 : Int)]) (l' := l2 ++ ([(s3 : Int)])) (vy := bX) T34 rfl H rfl rfl rfl (ownSl (H.get (k := 0) rfl)) (ownLe _ (H.get (k := 0) rfl)) (rfl) (by first | omega | (simp only [List.length_nil] at *; omega)) ?_
    intro bC cG H
    replace H : St w cG [cOwn (α := Int) 3 bX ([(s3 : Int)]), cBlk ac [ak, I bo, I bp] 158, cBlk aT [aS, I ((r3.getD s3 default).base), I ((r3.getD s3 default).minutes)] 60, cOwn (α := Int) 3 bC (l2 ++ ([(s3 : Int)])), cBlk aj [I (((r3.length : Int) - 1) - (which % (min 4 (r3.length : Int))))] 3, cRo aw, cOwn (α := Note) 30 aq r4, cBlk ah [ai, I au, I av] 158, cBlk ab [aa] 22, cOwn (α := Raw 2) 60 aa am, cRo ao] R := H
    refine sA bC rfl <| s_nil <| W.region rfl <| sR (s3 : Int) 1 ((s3 : Int) + 1) rfl rfl rfl (by omega) <| sM (I ((s3 : Int) + 1)) rfl <| s_nil ?_
    exact ⟨bm, bn, bo, bp, s3 + 1, l2 ++ ([(s3 : Int)]), bC, _, upds_of _ _ ⟨rfl, rfl, rfl, rfl, rfl, rfl, rfl, rfl, trivial⟩, M.e_inl hM ba, (H.pick [3, 4, 5, 6, 7, 8, 9, 10, 1] (by decide) rfl)⟩
   replace hM := M.e_f hM bB
   refine W.skip <| W.region rfl <| sR (s3 : Int) 1 ((s3 : Int) + 1) rfl rfl rfl (by omega) <| sM (I ((s3 : Int) + 1)) rfl <| s_nil ?_
   exact ⟨bm, bn, bo, bp, s3 + 1, l2, ae, _, upds_of _ _ ⟨rfl, rfl, rfl, rfl, rfl, rfl, rfl, rfl, trivial⟩, M.e_inl hM ba, (H.pick [2, 3, 4, 5, 6, 7, 8, 9, 0] (by decide) rfl)⟩
  replace hM := M.e_f hM aY
  refine g_val (((((r3.getD s3 default).of).length : Int) == 0) && ((s3 : Int) != (((r3.length : Int) - 1) - (which % (min 4 (r3.length : Int)))))) (gy_t rfl) (fun hg => x_cmp (kd := .i64) (a := 0) (b := 0) (r := (0 : Int) == 0) (gd_of (c := (((((r3.getD s3 default).of).length : Int) == 0) && ((s3 : Int) != (((r3.length : Int) - 1) - (which % (min 4 (r3.length : Int))))))) hg (I 0)) rfl rfl) <| s_val (x_pand (b := (((((r3.getD s3 default).of).length : Int) == 0) && ((s3 : Int) != (((r3.length : Int) - 1) - (which % (min 4 (r3.length : Int))))))) (r := (0 : Int) == 0) rfl (fun hb => gd_of (c := (((((r3.getD s3 default).of).length : Int) == 0) && ((s3 : Int) != (((r3.length : Int) - 1) - (which % (min 4 (r3.length : Int))))))) (by first | exact hb | (rw [hb]; rfl) | simp_all) (B ((0 : Int) == 0))) rfl) <| s_nil ?_
  refine W.cond ((((((r3.getD s3 default).of).length : Int) == 0) && ((s3 : Int) != (((r3.length : Int) - 1) - (which % (min 4 (r3.length : Int)))))) && ((0 : Int) == 0)) rfl (fun bD => ?_) (fun bD => ?_)
  ·replace hM := M.e_t hM bD
   refine W.region rfl <| sM ae rfl <| sM (I (s3 : Int)) rfl ?_
   refine t_bs (α := Int) T34 [I (s3 : Int)] [(s3 : Int)] H rfl (.cons rfl (Flat.rep_enc _ (s3 : Int)) <| .nil) rfl rfl rfl ?_
   intro bY ei H
   obtain ⟨ej, hM⟩ := M.e_gd hM
   refine t_app (α := Int) (k := 2) (l := l2) (l2 := [(s3 : Int)]) (l' := l2 ++ ([(s3 : Int)])) (vy := bY) T34 rfl H rfl rfl rfl (ownSl (H.get (k := 0) rfl)) (ownLe _ (H.get (k := 0) rfl)) (rfl) (by first | omega | (simp only [List.length_nil] at *; omega)) ?_
   intro bE cH H
   replace H : St w cH [cOwn (α := Int) 3 bY ([(s3 : Int)]), cBlk aT [aS, I ((r3.getD s3 default).base), I ((r3.getD s3 default).minutes)] 60, cOwn (α := Int) 3 bE (l2 ++ ([(s3 : Int)])), cBlk aj [I (((r3.length : Int) - 1) - (which % (min 4 (r3.length : Int))))] 3, cRo aw, cOwn (α := Note) 30 aq r4, cBlk ah [ai, I au, I av] 158, cBlk ab [aa] 22, cOwn (α := Raw 2) 60 aa am, cRo ao, cBlk ac [ak, I s, I s2] 158] R := H
   refine sA bE rfl <| s_nil <| W.region rfl <| sR (s3 : Int) 1 ((s3 : Int) + 1) rfl rfl rfl (by omega) <| sM (I ((s3 : Int) + 1)) rfl <| s_nil ?_
   exact ⟨bm, bn, s, s2, s3 + 1, l2 ++ ([(s3 : Int)]), bE, _, upds_of _ _ ⟨rfl, rfl, rfl, rfl, rfl, rfl, rfl, rfl, trivial⟩, M.e_inl hM ba, (H.pick [2, 3, 4, 5, 6, 7, 8, 9, 10] (by decide) rfl)⟩
  replace hM := M.e_f hM bD
  refine W.skip <| W.region rfl <| sR (s3 : Int) 1 ((s3 : Int) + 1) rfl rfl rfl (by omega) <| sM (I ((s3 : Int) + 1)) rfl <| s_nil ?_
  exact ⟨bm, bn, s, s2, s3 + 1, l2, ae, _, upds_of _ _ ⟨rfl, rfl, rfl, rfl, rfl, rfl, rfl, rfl, trivial⟩, M.e_inl hM ba, (H.pick [1, 2, 3, 4, 5, 6, 7, 8, 9] (by decide) rfl)⟩
 replace hM := M.e_f hM bb
 simp only [qz1, qz2, qz3, qz4, qz5, qz6, ne_eq, qz7] at bb
 refine W.exit ?_
 have cI := M.e_inr hM ba
 subst cI
 replace hM := cB
 try dsimp only at hM
 refine sQ rfl <| s_val (x_ld (p := Pz ab) (v := aa) rfl (ldb_sc Sc22 (H.blk (k := 5) rfl) rfl)) <| sM ae rfl <| s_val (x_ld (p := Pz aj) (v := I (((r3.length : Int) - 1) - (which % (min 4 (r3.length : Int))))) rfl (ldb_sc Sc3 (H.blk (k := 1) rfl) rfl)) ?_
 obtain ⟨ek, cJ, hM⟩ := M.e_bind hM
 refine s_call cf64 [aa, ae, I (((r3.length : Int) - 1) - (which % (min 4 (r3.length : Int))))] rfl (zbH r3 l2 (((r3.length : Int) - 1) - (which % (min 4 (r3.length : Int)))) (Reads.sup (Reads.of (k := 6) rfl ownLe) (Reads.of (k := 7) rfl roLe)) (rowSl rfl (H.get (k := 6) rfl) (roLe _ (H.get (k := 7) rfl)) aK) (Reads.of (k := 0) rfl ownLe) (ownSl (H.get (k := 0) rfl)) cJ _ (St.give (T := [cOwn (α := Int) 3 ae l2, cBlk aj [I (((r3.length : Int) - 1) - (which % (min 4 (r3.length : Int))))] 3, cRo aw, cOwn (α := Note) 30 aq r4, cBlk ah [ai, I au, I av] 158, cBlk ab [aa] 22, cOwn (α := Raw 2) 60 aa am, cRo ao, cBlk ac [ak, I s, I s2] 158]) H rfl)) ?_
 rintro vq cK ⟨r0, ag, ap, cL, hvq, az⟩
 subst cL
 subst vq
 try dsimp only at hM
 replace H : St w cK [cOwn (α := Int) 3 ap r0, cOwn (α := Int) 3 ae l2, cBlk aj [I (((r3.length : Int) - 1) - (which % (min 4 (r3.length : Int))))] 3, cRo aw, cOwn (α := Note) 30 aq r4, cBlk ah [ai, I au, I av] 158, cBlk ab [aa] 22, cOwn (α := Raw 2) 60 aa am, cRo ao, cBlk ac [ak, I s, I s2] 158] R := H.back az rfl
 clear az
 refine sM (.tuple #[ap, I ag]) rfl <| sX [ap, I ag] ap rfl rfl <| sX [ap, I ag] (I ag) rfl rfl <| sA ap rfl <| sA (I ag) rfl <| s_nil <| sQ rfl <| s_val (x_ld (p := Pz ab) (v := aa) rfl (ldb_sc Sc22 (H.blk (k := 6) rfl) rfl)) <| sM ae rfl <| s_val (x_ld (p := Pz aj) (v := I (((r3.length : Int) - 1) - (which % (min 4 (r3.length : Int))))) rfl (ldb_sc Sc3 (H.blk (k := 2) rfl) rfl)) ?_
 obtain ⟨el, cM, hM⟩ := M.e_bind hM
 refine s_call cf65 [aa, ae, I (((r3.length : Int) - 1) - (which % (min 4 (r3.length : Int))))] rfl (zbR r3 l2 (((r3.length : Int) - 1) - (which % (min 4 (r3.length : Int)))) (Reads.sup (Reads.of (k := 7) rfl ownLe) (Reads.of (k := 8) rfl roLe)) (rowSl rfl (H.get (k := 7) rfl) (roLe _ (H.get (k := 8) rfl)) aK) (Reads.of (k := 1) rfl ownLe) (ownSl (H.get (k := 1) rfl)) cM _ (St.give (T := [cOwn (α := Int) 3 ap r0, cOwn (α := Int) 3 ae l2, cBlk aj [I (((r3.length : Int) - 1) - (which % (min 4 (r3.length : Int))))] 3, cRo aw, cOwn (α := Note) 30 aq r4, cBlk ah [ai, I au, I av] 158, cBlk ab [aa] 22, cOwn (α := Raw 2) 60 aa am, cRo ao, cBlk ac [ak, I s, I s2] 158]) H rfl)) ?_
 rintro vq cN ⟨aZ, aE, ax, aB, aC, cO, hvq, az, bZ⟩
 subst cO
 subst vq
 try dsimp only at hM
 replace H : St w cN [cOwn (α := Raw 0) 34 ax aB, cRo aC, cOwn (α := Int) 3 ap r0, cOwn (α := Int) 3 ae l2, cBlk aj [I (((r3.length : Int) - 1) - (which % (min 4 (r3.length : Int))))] 3, cRo aw, cOwn (α := Note) 30 aq r4, cBlk ah [ai, I au, I av] 158, cBlk ab [aa] 22, cOwn (α := Raw 2) 60 aa am, cRo ao, cBlk ac [ak, I s, I s2] 158] R := H.back az rfl
 clear az
 refine sM (.tuple #[ax, I aE]) rfl <| sX [ax, I aE] ax rfl rfl <| sX [ax, I aE] (I aE) rfl rfl <| sA ax rfl <| sA (I aE) rfl <| s_nil <| sQ rfl <| sM ae rfl <| s_val (x_mf (fs := []) (cs := [Pz ab, Pz aj]) rfl rfl) ?_
 obtain ⟨em, cP, hM⟩ := M.e_bind hM
 refine s_call cf48 [ae, .func (.func 70) #[] #[Pz ab, Pz aj]] rfl (zar l2 (fun bF => zbc bF r3 (((r3.length : Int) - 1) - (which % (min 4 (r3.length : Int))))) (Reads.of (k := 3) rfl ownLe) (ownSl (H.get (k := 3) rfl)) ⟨70, [Pz ab, Pz aj], rfl, cf70, fun b6 en eo cQ bF ep cR eq cS cT => by obtain rfl := Arg.int cS; exact (zcn bF r3 (((r3.length : Int) - 1) - (which % (min 4 (r3.length : Int)))) (Reads.app (Reads.sup (Reads.of (k := 9) rfl ownLe) (Reads.of (k := 10) rfl roLe)) _) (rowSl rfl (H.get (k := 9) rfl) (roLe _ (H.get (k := 10) rfl)) aK) (Has.app (Has.here (k := 8) rfl) _) (Has.app (Has.here (k := 4) rfl) _) cT b6 (St.refl cR)).mono fun cQ b6 ⟨er, cU, cV, cW⟩ => by subst cU; exact ⟨cV, cW⟩⟩ cP _ (St.give (T := [cOwn (α := Raw 0) 34 ax aB, cRo aC, cOwn (α := Int) 3 ap r0, cOwn (α := Int) 3 ae l2, cBlk aj [I (((r3.length : Int) - 1) - (which % (min 4 (r3.length : Int))))] 3, cRo aw, cOwn (α := Note) 30 aq r4, cBlk ah [ai, I au, I av] 158, cBlk ab [aa] 22, cOwn (α := Raw 2) 60 aa am, cRo ao, cBlk ac [ak, I s, I s2] 158]) H rfl)) ?_
 rintro vq cX ⟨aA, cY, hvq, az⟩
 subst cY
 subst vq
 try dsimp only at hM
 replace H : St w cX [cOwn (α := Raw 0) 34 ax aB, cRo aC, cOwn (α := Int) 3 ap r0, cOwn (α := Int) 3 ae l2, cBlk aj [I (((r3.length : Int) - 1) - (which % (min 4 (r3.length : Int))))] 3, cRo aw, cOwn (α := Note) 30 aq r4, cBlk ah [ai, I au, I av] 158, cBlk ab [aa] 22, cOwn (α := Raw 2) 60 aa am, cRo ao, cBlk ac [ak, I s, I s2] 158] R := H.back az rfl
 clear az
 refine sA (B aA) rfl <| s_nil <| W.seq <| sQ rfl <| sM (I ag) rfl <| sM (I aE) rfl <| sC ag aE (ag != aE) rfl rfl rfl <| sM (B (ag != aE)) rfl <| g_val (!(ag != aE)) (gy_f rfl) (fun hg => x_mv (v := B aA) rfl) <| g_val (!(ag != aE)) (gy_f rfl) (fun hg => x_mv (v := I ag) rfl) <| g_val (!(ag != aE)) (gy_f rfl) (fun hg => x_cmp (kd := .i64) (a := ag) (b := 5) (r := ag == 5) (gd_of (c := !(ag != aE)) hg (I ag)) rfl rfl) ?_
 refine g_val (!(ag != aE)) (gy_f rfl) (fun hg => x_eqb (a := aA) (b := ag == 5) (r := (aA != (ag == 5))) (gd_of (c := !(ag != aE)) hg (B aA)) (gd_of (c := !(ag != aE)) hg (B (ag == 5))) Try.underlying4 rfl) <| s_val (x_por (b := ag != aE) (r := (aA != (ag == 5))) rfl rfl (fun hb => gd_of (c := !(ag != aE)) (by first | exact hb | (rw [hb]; rfl) | simp_all) (B (aA != (ag == 5))))) <| sM (B ((ag != aE) || (aA != (ag == 5)))) rfl <| g_val (!((ag != aE) || (aA != (ag == 5)))) (gy_f rfl) (fun hg => x_mv (v := B aA) rfl) <| g_val (!((ag != aE) || (aA != (ag == 5)))) (gy_f rfl) (fun hg => x_not (b := aA) (gd_of (c := !((ag != aE) || (aA != (ag == 5)))) hg (B aA))) <| g_val (!((ag != aE) || (aA != (ag == 5)))) (gy_f rfl) (fun hg => x_mv (v := B (!aA)) (gd_of (c := !((ag != aE) || (aA != (ag == 5)))) hg (B (!aA)))) <| g_val ((!((ag != aE) || (aA != (ag == 5)))) && (!aA)) (gy_gt rfl rfl) (fun hg => x_mv (v := I ag) rfl) <| g_val ((!((ag != aE) || (aA != (ag == 5)))) && (!aA)) (gy_gt rfl rfl) (fun hg => x_cmp (kd := .i64) (a := ag) (b := 0) (r := ag != 0) (gd_of (c := ((!((ag != aE) || (aA != (ag == 5)))) && (!aA))) hg (I ag)) rfl rfl) <| g_val (!((ag != aE) || (aA != (ag == 5)))) (gy_f rfl) (fun hg => x_pand (b := !aA) (r := ag != 0) (gd_of (c := !((ag != aE) || (aA != (ag == 5)))) hg (B (!aA))) (fun hb => gd_of (c := ((!((ag != aE) || (aA != (ag == 5)))) && (!aA))) (by first | exact hb | (rw [hb]; rfl) | simp_all) (B (ag != 0))) rfl) <| s_val (x_por (b := ((ag != aE) || (aA != (ag == 5)))) (r := ((!aA) && (ag != 0))) rfl rfl (fun hb => gd_of (c := !((ag != aE) || (aA != (ag == 5)))) (by first | exact hb | (rw [hb]; rfl) | simp_all) (B ((!aA) && (ag != 0))))) <| s_nil ?_
 refine W.cond (((ag != aE) || (aA != (ag == 5))) || ((!aA) && (ag != 0))) rfl (fun bG => ?_) (fun bG => ?_)
 ·replace hM := M.e_t hM bG
  refine sQ rfl <| sA (B false) rfl <| s_nil ?_
  refine W.ret ?_
  have aQ := M.e_pure hM
  exact ⟨_, resE_tmp rfl, ⟨false, aQ, rfl, (H.pick [] (by decide) rfl)⟩⟩
 replace hM := M.e_f hM bG
 refine W.skip <| W.seq <| sQ rfl <| sM (B aA) rfl <| s_nil ?_
 refine W.cond aA rfl (fun bH => ?_) (fun bH => ?_)
 ·replace hM := M.e_t hM bH
  refine sQ rfl ?_
  obtain ⟨eu, cZ, hM⟩ := M.e_bind hM
  refine s_call cf17 [] rfl (zbQ cZ _ (St.give (T := [cOwn (α := Raw 0) 34 ax aB, cRo aC, cOwn (α := Int) 3 ap r0, cOwn (α := Int) 3 ae l2, cBlk aj [I (((r3.length : Int) - 1) - (which % (min 4 (r3.length : Int))))] 3, cRo aw, cOwn (α := Note) 30 aq r4, cBlk ah [ai, I au, I av] 158, cBlk ab [aa] 22, cOwn (α := Raw 2) 60 aa am, cRo ao, cBlk ac [ak, I s, I s2] 158]) H rfl)) ?_
  rintro vq da ⟨b8, db, hvq, az⟩
  subst db
  subst vq
  try dsimp only at hM
  replace H : St w da [cOwn (α := Raw 0) 34 ax aB, cRo aC, cOwn (α := Int) 3 ap r0, cOwn (α := Int) 3 ae l2, cBlk aj [I (((r3.length : Int) - 1) - (which % (min 4 (r3.length : Int))))] 3, cRo aw, cOwn (α := Note) 30 aq r4, cBlk ah [ai, I au, I av] 158, cBlk ab [aa] 22, cOwn (α := Raw 2) 60 aa am, cRo ao, cBlk ac [ak, I s, I s2] 158] R := H.back az rfl
  clear az
  refine sA (B b8) rfl <| s_nil ?_
  refine W.ret ?_
  have aQ := M.e_pure hM
  exact ⟨_, resE_tmp rfl, ⟨b8, aQ, rfl, (H.pick [] (by decide) rfl)⟩⟩
 replace hM := M.e_f hM bH
 refine W.skip <| sQ rfl <| s_val (x_ld (p := Pz ab) (v := aa) rfl (ldb_sc Sc22 (H.blk (k := 8) rfl) rfl)) <| sM ae rfl <| s_val (x_ld (p := Pz aj) (v := I (((r3.length : Int) - 1) - (which % (min 4 (r3.length : Int))))) rfl (ldb_sc Sc3 (H.blk (k := 4) rfl) rfl)) <| sM ap rfl ?_
 obtain ⟨ew, dc, hM⟩ := M.e_bind hM
 refine s_call cf59 [aa, ae, I (((r3.length : Int) - 1) - (which % (min 4 (r3.length : Int)))), ap] rfl (zbJ r3 l2 (((r3.length : Int) - 1) - (which % (min 4 (r3.length : Int)))) r0 (Reads.sup (Reads.of (k := 9) rfl ownLe) (Reads.of (k := 10) rfl roLe)) (rowSl rfl (H.get (k := 9) rfl) (roLe _ (H.get (k := 10) rfl)) aK) (Reads.of (k := 3) rfl ownLe) (ownSl (H.get (k := 3) rfl)) (Reads.of (k := 2) rfl ownLe) (ownSl (H.get (k := 2) rfl)) dc _ (St.give (T := [cOwn (α := Raw 0) 34 ax aB, cRo aC, cOwn (α := Int) 3 ap r0, cOwn (α := Int) 3 ae l2, cBlk aj [I (((r3.length : Int) - 1) - (which % (min 4 (r3.length : Int))))] 3, cRo aw, cOwn (α := Note) 30 aq r4, cBlk ah [ai, I au, I av] 158, cBlk ab [aa] 22, cOwn (α := Raw 2) 60 aa am, cRo ao, cBlk ac [ak, I s, I s2] 158]) H rfl)) ?_
 rintro vq dd ⟨aF, ay, de, hvq, az⟩
 subst de
 subst vq
 try dsimp only at hM
 replace H : St w dd [cOwn (α := Raw 0) 34 ax aB, cRo aC, cOwn (α := Int) 3 ap r0, cOwn (α := Int) 3 ae l2, cBlk aj [I (((r3.length : Int) - 1) - (which % (min 4 (r3.length : Int))))] 3, cRo aw, cOwn (α := Note) 30 aq r4, cBlk ah [ai, I au, I av] 158, cBlk ab [aa] 22, cOwn (α := Raw 2) 60 aa am, cRo ao, cBlk ac [ak, I s, I s2] 158] R := H.back az rfl
 clear az
 refine sM (.tuple #[B aF, I ay]) rfl <| sX [B aF, I ay] (B aF) rfl rfl <| sX [B aF, I ay] (I ay) rfl rfl <| sA (B aF) rfl <| sA (I ay) rfl <| s_nil <| sQ rfl <| s_val (x_ld (p := Pz ab) (v := aa) rfl (ldb_sc Sc22 (H.blk (k := 8) rfl) rfl)) <| sM ae rfl <| s_val (x_ld (p := Pz aj) (v := I (((r3.length : Int) - 1) - (which % (min 4 (r3.length : Int))))) rfl (ldb_sc Sc3 (H.blk (k := 4) rfl) rfl)) <| sM ax rfl ?_
 obtain ⟨ey, dg, hM⟩ := M.e_bind hM
 refine s_call cf61 [aa, ae, I (((r3.length : Int) - 1) - (which % (min 4 (r3.length : Int)))), ax] rfl (zcj r3 l2 (((r3.length : Int) - 1) - (which % (min 4 (r3.length : Int)))) aZ (Reads.sup (Reads.of (k := 9) rfl ownLe) (Reads.of (k := 10) rfl roLe)) (rowSl rfl (H.get (k := 9) rfl) (roLe _ (H.get (k := 10) rfl)) aK) (Reads.of (k := 3) rfl ownLe) (ownSl (H.get (k := 3) rfl)) (Reads.sup (Reads.of (k := 0) rfl ownLe) (Reads.of (k := 1) rfl roLe)) (rowSl rfl (H.get (k := 0) rfl) (roLe _ (H.get (k := 1) rfl)) bZ) dg _ (St.give (T := [cOwn (α := Raw 0) 34 ax aB, cRo aC, cOwn (α := Int) 3 ap r0, cOwn (α := Int) 3 ae l2, cBlk aj [I (((r3.length : Int) - 1) - (which % (min 4 (r3.length : Int))))] 3, cRo aw, cOwn (α := Note) 30 aq r4, cBlk ah [ai, I au, I av] 158, cBlk ab [aa] 22, cOwn (α := Raw 2) 60 aa am, cRo ao, cBlk ac [ak, I s, I s2] 158]) H rfl)) ?_
 rintro vq dh ⟨aM, aD, di, hvq, az⟩
 subst di
 subst vq
 try dsimp only at hM
 replace H : St w dh [cOwn (α := Raw 0) 34 ax aB, cRo aC, cOwn (α := Int) 3 ap r0, cOwn (α := Int) 3 ae l2, cBlk aj [I (((r3.length : Int) - 1) - (which % (min 4 (r3.length : Int))))] 3, cRo aw, cOwn (α := Note) 30 aq r4, cBlk ah [ai, I au, I av] 158, cBlk ab [aa] 22, cOwn (α := Raw 2) 60 aa am, cRo ao, cBlk ac [ak, I s, I s2] 158] R := H.back az rfl
 clear az
 refine sM (.tuple #[B aM, I aD]) rfl <| sX [B aM, I aD] (B aM) rfl rfl <| sX [B aM, I aD] (I aD) rfl rfl <| sA (B aM) rfl <| sA (I aD) rfl <| s_nil <| W.seq <| sQ rfl <| sM (I ay) rfl <| sC ay 0 (ay != 0) rfl rfl rfl <| sM (B (ay != 0)) rfl ?_
 refine g_val (!(ay != 0)) (gy_f rfl) (fun hg => x_mv (v := I aD) rfl) <| g_val (!(ay != 0)) (gy_f rfl) (fun hg => x_cmp (kd := .i64) (a := aD) (b := 0) (r := aD != 0) (gd_of (c := !(ay != 0)) hg (I aD)) rfl rfl) <| s_val (x_por (b := ay != 0) (r := aD != 0) rfl rfl (fun hb => gd_of (c := !(ay != 0)) (by first | exact hb | (rw [hb]; rfl) | simp_all) (B (aD != 0)))) <| sM (B ((ay != 0) || (aD != 0))) rfl <| g_val (!((ay != 0) || (aD != 0))) (gy_f rfl) (fun hg => x_mv (v := B aF) rfl) <| g_val (!((ay != 0) || (aD != 0))) (gy_f rfl) (fun hg => x_not (b := aF) (gd_of (c := !((ay != 0) || (aD != 0))) hg (B aF))) <| s_val (x_por (b := ((ay != 0) || (aD != 0))) (r := !aF) rfl rfl (fun hb => gd_of (c := !((ay != 0) || (aD != 0))) (by first | exact hb | (rw [hb]; rfl) | simp_all) (B (!aF)))) <| sM (B (((ay != 0) || (aD != 0)) || (!aF))) rfl <| g_val (!(((ay != 0) || (aD != 0)) || (!aF))) (gy_f rfl) (fun hg => x_mv (v := B aM) rfl) <| g_val (!(((ay != 0) || (aD != 0)) || (!aF))) (gy_f rfl) (fun hg => x_not (b := aM) (gd_of (c := !(((ay != 0) || (aD != 0)) || (!aF))) hg (B aM))) <| s_val (x_por (b := (((ay != 0) || (aD != 0)) || (!aF))) (r := !aM) rfl rfl (fun hb => gd_of (c := !(((ay != 0) || (aD != 0)) || (!aF))) (by first | exact hb | (rw [hb]; rfl) | simp_all) (B (!aM)))) <| sM (B ((((ay != 0) || (aD != 0)) || (!aF)) || (!aM))) rfl ?_
 refine g_val (!((((ay != 0) || (aD != 0)) || (!aF)) || (!aM))) (gy_f rfl) (fun hg => x_mv (v := ax) rfl) <| g_val (!((((ay != 0) || (aD != 0)) || (!aF)) || (!aM))) (gy_f rfl) (fun hg => x_lenS T73.und (gd_of (c := !((((ay != 0) || (aD != 0)) || (!aF)) || (!aM))) hg (ax)) (rowSl rfl (H.get (k := 0) rfl) (roLe _ (H.get (k := 1) rfl)) bZ)) <| g_val (!((((ay != 0) || (aD != 0)) || (!aF)) || (!aM))) (gy_f rfl) (fun hg => x_mv (v := ap) rfl) <| g_val (!((((ay != 0) || (aD != 0)) || (!aF)) || (!aM))) (gy_f rfl) (fun hg => x_lenS T34.und (gd_of (c := !((((ay != 0) || (aD != 0)) || (!aF)) || (!aM))) hg (ap)) (ownSl (H.get (k := 2) rfl))) <| g_val (!((((ay != 0) || (aD != 0)) || (!aF)) || (!aM))) (gy_f rfl) (fun hg => x_cmp (kd := .i64) (a := (aZ.length : Int)) (b := (r0.length : Int)) (r := (aZ.length : Int) != (r0.length : Int)) (gd_of (c := !((((ay != 0) || (aD != 0)) || (!aF)) || (!aM))) hg (I (aZ.length : Int))) (gd_of (c := !((((ay != 0) || (aD != 0)) || (!aF)) || (!aM))) hg (I (r0.length : Int))) rfl) <| s_val (x_por (b := ((((ay != 0) || (aD != 0)) || (!aF)) || (!aM))) (r := (aZ.length : Int) != (r0.length : Int)) rfl rfl (fun hb => gd_of (c := !((((ay != 0) || (aD != 0)) || (!aF)) || (!aM))) (by first | exact hb | (rw [hb]; rfl) | simp_all) (B ((aZ.length : Int) != (r0.length : Int))))) <| s_nil ?_
 refine W.cond (((((ay != 0) || (aD != 0)) || (!aF)) || (!aM)) || ((aZ.length : Int) != (r0.length : Int))) rfl (fun bI => ?_) (fun bI => ?_)
 ·replace hM := M.e_t hM bI
  refine sQ rfl <| sA (B false) rfl <| s_nil ?_
  refine W.ret ?_
  have aQ := M.e_pure hM
  exact ⟨_, resE_tmp rfl, ⟨false, aQ, rfl, (H.pick [] (by decide) rfl)⟩⟩
 replace hM := M.e_f hM bI
 refine W.skip <| W.seq <| sQ rfl <| sM ap rfl ?_
 have ez := ((ownSl (H.get (k := 2) rfl))).len_le
 refine s_val (x_lenS T34.und rfl (ownSl (H.get (k := 2) rfl))) <| sM (I 0) rfl <| s_nil <| W.block ?_
 obtain ⟨dj, bJ, ca⟩ := M.e_bind hM
 obtain ⟨bA, bJ⟩ := M.e_iter bJ
 refine W.loop (fun m σ W => ∃ (s6 : Nat) (ρ : Env), σ = upds ρ [(8, Pz ac), (9, Pz ab), (11, aN), (13, Pz aj), (14, ae), (17, ap), (166, I (r0.length : Int)), (167, I (s6 : Int))] /\ M.iterN (zav which r3 l2 r0) m s6 = some dj /\ St w W [cOwn (α := Raw 0) 34 ax aB, cRo aC, cOwn (α := Int) 3 ap r0, cOwn (α := Int) 3 ae l2, cBlk aj [I (((r3.length : Int) - 1) - (which % (min 4 (r3.length : Int))))] 3, cRo aw, cOwn (α := Note) 30 aq r4, cBlk ah [ai, I au, I av] 158, cBlk ab [aa] 22, cOwn (α := Raw 2) 60 aa am, cRo ao, cBlk ac [ak, I s, I s2] 158] R) ?_ ?_
 ·exact ⟨_, 0, _, upds_of _ _ ⟨rfl, rfl, rfl, rfl, rfl, rfl, rfl, rfl, trivial⟩, bJ, H⟩
 rintro eA σ eB ⟨s6, ρ, rfl, cb, H⟩
 obtain ⟨dk, dl, eC, hM, bK⟩ := M.e_iterN cb
 simp only [zav] at hM
 clear cb
 refine sQ rfl <| sC (s6 : Int) (r0.length : Int) (decide ((s6 : Int) < (r0.length : Int))) rfl rfl rfl <| s_nil <| W.seq ?_
 refine W.cond (decide ((s6 : Int) < (r0.length : Int))) rfl (fun bf => ?_) (fun bf => ?_)
 ·replace hM := M.e_t hM bf
  simp only [qz1, qz2, qz3, qz4, qz5, qz6, ne_eq, qz7] at bf
  refine W.skip <| W.seq <| W.block <| sQ rfl <| sM (I (s6 : Int)) rfl <| sA (I (s6 : Int)) rfl <| s_nil <| sQ rfl <| sM ap rfl ?_
  obtain ⟨eD, hM⟩ := M.e_gd hM
  refine s_call cf31 [ap] rfl (copy_int _ ((ownSl (H.get (k := 2) rfl)).mono (ownLe _ (H.get (k := 2) rfl))) (by omega)) ?_
  rintro cc dm ⟨aW, aL⟩
  replace H : St w dm [cOwn (α := Int) 3 cc r0, cOwn (α := Raw 0) 34 ax aB, cRo aC, cOwn (α := Int) 3 ap r0, cOwn (α := Int) 3 ae l2, cBlk aj [I (((r3.length : Int) - 1) - (which % (min 4 (r3.length : Int))))] 3, cRo aw, cOwn (α := Note) 30 aq r4, cBlk ah [ai, I au, I av] 158, cBlk ab [aa] 22, cOwn (α := Raw 2) 60 aa am, cRo ao, cBlk ac [ak, I s, I s2] 158] R := H.ownOf aL aW
  clear aL aW
  refine sM (I (s6 : Int)) rfl <| sM (I (s6 : Int)) rfl <| sR (s6 : Int) 1 ((s6 : Int) + 1) rfl rfl rfl (by omega) ?_
  obtain ⟨eE, hM⟩ := M.e_gd hM
  refine s_call cf50 [cc, I (s6 : Int), I ((s6 : Int) + 1)] rfl (delete_any (H.get (k := 0) rfl) (by omega) (by omega) (by omega)) ?_
  rintro a7 dp ⟨aW, aY, cd⟩
  replace H : St w dp [cOwn (α := Int) 3 a7 (r0.take s6 ++ r0.drop (Int.toNat ((s6 : Int) + 1))), cOwn (α := Raw 0) 34 ax aB, cRo aC, cOwn (α := Int) 3 ap r0, cOwn (α := Int) 3 ae l2, cBlk aj [I (((r3.length : Int) - 1) - (which % (min 4 (r3.length : Int))))] 3, cRo aw, cOwn (α := Note) 30 aq r4, cBlk ah [ai, I au, I av] 158, cBlk ab [aa] 22, cOwn (α := Raw 2) 60 aa am, cRo ao, cBlk ac [ak, I s, I s2] 158] R := H.own (k := 0) rfl aW aY (fun b_ _ h_ => by rw [cd]; exact h_) rfl
  clear aW aY cd
  refine sA a7 rfl <| s_nil <| sQ rfl <| s_val (x_ld (p := Pz ab) (v := aa) rfl (ldb_sc Sc22 (H.blk (k := 9) rfl) rfl)) <| sM ae rfl <| s_val (x_ld (p := Pz aj) (v := I (((r3.length : Int) - 1) - (which % (min 4 (r3.length : Int))))) rfl (ldb_sc Sc3 (H.blk (k := 5) rfl) rfl)) <| sM a7 rfl ?_
  obtain ⟨eF, dq, hM⟩ := M.e_bind hM
  refine s_call cf59 [aa, ae, I (((r3.length : Int) - 1) - (which % (min 4 (r3.length : Int)))), a7] rfl (zbJ r3 l2 (((r3.length : Int) - 1) - (which % (min 4 (r3.length : Int)))) (r0.take s6 ++ r0.drop (Int.toNat ((s6 : Int) + 1))) (Reads.sup (Reads.of (k := 10) rfl ownLe) (Reads.of (k := 11) rfl roLe)) (rowSl rfl (H.get (k := 10) rfl) (roLe _ (H.get (k := 11) rfl)) aK) (Reads.of (k := 4) rfl ownLe) (ownSl (H.get (k := 4) rfl)) (Reads.of (k := 0) rfl ownLe) (ownSl (H.get (k := 0) rfl)) dq _ (St.give (T := [cOwn (α := Int) 3 a7 (r0.take s6 ++ r0.drop (Int.toNat ((s6 : Int) + 1))), cOwn (α := Raw 0) 34 ax aB, cRo aC, cOwn (α := Int) 3 ap r0, cOwn (α := Int) 3 ae l2, cBlk aj [I (((r3.length : Int) - 1) - (which % (min 4 (r3.length : Int))))] 3, cRo aw, cOwn (α := Note) 30 aq r4, cBlk ah [ai, I au, I av] 158, cBlk ab [aa] 22, cOwn (α := Raw 2) 60 aa am, cRo ao, cBlk ac [ak, I s, I s2] 158]) H rfl)) ?_
  rintro vq dr ⟨aV, aR, dt, hvq, az⟩
  subst dt
  subst vq
  try dsimp only at hM
  replace H : St w dr [cOwn (α := Int) 3 a7 (r0.take s6 ++ r0.drop (Int.toNat ((s6 : Int) + 1))), cOwn (α := Raw 0) 34 ax aB, cRo aC, cOwn (α := Int) 3 ap r0, cOwn (α := Int) 3 ae l2, cBlk aj [I (((r3.length : Int) - 1) - (which % (min 4 (r3.length : Int))))] 3, cRo aw, cOwn (α := Note) 30 aq r4, cBlk ah [ai, I au, I av] 158, cBlk ab [aa] 22, cOwn (α := Raw 2) 60 aa am, cRo ao, cBlk ac [ak, I s, I s2] 158] R := H.back az rfl
  clear az
  refine sM (.tuple #[B aV, I aR]) rfl <| sX [B aV, I aR] (B aV) rfl rfl <| sX [B aV, I aR] (I aR) rfl rfl <| sA (B aV) rfl <| sA (I aR) rfl <| s_nil <| sQ rfl <| sM (I aR) rfl <| sC aR 0 (aR != 0) rfl rfl rfl <| sM (B (aR != 0)) rfl <| g_val (!(aR != 0)) (gy_f rfl) (fun hg => x_mv (v := B aV) rfl) ?_
  refine s_val (x_por (b := aR != 0) (r := aV) rfl rfl (fun hb => gd_of (c := !(aR != 0)) (by first | exact hb | (rw [hb]; rfl) | simp_all) (B aV))) <| s_nil ?_
  refine W.cond ((aR != 0) || aV) rfl (fun bL => ?_) (fun bL => ?_)
  ·replace hM := M.e_t hM bL
   refine sQ rfl <| sA (B false) rfl <| s_nil ?_
   refine W.ret ?_
   have du := M.e_inr hM bK
   subst du
   replace hM := ca
   try dsimp only at hM
   have aQ := M.e_pure hM
   exact ⟨_, resE_tmp rfl, ⟨false, aQ, rfl, (H.pick [] (by decide) rfl)⟩⟩
  replace hM := M.e_f hM bL
  refine W.skip <| W.region rfl <| sR (s6 : Int) 1 ((s6 : Int) + 1) rfl rfl rfl (by omega) <| sM (I ((s6 : Int) + 1)) rfl <| s_nil ?_
  exact ⟨dk, dl, s6 + 1, _, upds_of _ _ ⟨rfl, rfl, rfl, rfl, rfl, rfl, rfl, rfl, trivial⟩, M.e_inl hM bK, (H.pick [1, 2, 3, 4, 5, 6, 7, 8, 9, 10, 11, 12] (by decide) rfl)⟩
 replace hM := M.e_f hM bf
 simp only [qz1, qz2, qz3, qz4, qz5, qz6, ne_eq, qz7] at bf
 refine W.exit ?_
 have dv := M.e_inr hM bK
 subst dv
 replace hM := ca
 try dsimp only at hM
 refine sQ rfl <| sM aN rfl ?_
 obtain ⟨eG, hM⟩ := M.e_gd hM
 refine s_call cf31 [aN] rfl (copy_int _ (aX.mono (roLe _ (H.get (k := 5) rfl))) (by omega)) ?_
 rintro bM dw ⟨aW, aL⟩
 replace H : St w dw [cOwn (α := Int) 3 bM l, cOwn (α := Raw 0) 34 ax aB, cRo aC, cOwn (α := Int) 3 ap r0, cOwn (α := Int) 3 ae l2, cBlk aj [I (((r3.length : Int) - 1) - (which % (min 4 (r3.length : Int))))] 3, cRo aw, cOwn (α := Note) 30 aq r4, cBlk ah [ai, I au, I av] 158, cBlk ab [aa] 22, cOwn (α := Raw 2) 60 aa am, cRo ao, cBlk ac [ak, I s, I s2] 158] R := H.ownOf aL aW
 clear aL aW
 refine sA bM rfl <| s_nil <| W.seq <| sQ rfl <| s_val (x_ld (p := Pz ab) (v := aa) rfl (ldb_sc Sc22 (H.blk (k := 9) rfl) rfl)) ?_
 have eH := ((rowSl rfl (H.get (k := 10) rfl) (roLe _ (H.get (k := 11) rfl)) aK)).len_le
 refine s_val (x_lenS T22.und rfl (rowSl rfl (H.get (k := 10) rfl) (roLe _ (H.get (k := 11) rfl)) aK)) <| sM (I 0) rfl <| s_nil <| W.block ?_
 obtain ⟨dx, bN, dy⟩ := M.e_bind hM
 obtain ⟨bA, bN⟩ := M.e_iter bN
 refine W.loop (fun m σ W => ∃ (s8 : Nat) (s9 : Int) (aJ : Int) (l8 : List Int) (aI : Value) (ρ : Env), σ = upds ρ [(8, Pz ac), (11, aN), (13, Pz aj), (14, ae), (17, ap), (27, aI), (192, aa), (193, I (r3.length : Int)), (194, I (s8 : Int))] /\ M.iterN (zaJ newer r3 l2 r0) m (s8, s9, aJ, l8) = some dx /\ St w W [cOwn (α := Int) 3 aI l8, cOwn (α := Raw 0) 34 ax aB, cRo aC, cOwn (α := Int) 3 ap r0, cOwn (α := Int) 3 ae l2, cBlk aj [I (((r3.length : Int) - 1) - (which % (min 4 (r3.length : Int))))] 3, cRo aw, cOwn (α := Note) 30 aq r4, cBlk ah [ai, I au, I av] 158, cBlk ab [aa] 22, cOwn (α := Raw 2) 60 aa am, cRo ao, cBlk ac [ak, I s9, I aJ] 158] R) ?_ ?_
 ·exact ⟨_, 0, s, s2, l, bM, _, upds_of _ _ ⟨rfl, rfl, rfl, rfl, rfl, rfl, rfl, rfl, rfl, trivial⟩, bN, H⟩
 rintro eI σ eJ ⟨s8, s9, aJ, l8, aI, ρ, rfl, ce, H⟩
 obtain ⟨bq, br, eK, hM, bg⟩ := M.e_iterN ce
 simp only [zaJ] at hM
 clear ce
 refine sQ rfl <| sC (s8 : Int) (r3.length : Int) (decide ((s8 : Int) < (r3.length : Int))) rfl rfl rfl <| s_nil <| W.seq ?_
 refine W.cond (decide ((s8 : Int) < (r3.length : Int))) rfl (fun bh => ?_) (fun bh => ?_)
 ·replace hM := M.e_t hM bh
  simp only [qz1, qz2, qz3, qz4, qz5, qz6, ne_eq, qz7] at bh
  refine W.skip <| W.seq <| W.block <| sQ rfl <| sM (I (s8 : Int)) rfl ?_
  obtain ⟨eL, hM⟩ := M.e_gd hM
  refine s_val (x_ix (a := aa) (b := I (s8 : Int)) (v := vat aa 3 (Int.toNat (s8 : Int))) rfl rfl (Sl.ix (α := Work) T22.und T22.size (rowSl rfl (H.get (k := 10) rfl) (roLe _ (H.get (k := 11) rfl)) aK) (by omega) (by omega))) ?_
  obtain ⟨aG, dz, aU⟩ := Work_atA (rowSl rfl (H.get (k := 10) rfl) (roLe _ (H.get (k := 11) rfl)) aK) (i := (s8 : Int)) (by omega) (by omega)
  replace aU : Sl _ aG (r3.getD s8 default).of := aU
  have eM := aU.len_le
  refine s_val (x_ld (p := vat aa 3 (Int.toNat (s8 : Int))) (v := .agg #[aG, I ((r3.getD s8 default).base), I ((r3.getD s8 default).minutes)]) rfl (ld_ag Ag60 Sz60 (At.mono dz (Cells.sup_le (ownLe _ (H.get (k := 10) rfl)) (roLe _ (H.get (k := 11) rfl)))))) ?_
  refine t_alloc (cs := [.slice none 0 0, I 0, I 0]) H Al60 rfl ?_
  intro aH eN H
  refine sA (I (s8 : Int)) rfl ?_
  refine t_st (k := 0) (b := aH) (off := 0) (cs := [.slice none 0 0, I 0, I 0]) (vs := [aG, I ((r3.getD s8 default).base), I ((r3.getD s8 default).minutes)]) (cs' := [aG, I ((r3.getD s8 default).base), I ((r3.getD s8 default).minutes)]) (v := .agg #[aG, I ((r3.getD s8 default).base), I ((r3.getD s8 default).minutes)]) (L' := [cBlk aH [aG, I ((r3.getD s8 default).base), I ((r3.getD s8 default).minutes)] 60, cOwn (α := Int) 3 aI l8, cOwn (α := Raw 0) 34 ax aB, cRo aC, cOwn (α := Int) 3 ap r0, cOwn (α := Int) 3 ae l2, cBlk aj [I (((r3.length : Int) - 1) - (which % (min 4 (r3.length : Int))))] 3, cRo aw, cOwn (α := Note) 30 aq r4, cBlk ah [ai, I au, I av] 158, cBlk ab [aa] 22, cOwn (α := Raw 2) 60 aa am, cRo ao, cBlk ac [ak, I s9, I aJ] 158]) H rfl rfl rfl Sz60 rfl rfl rfl (by simp only [List.all_cons, List.all_nil, Bool.true_and, Bool.and_true, Sl.oc aU]; try rfl) rfl rfl ?_
  intro eO H
  refine s_nil <| W.block <| sQ rfl <| sM ap rfl <| sM (I (s8 : Int)) rfl ?_
  refine s_call cf45 [ap, I (s8 : Int)] rfl (contains_int (s8 : Int) _ ((ownSl (H.get (k := 4) rfl)).mono (ownLe _ (H.get (k := 4) rfl)))) ?_
  rintro _ dA ⟨rfl, aL⟩
  replace H : St w dA [cBlk aH [aG, I ((r3.getD s8 default).base), I ((r3.getD s8 default).minutes)] 60, cOwn (α := Int) 3 aI l8, cOwn (α := Raw 0) 34 ax aB, cRo aC, cOwn (α := Int) 3 ap r0, cOwn (α := Int) 3 ae l2, cBlk aj [I (((r3.length : Int) - 1) - (which % (min 4 (r3.length : Int))))] 3, cRo aw, cOwn (α := Note) 30 aq r4, cBlk ah [ai, I au, I av] 158, cBlk ab [aa] 22, cOwn (α := Raw 2) 60 aa am, cRo ao, cBlk ac [ak, I s9, I aJ] 158] R := H.ext aL
  clear aL
  refine sA (B (r0.contains (s8 : Int))) rfl <| s_nil ?_
  refine W.cond (r0.contains (s8 : Int)) rfl (fun bO => ?_) (fun bO => ?_)
  ·replace hM := M.e_t hM bO
   refine W.exit ?_
   refine W.region rfl <| sR (s8 : Int) 1 ((s8 : Int) + 1) rfl rfl rfl (by omega) <| sM (I ((s8 : Int) + 1)) rfl <| s_nil ?_
   exact ⟨bq, br, s8 + 1, s9, aJ, l8, aI, _, upds_of _ _ ⟨rfl, rfl, rfl, rfl, rfl, rfl, rfl, rfl, rfl, trivial⟩, M.e_inl hM bg, (H.pick [1, 2, 3, 4, 5, 6, 7, 8, 9, 10, 11, 12, 13] (by decide) rfl)⟩
  replace hM := M.e_f hM bO
  refine sQ rfl <| sM ae rfl <| sM (I (s8 : Int)) rfl ?_
  refine s_call cf45 [ae, I (s8 : Int)] rfl (contains_int (s8 : Int) _ ((ownSl (H.get (k := 5) rfl)).mono (ownLe _ (H.get (k := 5) rfl)))) ?_
  rintro _ dB ⟨rfl, aL⟩
  replace H : St w dB [cBlk aH [aG, I ((r3.getD s8 default).base), I ((r3.getD s8 default).minutes)] 60, cOwn (α := Int) 3 aI l8, cOwn (α := Raw 0) 34 ax aB, cRo aC, cOwn (α := Int) 3 ap r0, cOwn (α := Int) 3 ae l2, cBlk aj [I (((r3.length : Int) - 1) - (which % (min 4 (r3.length : Int))))] 3, cRo aw, cOwn (α := Note) 30 aq r4, cBlk ah [ai, I au, I av] 158, cBlk ab [aa] 22, cOwn (α := Raw 2) 60 aa am, cRo ao, cBlk ac [ak, I s9, I aJ] 158] R := H.ext aL
  clear aL
  refine sA (B (l2.contains (s8 : Int))) rfl <| s_nil ?_
  refine W.cond (l2.contains (s8 : Int)) rfl (fun bP => ?_) (fun bP => ?_)
  ·replace hM := M.e_t hM bP
   refine W.region rfl <| sM aI rfl <| sM (I (s8 : Int)) rfl <| sM (Pz ac) rfl ?_
   obtain ⟨eQ, dC, hM⟩ := M.e_bind hM
   refine s_call cf44 [Pz ac, I 2000] rfl (zag newer s9 aJ 2000 (bv.app _) bw dC _ (St.give (L := [cBlk ac [ak, I s9, I aJ] 158, cBlk aH [aG, I ((r3.getD s8 default).base), I ((r3.getD s8 default).minutes)] 60, cOwn (α := Int) 3 aI l8, cOwn (α := Raw 0) 34 ax aB, cRo aC, cOwn (α := Int) 3 ap r0, cOwn (α := Int) 3 ae l2, cBlk aj [I (((r3.length : Int) - 1) - (which % (min 4 (r3.length : Int))))] 3, cRo aw, cOwn (α := Note) 30 aq r4, cBlk ah [ai, I au, I av] 158, cBlk ab [aa] 22, cOwn (α := Raw 2) 60 aa am, cRo ao]) (A := [cBlk ac [ak, I s9, I aJ] 158]) (T := [cBlk aH [aG, I ((r3.getD s8 default).base), I ((r3.getD s8 default).minutes)] 60, cOwn (α := Int) 3 aI l8, cOwn (α := Raw 0) 34 ax aB, cRo aC, cOwn (α := Int) 3 ap r0, cOwn (α := Int) 3 ae l2, cBlk aj [I (((r3.length : Int) - 1) - (which % (min 4 (r3.length : Int))))] 3, cRo aw, cOwn (α := Note) 30 aq r4, cBlk ah [ai, I au, I av] 158, cBlk ab [aa] 22, cOwn (α := Raw 2) 60 aa am, cRo ao]) (H.pick [13, 0, 1, 2, 3, 4, 5, 6, 7, 8, 9, 10, 11, 12] (by decide) rfl) rfl)) ?_
   rintro vq dD ⟨bi, bQ, bR, dE, hvq, az⟩
   subst dE
   subst vq
   try dsimp only at hM
   replace H : St w dD [cBlk ac [ak, I bQ, I bR] 158, cBlk aH [aG, I ((r3.getD s8 default).base), I ((r3.getD s8 default).minutes)] 60, cOwn (α := Int) 3 aI l8, cOwn (α := Raw 0) 34 ax aB, cRo aC, cOwn (α := Int) 3 ap r0, cOwn (α := Int) 3 ae l2, cBlk aj [I (((r3.length : Int) - 1) - (which % (min 4 (r3.length : Int))))] 3, cRo aw, cOwn (α := Note) 30 aq r4, cBlk ah [ai, I au, I av] 158, cBlk ab [aa] 22, cOwn (α := Raw 2) 60 aa am, cRo ao] R := H.pick [13, 0, 1, 2, 3, 4, 5, 6, 7, 8, 9, 10, 11, 12] (by decide) rfl |>.back az rfl
   clear az
   obtain ⟨eR, hM⟩ := M.e_gd hM
   refine s_val (x_ix (a := aI) (b := I (s8 : Int)) (v := vat aI 1 (Int.toNat (s8 : Int))) rfl rfl (Sl.ix (α := Int) T34.und T34.size (ownSl (H.get (k := 2) rfl)) (by omega) (by omega))) ?_
   refine t_ost (k := 2) (i := (s8 : Int)) (l := l8) (l' := l8.set s8 (bi : Int)) (val := I bi) (L' := [cBlk ac [ak, I bQ, I bR] 158, cBlk aH [aG, I ((r3.getD s8 default).base), I ((r3.getD s8 default).minutes)] 60, cOwn (α := Int) 3 aI (l8.set s8 (bi : Int)), cOwn (α := Raw 0) 34 ax aB, cRo aC, cOwn (α := Int) 3 ap r0, cOwn (α := Int) 3 ae l2, cBlk aj [I (((r3.length : Int) - 1) - (which % (min 4 (r3.length : Int))))] 3, cRo aw, cOwn (α := Note) 30 aq r4, cBlk ah [ai, I au, I av] 158, cBlk ab [aa] 22, cOwn (α := Raw 2) 60 aa am, cRo ao]) H rfl Sz3 (by omega) (by omega) (bi : Int) rfl rfl rfl rfl rfl ?_
   intro eS H
   refine s_nil <| W.region rfl <| sR (s8 : Int) 1 ((s8 : Int) + 1) rfl rfl rfl (by omega) <| sM (I ((s8 : Int) + 1)) rfl <| s_nil ?_
   exact ⟨bq, br, s8 + 1, bQ, bR, l8.set s8 (bi : Int), aI, _, upds_of _ _ ⟨rfl, rfl, rfl, rfl, rfl, rfl, rfl, rfl, rfl, trivial⟩, M.e_inl hM bg, (H.pick [2, 3, 4, 5, 6, 7, 8, 9, 10, 11, 12, 13, 0] (by decide) rfl)⟩
  replace hM := M.e_f hM bP
  refine sQ rfl <| s_val (x_fa (a := Pz aH) (v := Pz aH) rfl (fa_blk (o := 0) Fd60_0 Sz34)) <| s_val (x_ld (p := Pz aH) (v := aG) rfl (ldb_sc Sc34 (H.blk (k := 0) rfl) rfl)) ?_
  have eT := (aU).len_le
  refine s_val (x_lenS T34.und rfl aU) <| sC (((r3.getD s8 default).of).length : Int) 0 (decide (0 < (((r3.getD s8 default).of).length : Int))) rfl rfl rfl <| sA (B (decide (0 < (((r3.getD s8 default).of).length : Int)))) rfl <| s_nil ?_
  refine W.cond (decide (0 < (((r3.getD s8 default).of).length : Int))) rfl (fun bj => ?_) (fun bj => ?_)
  ·replace hM := M.e_t hM bj
   simp only [qz1, qz2, qz3, qz4, qz5, qz6, ne_eq, qz7] at bj
   refine sQ rfl <| sM aI rfl <| sM (I (s8 : Int)) rfl <| s_val (x_fa (a := Pz aH) (v := Oz aH 1) rfl (fa_blk (o := 0) Fd60_1 Sz3)) <| s_val (x_ld (p := Oz aH 1) (v := I ((r3.getD s8 default).base)) rfl (ldb_sc Sc3 (H.blk (k := 0) rfl) rfl)) ?_
   obtain ⟨eU, hM⟩ := M.e_gd hM
   refine s_val (x_ix (a := aI) (b := I (s8 : Int)) (v := vat aI 1 (Int.toNat (s8 : Int))) rfl rfl (Sl.ix (α := Int) T34.und T34.size (ownSl (H.get (k := 1) rfl)) (by omega) (by omega))) ?_
   refine t_ost (k := 1) (i := (s8 : Int)) (l := l8) (l' := l8.set s8 ((r3.getD s8 default).base : Int)) (val := I ((r3.getD s8 default).base)) (L' := [cBlk aH [aG, I ((r3.getD s8 default).base), I ((r3.getD s8 default).minutes)] 60, cOwn (α := Int) 3 aI (l8.set s8 ((r3.getD s8 default).base : Int)), cOwn (α := Raw 0) 34 ax aB, cRo aC, cOwn (α := Int) 3 ap r0, cOwn (α := Int) 3 ae l2, cBlk aj [I (((r3.length : Int) - 1) - (which % (min 4 (r3.length : Int))))] 3, cRo aw, cOwn (α := Note) 30 aq r4, cBlk ah [ai, I au, I av] 158, cBlk ab [aa] 22, cOwn (α := Raw 2) 60 aa am, cRo ao, cBlk ac [ak, I s9, I aJ] 158]) H rfl Sz3 (by omega) (by omega) ((r3.getD s8 default).base : Int) rfl rfl rfl rfl rfl ?_
   intro eV H
   refine s_nil <| W.seq <| sQ rfl <| s_val (x_fa (a := Pz aH) (v := Pz aH) rfl (fa_blk (o := 0) Fd60_0 Sz34)) <| s_val (x_ld (p := Pz aH) (v := aG) rfl (ldb_sc Sc34 (H.blk (k := 0) rfl) rfl)) ?_
   have eW := (aU).len_le
   refine s_val (x_lenS T34.und rfl aU) <| sM (I 0) rfl <| s_nil <| W.block ?_
   obtain ⟨dF, bS, dG⟩ := M.e_bind hM
   obtain ⟨bA, bS⟩ := M.e_iter bS
   refine W.loop (fun m σ W => ∃ (l5 : List Int) (s7 : Nat) (al : Value) (ρ : Env), σ = upds ρ [(8, Pz ac), (11, aN), (13, Pz aj), (14, ae), (17, ap), (27, al), (28, I (s8 : Int)), (192, aa), (193, I (r3.length : Int)), (194, I (s8 : Int)), (223, aG), (224, I (((r3.getD s8 default).of).length : Int)), (225, I (s7 : Int))] /\ M.iterN (zaM r3 s8) m (l5, s7) = some dF /\ St w W [cBlk aH [aG, I ((r3.getD s8 default).base), I ((r3.getD s8 default).minutes)] 60, cOwn (α := Int) 3 al l5, cOwn (α := Raw 0) 34 ax aB, cRo aC, cOwn (α := Int) 3 ap r0, cOwn (α := Int) 3 ae l2, cBlk aj [I (((r3.length : Int) - 1) - (which % (min 4 (r3.length : Int))))] 3, cRo aw, cOwn (α := Note) 30 aq r4, cBlk ah [ai, I au, I av] 158, cBlk ab [aa] 22, cOwn (α := Raw 2) 60 aa am, cRo ao, cBlk ac [ak, I s9, I aJ] 158] R) ?_ ?_
   ·exact ⟨_, l8.set s8 ((r3.getD s8 default).base : Int), 0, aI, _, upds_of _ _ ⟨rfl, rfl, rfl, rfl, rfl, rfl, rfl, rfl, rfl, rfl, rfl, rfl, rfl, trivial⟩, bS, H⟩
   rintro eX σ eY ⟨l5, s7, al, ρ, rfl, cf, H⟩
   obtain ⟨a8, a9, eZ, hM, a5⟩ := M.e_iterN cf
   simp only [zaM] at hM
   clear cf
   refine sQ rfl <| sC (s7 : Int) (((r3.getD s8 default).of).length : Int) (decide ((s7 : Int) < (((r3.getD s8 default).of).length : Int))) rfl rfl rfl <| s_nil <| W.seq ?_
   refine W.cond (decide ((s7 : Int) < (((r3.getD s8 default).of).length : Int))) rfl (fun bk => ?_) (fun bk => ?_)
   ·replace hM := M.e_t hM bk
    simp only [qz1, qz2, qz3, qz4, qz5, qz6, ne_eq, qz7] at bk
    refine W.skip <| W.seq <| W.block <| sQ rfl <| sM (I (s7 : Int)) rfl ?_
    obtain ⟨e6, hM⟩ := M.e_gd hM
    refine s_val (x_ix (a := aG) (b := I (s7 : Int)) (v := vat aG 1 (Int.toNat (s7 : Int))) rfl rfl (Sl.ix (α := Int) T34.und T34.size aU (by omega) (by omega))) <| s_val (x_ld (p := vat aG 1 (Int.toNat (s7 : Int))) (v := I (((r3.getD s8 default).of).getD s7 0)) rfl (ld_sc Sc3 (At.mono (Int_at aU (i := (s7 : Int)) (by omega) (by omega)) (Cells.sup_le (ownLe _ (H.get (k := 11) rfl)) (roLe _ (H.get (k := 12) rfl)))))) <| sA (I (s7 : Int)) rfl <| sA (I (((r3.getD s8 default).of).getD s7 0)) rfl <| s_nil ?_
    refine W.drawT (fun W => St w W [cBlk aH [aG, I ((r3.getD s8 default).base), I ((r3.getD s8 default).minutes)] 60, cOwn (α := Raw 0) 34 ax aB, cRo aC, cOwn (α := Int) 3 ap r0, cOwn (α := Int) 3 ae l2, cBlk aj [I (((r3.length : Int) - 1) - (which % (min 4 (r3.length : Int))))] 3, cRo aw, cOwn (α := Note) 30 aq r4, cBlk ah [ai, I au, I av] 158, cBlk ab [aa] 22, cOwn (α := Raw 2) 60 aa am, cRo ao, cBlk ac [ak, I s9, I aJ] 158] R) (.q 0 (.q 1 (.q 4 (.q 5 (.q 6 (.q 7 (.l2 2 (.l2 3 (.l 8 (.l 9 (.q 10 (.q 11 (.l 12 (.l 13 .nil)))))) 8 (.l2 3 (.l 9 (.q 10 (.q 11 (.l 12 (.l 13 .nil))))) 9 (.q 10 (.l 3 (.q 11 (.l 12 (.l 13 .nil))))))) 8 (.l2 2 (.l2 3 (.l 9 (.q 10 (.q 11 (.l 12 (.l 13 .nil))))) 9 (.q 10 (.l 3 (.q 11 (.l 12 (.l 13 .nil)))))) 9 (.q 10 (.l 2 (.l 3 (.q 11 (.l 12 (.l 13 .nil)))))))))))))) mixed (by decide +kernel) rfl ?_
    intro dH aL
    replace H : St w dH [cBlk aH [aG, I ((r3.getD s8 default).base), I ((r3.getD s8 default).minutes)] 60, cOwn (α := Int) 3 al l5, cOwn (α := Raw 0) 34 ax aB, cRo aC, cOwn (α := Int) 3 ap r0, cOwn (α := Int) 3 ae l2, cBlk aj [I (((r3.length : Int) - 1) - (which % (min 4 (r3.length : Int))))] 3, cRo aw, cOwn (α := Note) 30 aq r4, cBlk ah [ai, I au, I av] 158, cBlk ab [aa] 22, cOwn (α := Raw 2) 60 aa am, cRo ao, cBlk ac [ak, I s9, I aJ] 158] R := H.ext aL
    clear aL
    refine ⟨(H.pick [0, 2, 3, 4, 5, 6, 7, 8, 9, 10, 11, 12, 13] (by decide) rfl), ?_⟩
    refine t_q rfl (fun w' H => x_mv (v := al) rfl) ?_
    refine t_q rfl (fun w' H => x_mv (v := I (s8 : Int)) rfl) ?_
    refine t_q rfl (fun w' H => x_mv (v := I (s7 : Int)) rfl) ?_
    refine t_q rfl (fun w' H => x_ari (a := (s7 : Int)) (b := 1) (r := (s7 : Int) + 1) rfl rfl rfl (by omega)) ?_
    refine t_q rfl (fun w' H => x_mv (v := al) rfl) ?_
    refine t_q rfl (fun w' H => x_mv (v := I (((r3.getD s8 default).of).getD s7 0)) rfl) ?_
    obtain ⟨e7, hM⟩ := M.e_gd hM
    obtain ⟨e8, hM⟩ := M.e_gd hM
    obtain ⟨e9, hM⟩ := M.e_gd hM
    obtain ⟨fa, hM⟩ := M.e_gd hM
    refine t_l2 rfl rfl ?_ ?_
    ·skip
     refine s_val (x_ix (a := al) (b := I (s8 : Int)) (v := vat al 1 (Int.toNat (s8 : Int))) rfl rfl (Sl.ix (α := Int) T34.und T34.size (ownSl (H.get (k := 1) rfl)) (by omega) (by omega))) ?_
     refine s_nil ⟨(H.pick [0, 2, 3, 4, 5, 6, 7, 8, 9, 10, 11, 12, 13] (by decide) rfl), ?_⟩
     refine t_l2 rfl rfl ?_ ?_
     ·skip
      refine s_val (x_ld (p := vat al 1 (Int.toNat (s8 : Int))) (v := I (l5.getD s8 0)) rfl (ld_sc Sc3 (At.mono (Int_at (ownSl (H.get (k := 1) rfl)) (i := (s8 : Int)) (by omega) (by omega)) (ownLe _ (H.get (k := 1) rfl))))) ?_
      refine s_nil ⟨(H.pick [0, 2, 3, 4, 5, 6, 7, 8, 9, 10, 11, 12, 13] (by decide) rfl), ?_⟩
      refine t_l rfl ?_
      refine s_val (x_ix (a := al) (b := I (((r3.getD s8 default).of).getD s7 0)) (v := vat al 1 (Int.toNat (((r3.getD s8 default).of).getD s7 0))) rfl rfl (Sl.ix (α := Int) T34.und T34.size (ownSl (H.get (k := 1) rfl)) (by omega) (by omega))) ?_
      refine s_nil ⟨(H.pick [0, 2, 3, 4, 5, 6, 7, 8, 9, 10, 11, 12, 13] (by decide) rfl), ?_⟩
      refine t_l rfl ?_
      refine s_val (x_ld (p := vat al 1 (Int.toNat (((r3.getD s8 default).of).getD s7 0))) (v := I (l5.getD (Int.toNat (((r3.getD s8 default).of).getD s7 0)) 0)) rfl (ld_sc Sc3 (At.mono (Int_at (ownSl (H.get (k := 1) rfl)) (i := ((r3.getD s8 default).of).getD s7 0) (by omega) (by omega)) (ownLe _ (H.get (k := 1) rfl))))) ?_
      refine s_nil ⟨(H.pick [0, 2, 3, 4, 5, 6, 7, 8, 9, 10, 11, 12, 13] (by decide) rfl), ?_⟩
      refine t_q rfl (fun w' H => x_ari (a := (s7 : Int) + 1) (b := l5.getD (Int.toNat (((r3.getD s8 default).of).getD s7 0)) 0) (r := ((s7 : Int) + 1) * (l5.getD (Int.toNat (((r3.getD s8 default).of).getD s7 0)) 0)) rfl rfl rfl (by omega)) ?_
      refine t_q rfl (fun w' H => x_ari (a := l5.getD s8 0) (b := ((s7 : Int) + 1) * (l5.getD (Int.toNat (((r3.getD s8 default).of).getD s7 0)) 0)) (r := (l5.getD s8 0) + (((s7 : Int) + 1) * (l5.getD (Int.toNat (((r3.getD s8 default).of).getD s7 0)) 0))) rfl rfl rfl (by omega)) ?_
      refine t_l rfl ?_
      refine s_val (x_ix (a := al) (b := I (s8 : Int)) (v := vat al 1 (Int.toNat (s8 : Int))) rfl rfl (Sl.ix (α := Int) T34.und T34.size (ownSl (H.get (k := 1) rfl)) (by omega) (by omega))) ?_
      refine s_nil ⟨(H.pick [0, 2, 3, 4, 5, 6, 7, 8, 9, 10, 11, 12, 13] (by decide) rfl), ?_⟩
      refine t_l rfl ?_
      refine t_ost (k := 1) (i := (s8 : Int)) (l := l5) (l' := l5.set s8 ((l5.getD s8 0) + (((s7 : Int) + 1) * (l5.getD (Int.toNat (((r3.getD s8 default).of).getD s7 0)) 0)) : Int)) (val := I ((l5.getD s8 0) + (((s7 : Int) + 1) * (l5.getD (Int.toNat (((r3.getD s8 default).of).getD s7 0)) 0)))) (L' := [cBlk aH [aG, I ((r3.getD s8 default).base), I ((r3.getD s8 default).minutes)] 60, cOwn (α := Int) 3 al (l5.set s8 ((l5.getD s8 0) + (((s7 : Int) + 1) * (l5.getD (Int.toNat (((r3.getD s8 default).of).getD s7 0)) 0)) : Int)), cOwn (α := Raw 0) 34 ax aB, cRo aC, cOwn (α := Int) 3 ap r0, cOwn (α := Int) 3 ae l2, cBlk aj [I (((r3.length : Int) - 1) - (which % (min 4 (r3.length : Int))))] 3, cRo aw, cOwn (α := Note) 30 aq r4, cBlk ah [ai, I au, I av] 158, cBlk ab [aa] 22, cOwn (α := Raw 2) 60 aa am, cRo ao, cBlk ac [ak, I s9, I aJ] 158]) H rfl Sz3 (by omega) (by omega) ((l5.getD s8 0) + (((s7 : Int) + 1) * (l5.getD (Int.toNat (((r3.getD s8 default).of).getD s7 0)) 0)) : Int) rfl rfl rfl rfl rfl ?_
      intro fb H
      refine s_nil ⟨(H.pick [0, 2, 3, 4, 5, 6, 7, 8, 9, 10, 11, 12, 13] (by decide) rfl), ?_⟩
      refine t_nil ?_
      refine W.region rfl <| sR (s7 : Int) 1 ((s7 : Int) + 1) rfl rfl rfl (by omega) <| sM (I ((s7 : Int) + 1)) rfl <| s_nil ?_
      exact ⟨a8, a9, l5.set s8 ((l5.getD s8 0) + (((s7 : Int) + 1) * (l5.getD (Int.toNat (((r3.getD s8 default).of).getD s7 0)) 0)) : Int), s7 + 1, al, _, upds_of _ _ ⟨rfl, rfl, rfl, rfl, rfl, rfl, rfl, rfl, rfl, rfl, rfl, rfl, rfl, trivial⟩, M.e_inl hM a5, H⟩
     skip
     refine s_val (x_ix (a := al) (b := I (((r3.getD s8 default).of).getD s7 0)) (v := vat al 1 (Int.toNat (((r3.getD s8 default).of).getD s7 0))) rfl rfl (Sl.ix (α := Int) T34.und T34.size (ownSl (H.get (k := 1) rfl)) (by omega) (by omega))) ?_
     refine s_nil ⟨(H.pick [0, 2, 3, 4, 5, 6, 7, 8, 9, 10, 11, 12, 13] (by decide) rfl), ?_⟩
     refine t_l2 rfl rfl ?_ ?_
     ·skip
      refine s_val (x_ld (p := vat al 1 (Int.toNat (s8 : Int))) (v := I (l5.getD s8 0)) rfl (ld_sc Sc3 (At.mono (Int_at (ownSl (H.get (k := 1) rfl)) (i := (s8 : Int)) (by omega) (by omega)) (ownLe _ (H.get (k := 1) rfl))))) ?_
      refine s_nil ⟨(H.pick [0, 2, 3, 4, 5, 6, 7, 8, 9, 10, 11, 12, 13] (by decide) rfl), ?_⟩
      refine t_l rfl ?_
      refine s_val (x_ld (p := vat al 1 (Int.toNat (((r3.getD s8 default).of).getD s7 0))) (v := I (l5.getD (Int.toNat (((r3.getD s8 default).of).getD s7 0)) 0)) rfl (ld_sc Sc3 (At.mono (Int_at (ownSl (H.get (k := 1) rfl)) (i := ((r3.getD s8 default).of).getD s7 0) (by omega) (by omega)) (ownLe _ (H.get (k := 1) rfl))))) ?_
      refine s_nil ⟨(H.pick [0, 2, 3, 4, 5, 6, 7, 8, 9, 10, 11, 12, 13] (by decide) rfl), ?_⟩
      refine t_q rfl (fun w' H => x_ari (a := (s7 : Int) + 1) (b := l5.getD (Int.toNat (((r3.getD s8 default).of).getD s7 0)) 0) (r := ((s7 : Int) + 1) * (l5.getD (Int.toNat (((r3.getD s8 default).of).getD s7 0)) 0)) rfl rfl rfl (by omega)) ?_
      refine t_q rfl (fun w' H => x_ari (a := l5.getD s8 0) (b := ((s7 : Int) + 1) * (l5.getD (Int.toNat (((r3.getD s8 default).of).getD s7 0)) 0)) (r := (l5.getD s8 0) + (((s7 : Int) + 1) * (l5.getD (Int.toNat (((r3.getD s8 default).of).getD s7 0)) 0))) rfl rfl rfl (by omega)) ?_
      refine t_l rfl ?_
      refine s_val (x_ix (a := al) (b := I (s8 : Int)) (v := vat al 1 (Int.toNat (s8 : Int))) rfl rfl (Sl.ix (α := Int) T34.und T34.size (ownSl (H.get (k := 1) rfl)) (by omega) (by omega))) ?_
      refine s_nil ⟨(H.pick [0, 2, 3, 4, 5, 6, 7, 8, 9, 10, 11, 12, 13] (by decide) rfl), ?_⟩
      refine t_l rfl ?_
      refine t_ost (k := 1) (i := (s8 : Int)) (l := l5) (l' := l5.set s8 ((l5.getD s8 0) + (((s7 : Int) + 1) * (l5.getD (Int.toNat (((r3.getD s8 default).of).getD s7 0)) 0)) : Int)) (val := I ((l5.getD s8 0) + (((s7 : Int) + 1) * (l5.getD (Int.toNat (((r3.getD s8 default).of).getD s7 0)) 0)))) (L' := [cBlk aH [aG, I ((r3.getD s8 default).base), I ((r3.getD s8 default).minutes)] 60, cOwn (α := Int) 3 al (l5.set s8 ((l5.getD s8 0) + (((s7 : Int) + 1) * (l5.getD (Int.toNat (((r3.getD s8 default).of).getD s7 0)) 0)) : Int)), cOwn (α := Raw 0) 34 ax aB, cRo aC, cOwn (α := Int) 3 ap r0, cOwn (α := Int) 3 ae l2, cBlk aj [I (((r3.length : Int) - 1) - (which % (min 4 (r3.length : Int))))] 3, cRo aw, cOwn (α := Note) 30 aq r4, cBlk ah [ai, I au, I av] 158, cBlk ab [aa] 22, cOwn (α := Raw 2) 60 aa am, cRo ao, cBlk ac [ak, I s9, I aJ] 158]) H rfl Sz3 (by omega) (by omega) ((l5.getD s8 0) + (((s7 : Int) + 1) * (l5.getD (Int.toNat (((r3.getD s8 default).of).getD s7 0)) 0)) : Int) rfl rfl rfl rfl rfl ?_
      intro fd H
      refine s_nil ⟨(H.pick [0, 2, 3, 4, 5, 6, 7, 8, 9, 10, 11, 12, 13] (by decide) rfl), ?_⟩
      refine t_nil ?_
      refine W.region rfl <| sR (s7 : Int) 1 ((s7 : Int) + 1) rfl rfl rfl (by omega) <| sM (I ((s7 : Int) + 1)) rfl <| s_nil ?_
      exact ⟨a8, a9, l5.set s8 ((l5.getD s8 0) + (((s7 : Int) + 1) * (l5.getD (Int.toNat (((r3.getD s8 default).of).getD s7 0)) 0)) : Int), s7 + 1, al, _, upds_of _ _ ⟨rfl, rfl, rfl, rfl, rfl, rfl, rfl, rfl, rfl, rfl, rfl, rfl, rfl, trivial⟩, M.e_inl hM a5, H⟩
     skip
     refine s_val (x_ld (p := vat al 1 (Int.toNat (((r3.getD s8 default).of).getD s7 0))) (v := I (l5.getD (Int.toNat (((r3.getD s8 default).of).getD s7 0)) 0)) rfl (ld_sc Sc3 (At.mono (Int_at (ownSl (H.get (k := 1) rfl)) (i := ((r3.getD s8 default).of).getD s7 0) (by omega) (by omega)) (ownLe _ (H.get (k := 1) rfl))))) ?_
     refine s_nil ⟨(H.pick [0, 2, 3, 4, 5, 6, 7, 8, 9, 10, 11, 12, 13] (by decide) rfl), ?_⟩
     refine t_q rfl (fun w' H => x_ari (a := (s7 : Int) + 1) (b := l5.getD (Int.toNat (((r3.getD s8 default).of).getD s7 0)) 0) (r := ((s7 : Int) + 1) * (l5.getD (Int.toNat (((r3.getD s8 default).of).getD s7 0)) 0)) rfl rfl rfl (by omega)) ?_
     refine t_l rfl ?_
     refine s_val (x_ld (p := vat al 1 (Int.toNat (s8 : Int))) (v := I (l5.getD s8 0)) rfl (ld_sc Sc3 (At.mono (Int_at (ownSl (H.get (k := 1) rfl)) (i := (s8 : Int)) (by omega) (by omega)) (ownLe _ (H.get (k := 1) rfl))))) ?_
     refine s_nil ⟨(H.pick [0, 2, 3, 4, 5, 6, 7, 8, 9, 10, 11, 12, 13] (by decide) rfl), ?_⟩
     refine t_q rfl (fun w' H => x_ari (a := l5.getD s8 0) (b := ((s7 : Int) + 1) * (l5.getD (Int.toNat (((r3.getD s8 default).of).getD s7 0)) 0)) (r := (l5.getD s8 0) + (((s7 : Int) + 1) * (l5.getD (Int.toNat (((r3.getD s8 default).of).getD s7 0)) 0))) rfl rfl rfl (by omega)) ?_
     refine t_l rfl ?_
     refine s_val (x_ix (a := al) (b := I (s8 : Int)) (v := vat al 1 (Int.toNat (s8 : Int))) rfl rfl (Sl.ix (α := Int) T34.und T34.size (ownSl (H.get (k := 1) rfl)) (by omega) (by omega))) ?_
     refine s_nil ⟨(H.pick [0, 2, 3, 4, 5, 6, 7, 8, 9, 10, 11, 12, 13] (by decide) rfl), ?_⟩
     refine t_l rfl ?_
     refine t_ost (k := 1) (i := (s8 : Int)) (l := l5) (l' := l5.set s8 ((l5.getD s8 0) + (((s7 : Int) + 1) * (l5.getD (Int.toNat (((r3.getD s8 default).of).getD s7 0)) 0)) : Int)) (val := I ((l5.getD s8 0) + (((s7 : Int) + 1) * (l5.getD (Int.toNat (((r3.getD s8 default).of).getD s7 0)) 0)))) (L' := [cBlk aH [aG, I ((r3.getD s8 default).base), I ((r3.getD s8 default).minutes)] 60, cOwn (α := Int) 3 al (l5.set s8 ((l5.getD s8 0) + (((s7 : Int) + 1) * (l5.getD (Int.toNat (((r3.getD s8 default).of).getD s7 0)) 0)) : Int)), cOwn (α := Raw 0) 34 ax aB, cRo aC, cOwn (α := Int) 3 ap r0, cOwn (α := Int) 3 ae l2, cBlk aj [I (((r3.length : Int) - 1) - (which % (min 4 (r3.length : Int))))] 3, cRo aw, cOwn (α := Note) 30 aq r4, cBlk ah [ai, I au, I av] 158, cBlk ab [aa] 22, cOwn (α := Raw 2) 60 aa am, cRo ao, cBlk ac [ak, I s9, I aJ] 158]) H rfl Sz3 (by omega) (by omega) ((l5.getD s8 0) + (((s7 : Int) + 1) * (l5.getD (Int.toNat (((r3.getD s8 default).of).getD s7 0)) 0)) : Int) rfl rfl rfl rfl rfl ?_
     intro fe H
     refine s_nil ⟨(H.pick [0, 2, 3, 4, 5, 6, 7, 8, 9, 10, 11, 12, 13] (by decide) rfl), ?_⟩
     refine t_nil ?_
     refine W.region rfl <| sR (s7 : Int) 1 ((s7 : Int) + 1) rfl rfl rfl (by omega) <| sM (I ((s7 : Int) + 1)) rfl <| s_nil ?_
     exact ⟨a8, a9, l5.set s8 ((l5.getD s8 0) + (((s7 : Int) + 1) * (l5.getD (Int.toNat (((r3.getD s8 default).of).getD s7 0)) 0)) : Int), s7 + 1, al, _, upds_of _ _ ⟨rfl, rfl, rfl, rfl, rfl, rfl, rfl, rfl, rfl, rfl, rfl, rfl, rfl, trivial⟩, M.e_inl hM a5, H⟩
    skip
    refine s_val (x_ix (a := al) (b := I (((r3.getD s8 default).of).getD s7 0)) (v := vat al 1 (Int.toNat (((r3.getD s8 default).of).getD s7 0))) rfl rfl (Sl.ix (α := Int) T34.und T34.size (ownSl (H.get (k := 1) rfl)) (by omega) (by omega))) ?_
    refine s_nil ⟨(H.pick [0, 2, 3, 4, 5, 6, 7, 8, 9, 10, 11, 12, 13] (by decide) rfl), ?_⟩
    refine t_l2 rfl rfl ?_ ?_
    ·skip
     refine s_val (x_ix (a := al) (b := I (s8 : Int)) (v := vat al 1 (Int.toNat (s8 : Int))) rfl rfl (Sl.ix (α := Int) T34.und T34.size (ownSl (H.get (k := 1) rfl)) (by omega) (by omega))) ?_
     refine s_nil ⟨(H.pick [0, 2, 3, 4, 5, 6, 7, 8, 9, 10, 11, 12, 13] (by decide) rfl), ?_⟩
     refine t_l2 rfl rfl ?_ ?_
     ·skip
      refine s_val (x_ld (p := vat al 1 (Int.toNat (s8 : Int))) (v := I (l5.getD s8 0)) rfl (ld_sc Sc3 (At.mono (Int_at (ownSl (H.get (k := 1) rfl)) (i := (s8 : Int)) (by omega) (by omega)) (ownLe _ (H.get (k := 1) rfl))))) ?_
      refine s_nil ⟨(H.pick [0, 2, 3, 4, 5, 6, 7, 8, 9, 10, 11, 12, 13] (by decide) rfl), ?_⟩
      refine t_l rfl ?_
      refine s_val (x_ld (p := vat al 1 (Int.toNat (((r3.getD s8 default).of).getD s7 0))) (v := I (l5.getD (Int.toNat (((r3.getD s8 default).of).getD s7 0)) 0)) rfl (ld_sc Sc3 (At.mono (Int_at (ownSl (H.get (k := 1) rfl)) (i := ((r3.getD s8 default).of).getD s7 0) (by omega) (by omega)) (ownLe _ (H.get (k := 1) rfl))))) ?_
      refine s_nil ⟨(H.pick [0, 2, 3, 4, 5, 6, 7, 8, 9, 10, 11, 12, 13] (by decide) rfl), ?_⟩
      refine t_q rfl (fun w' H => x_ari (a := (s7 : Int) + 1) (b := l5.getD (Int.toNat (((r3.getD s8 default).of).getD s7 0)) 0) (r := ((s7 : Int) + 1) * (l5.getD (Int.toNat (((r3.getD s8 default).of).getD s7 0)) 0)) rfl rfl rfl (by omega)) ?_
      refine t_q rfl (fun w' H => x_ari (a := l5.getD s8 0) (b := ((s7 : Int) + 1) * (l5.getD (Int.toNat (((r3.getD s8 default).of).getD s7 0)) 0)) (r := (l5.getD s8 0) + (((s7 : Int) + 1) * (l5.getD (Int.toNat (((r3.getD s8 default).of).getD s7 0)) 0))) rfl rfl rfl (by omega)) ?_
      refine t_l rfl ?_
      refine s_val (x_ix (a := al) (b := I (s8 : Int)) (v := vat al 1 (Int.toNat (s8 : Int))) rfl rfl (Sl.ix (α := Int) T34.und T34.size (ownSl (H.get (k := 1) rfl)) (by omega) (by omega))) ?_
      refine s_nil ⟨(H.pick [0, 2, 3, 4, 5, 6, 7, 8, 9, 10, 11, 12, 13] (by decide) rfl), ?_⟩
      refine t_l rfl ?_
      refine t_ost (k := 1) (i := (s8 : Int)) (l := l5) (l' := l5.set s8 ((l5.getD s8 0) + (((s7 : Int) + 1) * (l5.getD (Int.toNat (((r3.getD s8 default).of).getD s7 0)) 0)) : Int)) (val := I ((l5.getD s8 0) + (((s7 : Int) + 1) * (l5.getD (Int.toNat (((r3.getD s8 default).of).getD s7 0)) 0)))) (L' := [cBlk aH [aG, I ((r3.getD s8 default).base), I ((r3.getD s8 default).minutes)] 60, cOwn (α := Int) 3 al (l5.set s8 ((l5.getD s8 0) + (((s7 : Int) + 1) * (l5.getD (Int.toNat (((r3.getD s8 default).of).getD s7 0)) 0)) : Int)), cOwn (α := Raw 0) 34 ax aB, cRo aC, cOwn (α := Int) 3 ap r0, cOwn (α := Int) 3 ae l2, cBlk aj [I (((r3.length : Int) - 1) - (which % (min 4 (r3.length : Int))))] 3, cRo aw, cOwn (α := Note) 30 aq r4, cBlk ah [ai, I au, I av] 158, cBlk ab [aa] 22, cOwn (α := Raw 2) 60 aa am, cRo ao, cBlk ac [ak, I s9, I aJ] 158]) H rfl Sz3 (by omega) (by omega) ((l5.getD s8 0) + (((s7 : Int) + 1) * (l5.getD (Int.toNat (((r3.getD s8 default).of).getD s7 0)) 0)) : Int) rfl rfl rfl rfl rfl ?_
      intro ff H
      refine s_nil ⟨(H.pick [0, 2, 3, 4, 5, 6, 7, 8, 9, 10, 11, 12, 13] (by decide) rfl), ?_⟩
      refine t_nil ?_
      refine W.region rfl <| sR (s7 : Int) 1 ((s7 : Int) + 1) rfl rfl rfl (by omega) <| sM (I ((s7 : Int) + 1)) rfl <| s_nil ?_
      exact ⟨a8, a9, l5.set s8 ((l5.getD s8 0) + (((s7 : Int) + 1) * (l5.getD (Int.toNat (((r3.getD s8 default).of).getD s7 0)) 0)) : Int), s7 + 1, al, _, upds_of _ _ ⟨rfl, rfl, rfl, rfl, rfl, rfl, rfl, rfl, rfl, rfl, rfl, rfl, rfl, trivial⟩, M.e_inl hM a5, H⟩
     skip
     refine s_val (x_ld (p := vat al 1 (Int.toNat (((r3.getD s8 default).of).getD s7 0))) (v := I (l5.getD (Int.toNat (((r3.getD s8 default).of).getD s7 0)) 0)) rfl (ld_sc Sc3 (At.mono (Int_at (ownSl (H.get (k := 1) rfl)) (i := ((r3.getD s8 default).of).getD s7 0) (by omega) (by omega)) (ownLe _ (H.get (k := 1) rfl))))) ?_
     refine s_nil ⟨(H.pick [0, 2, 3, 4, 5, 6, 7, 8, 9, 10, 11, 12, 13] (by decide) rfl), ?_⟩
     refine t_q rfl (fun w' H => x_ari (a := (s7 : Int) + 1) (b := l5.getD (Int.toNat (((r3.getD s8 default).of).getD s7 0)) 0) (r := ((s7 : Int) + 1) * (l5.getD (Int.toNat (((r3.getD s8 default).of).getD s7 0)) 0)) rfl rfl rfl (by omega)) ?_
     refine t_l rfl ?_
     refine s_val (x_ld (p := vat al 1 (Int.toNat (s8 : Int))) (v := I (l5.getD s8 0)) rfl (ld_sc Sc3 (At.mono (Int_at (ownSl (H.get (k := 1) rfl)) (i := (s8 : Int)) (by omega) (by omega)) (ownLe _ (H.get (k := 1) rfl))))) ?_
     refine s_nil ⟨(H.pick [0, 2, 3, 4, 5, 6, 7, 8, 9, 10, 11, 12, 13] (by decide) rfl), ?_⟩
     refine t_q rfl (fun w' H => x_ari (a := l5.getD s8 0) (b := ((s7 : Int) + 1) * (l5.getD (Int.toNat (((r3.getD s8 default).of).getD s7 0)) 0)) (r := (l5.getD s8 0) + (((s7 : Int) + 1) * (l5.getD (Int.toNat (((r3.getD s8 default).of).getD s7 0)) 0))) rfl rfl rfl (by omega)) ?_
     refine t_l rfl ?_
     refine s_val (x_ix (a := al) (b := I (s8 : Int)) (v := vat al 1 (Int.toNat (s8 : Int))) rfl rfl (Sl.ix (α := Int) T34.und T34.size (ownSl (H.get (k := 1) rfl)) (by omega) (by omega))) ?_
     refine s_nil ⟨(H.pick [0, 2, 3, 4, 5, 6, 7, 8, 9, 10, 11, 12, 13] (by decide) rfl), ?_⟩
     refine t_l rfl ?_
     refine t_ost (k := 1) (i := (s8 : Int)) (l := l5) (l' := l5.set s8 ((l5.getD s8 0) + (((s7 : Int) + 1) * (l5.getD (Int.toNat (((r3.getD s8 default).of).getD s7 0)) 0)) : Int)) (val := I ((l5.getD s8 0) + (((s7 : Int) + 1) * (l5.getD (Int.toNat (((r3.getD s8 default).of).getD s7 0)) 0)))) (L' := [cBlk aH [aG, I ((r3.getD s8 default).base), I ((r3.getD s8 default).minutes)] 60, cOwn (α := Int) 3 al (l5.set s8 ((l5.getD s8 0) + (((s7 : Int) + 1) * (l5.getD (Int.toNat (((r3.getD s8 default).of).getD s7 0)) 0)) : Int)), cOwn (α := Raw 0) 34 ax aB, cRo aC, cOwn (α := Int) 3 ap r0, cOwn (α := Int) 3 ae l2, cBlk aj [I (((r3.length : Int) - 1) - (which % (min 4 (r3.length : Int))))] 3, cRo aw, cOwn (α := Note) 30 aq r4, cBlk ah [ai, I au, I av] 158, cBlk ab [aa] 22, cOwn (α := Raw 2) 60 aa am, cRo ao, cBlk ac [ak, I s9, I aJ] 158]) H rfl Sz3 (by omega) (by omega) ((l5.getD s8 0) + (((s7 : Int) + 1) * (l5.getD (Int.toNat (((r3.getD s8 default).of).getD s7 0)) 0)) : Int) rfl rfl rfl rfl rfl ?_
     intro fg H
     refine s_nil ⟨(H.pick [0, 2, 3, 4, 5, 6, 7, 8, 9, 10, 11, 12, 13] (by decide) rfl), ?_⟩
     refine t_nil ?_
     refine W.region rfl <| sR (s7 : Int) 1 ((s7 : Int) + 1) rfl rfl rfl (by omega) <| sM (I ((s7 : Int) + 1)) rfl <| s_nil ?_
     exact ⟨a8, a9, l5.set s8 ((l5.getD s8 0) + (((s7 : Int) + 1) * (l5.getD (Int.toNat (((r3.getD s8 default).of).getD s7 0)) 0)) : Int), s7 + 1, al, _, upds_of _ _ ⟨rfl, rfl, rfl, rfl, rfl, rfl, rfl, rfl, rfl, rfl, rfl, rfl, rfl, trivial⟩, M.e_inl hM a5, H⟩
    skip
    refine s_val (x_ld (p := vat al 1 (Int.toNat (((r3.getD s8 default).of).getD s7 0))) (v := I (l5.getD (Int.toNat (((r3.getD s8 default).of).getD s7 0)) 0)) rfl (ld_sc Sc3 (At.mono (Int_at (ownSl (H.get (k := 1) rfl)) (i := ((r3.getD s8 default).of).getD s7 0) (by omega) (by omega)) (ownLe _ (H.get (k := 1) rfl))))) ?_
    refine s_nil ⟨(H.pick [0, 2, 3, 4, 5, 6, 7, 8, 9, 10, 11, 12, 13] (by decide) rfl), ?_⟩
    refine t_q rfl (fun w' H => x_ari (a := (s7 : Int) + 1) (b := l5.getD (Int.toNat (((r3.getD s8 default).of).getD s7 0)) 0) (r := ((s7 : Int) + 1) * (l5.getD (Int.toNat (((r3.getD s8 default).of).getD s7 0)) 0)) rfl rfl rfl (by omega)) ?_
    refine t_l rfl ?_
    refine s_val (x_ix (a := al) (b := I (s8 : Int)) (v := vat al 1 (Int.toNat (s8 : Int))) rfl rfl (Sl.ix (α := Int) T34.und T34.size (ownSl (H.get (k := 1) rfl)) (by omega) (by omega))) ?_
    refine s_nil ⟨(H.pick [0, 2, 3, 4, 5, 6, 7, 8, 9, 10, 11, 12, 13] (by decide) rfl), ?_⟩
    refine t_l rfl ?_
    refine s_val (x_ld (p := vat al 1 (Int.toNat (s8 : Int))) (v := I (l5.getD s8 0)) rfl (ld_sc Sc3 (At.mono (Int_at (ownSl (H.get (k := 1) rfl)) (i := (s8 : Int)) (by omega) (by omega)) (ownLe _ (H.get (k := 1) rfl))))) ?_
    refine s_nil ⟨(H.pick [0, 2, 3, 4, 5, 6, 7, 8, 9, 10, 11, 12, 13] (by decide) rfl), ?_⟩
    refine t_q rfl (fun w' H => x_ari (a := l5.getD s8 0) (b := ((s7 : Int) + 1) * (l5.getD (Int.toNat (((r3.getD s8 default).of).getD s7 0)) 0)) (r := (l5.getD s8 0) + (((s7 : Int) + 1) * (l5.getD (Int.toNat (((r3.getD s8 default).of).getD s7 0)) 0))) rfl rfl rfl (by omega)) ?_
    refine t_l rfl ?_
    refine s_val (x_ix (a := al) (b := I (s8 : Int)) (v := vat al 1 (Int.toNat (s8 : Int))) rfl rfl (Sl.ix (α := Int) T34.und T34.size (ownSl (H.get (k := 1) rfl)) (by omega) (by omega))) ?_
    refine s_nil ⟨(H.pick [0, 2, 3, 4, 5, 6, 7, 8, 9, 10, 11, 12, 13] (by decide) rfl), ?_⟩
    refine t_l rfl ?_
    refine t_ost (k := 1) (i := (s8 : Int)) (l := l5) (l' := l5.set s8 ((l5.getD s8 0) + (((s7 : Int) + 1) * (l5.getD (Int.toNat (((r3.getD s8 default).of).getD s7 0)) 0)) : Int)) (val := I ((l5.getD s8 0) + (((s7 : Int) + 1) * (l5.getD (Int.toNat (((r3.getD s8 default).of).getD s7 0)) 0)))) (L' := [cBlk aH [aG, I ((r3.getD s8 default).base), I ((r3.getD s8 default).minutes)] 60, cOwn (α := Int) 3 al (l5.set s8 ((l5.getD s8 0) + (((s7 : Int) + 1) * (l5.getD (Int.toNat (((r3.getD s8 default).of).getD s7 0)) 0)) : Int)), cOwn (α := Raw 0) 34 ax aB, cRo aC, cOwn (α := Int) 3 ap r0, cOwn (α := Int) 3 ae l2, cBlk aj [I (((r3.length : Int) - 1) - (which % (min 4 (r3.length : Int))))] 3, cRo aw, cOwn (α := Note) 30 aq r4, cBlk ah [ai, I au, I av] 158, cBlk ab [aa] 22, cOwn (α := Raw 2) 60 aa am, cRo ao, cBlk ac [ak, I s9, I aJ] 158]) H rfl Sz3 (by omega) (by omega) ((l5.getD s8 0) + (((s7 : Int) + 1) * (l5.getD (Int.toNat (((r3.getD s8 default).of).getD s7 0)) 0)) : Int) rfl rfl rfl rfl rfl ?_
    intro fh H
    refine s_nil ⟨(H.pick [0, 2, 3, 4, 5, 6, 7, 8, 9, 10, 11, 12, 13] (by decide) rfl), ?_⟩
    refine t_nil ?_
    refine W.region rfl <| sR (s7 : Int) 1 ((s7 : Int) + 1) rfl rfl rfl (by omega) <| sM (I ((s7 : Int) + 1)) rfl <| s_nil ?_
    exact ⟨a8, a9, l5.set s8 ((l5.getD s8 0) + (((s7 : Int) + 1) * (l5.getD (Int.toNat (((r3.getD s8 default).of).getD s7 0)) 0)) : Int), s7 + 1, al, _, upds_of _ _ ⟨rfl, rfl, rfl, rfl, rfl, rfl, rfl, rfl, rfl, rfl, rfl, rfl, rfl, trivial⟩, M.e_inl hM a5, H⟩
   replace hM := M.e_f hM bk
   simp only [qz1, qz2, qz3, qz4, qz5, qz6, ne_eq, qz7] at bk
   refine W.exit ?_
   have dI := M.e_inr hM a5
   subst dI
   replace hM := dG
   try dsimp only at hM
   refine W.region rfl <| sM al rfl <| sM (I (s8 : Int)) rfl ?_
   obtain ⟨fi, hM⟩ := M.e_gd hM
   refine s_val (x_ix (a := al) (b := I (s8 : Int)) (v := vat al 1 (Int.toNat (s8 : Int))) rfl rfl (Sl.ix (α := Int) T34.und T34.size (ownSl (H.get (k := 1) rfl)) (by omega) (by omega))) <| s_val (x_ld (p := vat al 1 (Int.toNat (s8 : Int))) (v := I (l5.getD s8 0)) rfl (ld_sc Sc3 (At.mono (Int_at (ownSl (H.get (k := 1) rfl)) (i := (s8 : Int)) (by omega) (by omega)) (ownLe _ (H.get (k := 1) rfl))))) ?_
   obtain ⟨fj, hM⟩ := M.e_gd hM
   refine s_val (x_rem' (a := l5.getD s8 0) (b := 1000003) rfl rfl (by omega)) <| s_val (x_ix (a := al) (b := I (s8 : Int)) (v := vat al 1 (Int.toNat (s8 : Int))) rfl rfl (Sl.ix (α := Int) T34.und T34.size (ownSl (H.get (k := 1) rfl)) (by omega) (by omega))) ?_
   refine t_ost (k := 1) (i := (s8 : Int)) (l := l5) (l' := l5.set s8 ((l5.getD s8 0) % 1000003 : Int)) (val := I ((l5.getD s8 0) % 1000003)) (L' := [cBlk aH [aG, I ((r3.getD s8 default).base), I ((r3.getD s8 default).minutes)] 60, cOwn (α := Int) 3 al (l5.set s8 ((l5.getD s8 0) % 1000003 : Int)), cOwn (α := Raw 0) 34 ax aB, cRo aC, cOwn (α := Int) 3 ap r0, cOwn (α := Int) 3 ae l2, cBlk aj [I (((r3.length : Int) - 1) - (which % (min 4 (r3.length : Int))))] 3, cRo aw, cOwn (α := Note) 30 aq r4, cBlk ah [ai, I au, I av] 158, cBlk ab [aa] 22, cOwn (α := Raw 2) 60 aa am, cRo ao, cBlk ac [ak, I s9, I aJ] 158]) H rfl Sz3 (by omega) (by omega) ((l5.getD s8 0) % 1000003 : Int) rfl rfl rfl rfl rfl ?_
   intro fk H
   refine s_nil <| W.region rfl <| sR (s8 : Int) 1 ((s8 : Int) + 1) rfl rfl rfl (by omega) <| sM (I ((s8 : Int) + 1)) rfl <| s_nil ?_
   exact ⟨bq, br, s8 + 1, s9, aJ, l5.set s8 ((l5.getD s8 0) % 1000003 : Int), al, _, upds_of _ _ ⟨rfl, rfl, rfl, rfl, rfl, rfl, rfl, rfl, rfl, trivial⟩, M.e_inl hM bg, (H.pick [1, 2, 3, 4, 5, 6, 7, 8, 9, 10, 11, 12, 13] (by decide) rfl)⟩
  replace hM := M.e_f hM bj
  simp only [qz1, qz2, qz3, qz4, qz5, qz6, ne_eq, qz7] at bj
  refine W.skip <| W.region rfl <| sR (s8 : Int) 1 ((s8 : Int) + 1) rfl rfl rfl (by omega) <| sM (I ((s8 : Int) + 1)) rfl <| s_nil ?_
  exact ⟨bq, br, s8 + 1, s9, aJ, l8, aI, _, upds_of _ _ ⟨rfl, rfl, rfl, rfl, rfl, rfl, rfl, rfl, rfl, trivial⟩, M.e_inl hM bg, (H.pick [1, 2, 3, 4, 5, 6, 7, 8, 9, 10, 11, 12, 13] (by decide) rfl)⟩
 replace hM := M.e_f hM bh
 simp only [qz1, qz2, qz3, qz4, qz5, qz6, ne_eq, qz7] at bh
 refine W.exit ?_
 have dJ := M.e_inr hM bg
 subst dJ
 replace hM := dy
 try dsimp only at hM
 refine W.seq ?_
 refine W.draw (fun W => St w W [cOwn (α := Int) 3 aI l8, cOwn (α := Raw 0) 34 ax aB, cRo aC, cOwn (α := Int) 3 ap r0, cOwn (α := Int) 3 ae l2, cBlk aj [I (((r3.length : Int) - 1) - (which % (min 4 (r3.length : Int))))] 3, cRo aw, cOwn (α := Note) 30 aq r4, cBlk ah [ai, I au, I av] 158, cBlk ab [aa] 22, cOwn (α := Raw 2) 60 aa am, cRo ao, cBlk ac [ak, I s9, I aJ] 158] R) [(0, true), (1, true), (2, true), (3, true), (4, true), (5, true), (6, true), (7, true), (8, true), (9, true), (10, false), (11, true), (12, true)] mixed (by decide +kernel) rfl ?_
 intro dK aL
 replace H : St w dK [cOwn (α := Int) 3 aI l8, cOwn (α := Raw 0) 34 ax aB, cRo aC, cOwn (α := Int) 3 ap r0, cOwn (α := Int) 3 ae l2, cBlk aj [I (((r3.length : Int) - 1) - (which % (min 4 (r3.length : Int))))] 3, cRo aw, cOwn (α := Note) 30 aq r4, cBlk ah [ai, I au, I av] 158, cBlk ab [aa] 22, cOwn (α := Raw 2) 60 aa am, cRo ao, cBlk ac [ak, I s9, I aJ] 158] R := H.ext aL
 clear aL
 refine ⟨(H.pick [0, 1, 2, 3, 4, 5, 6, 7, 8, 9, 10, 11, 12] (by decide) rfl), ?_⟩
 refine d_q rfl (fun w' H => x_mv (v := aI) rfl) ?_
 refine d_q rfl (fun w' H => x_ld (p := Pz aj) (v := I (((r3.length : Int) - 1) - (which % (min 4 (r3.length : Int))))) rfl (ldb_sc Sc3 (H.blk (k := 5) rfl) rfl)) ?_
 obtain ⟨fl, hM⟩ := M.e_gd hM
 refine d_q rfl (fun w' H => x_ix (a := aI) (b := I (((r3.length : Int) - 1) - (which % (min 4 (r3.length : Int))))) (v := vat aI 1 (Int.toNat (((r3.length : Int) - 1) - (which % (min 4 (r3.length : Int)))))) rfl rfl (Sl.ix (α := Int) T34.und T34.size (ownSl (H.get (k := 0) rfl)) (by omega) (by omega))) ?_
 refine d_q rfl (fun w' H => x_ld (p := vat aI 1 (Int.toNat (((r3.length : Int) - 1) - (which % (min 4 (r3.length : Int)))))) (v := I (l8.getD (Int.toNat (((r3.length : Int) - 1) - (which % (min 4 (r3.length : Int))))) 0)) rfl (ld_sc Sc3 (At.mono (Int_at (ownSl (H.get (k := 0) rfl)) (i := ((r3.length : Int) - 1) - (which % (min 4 (r3.length : Int)))) (by omega) (by omega)) (ownLe _ (H.get (k := 0) rfl))))) ?_
 refine d_q rfl (fun w' H => x_mv (v := aN) rfl) ?_
 refine d_q rfl (fun w' H => x_ld (p := Pz aj) (v := I (((r3.length : Int) - 1) - (which % (min 4 (r3.length : Int))))) rfl (ldb_sc Sc3 (H.blk (k := 5) rfl) rfl)) ?_
 obtain ⟨fm, hM⟩ := M.e_gd hM
 refine d_q rfl (fun w' H => x_ix (a := aN) (b := I (((r3.length : Int) - 1) - (which % (min 4 (r3.length : Int))))) (v := vat aN 1 (Int.toNat (((r3.length : Int) - 1) - (which % (min 4 (r3.length : Int)))))) rfl rfl (Sl.ix (α := Int) T34.und T34.size aX (by omega) (by omega))) ?_
 refine d_q rfl (fun w' H => x_ld (p := vat aN 1 (Int.toNat (((r3.length : Int) - 1) - (which % (min 4 (r3.length : Int)))))) (v := I (l.getD (Int.toNat (((r3.length : Int) - 1) - (which % (min 4 (r3.length : Int))))) 0)) rfl (ld_sc Sc3 (At.mono (Int_at aX (i := ((r3.length : Int) - 1) - (which % (min 4 (r3.length : Int)))) (by omega) (by omega)) (roLe _ (H.get (k := 6) rfl))))) ?_
 refine d_q rfl (fun w' H => x_cmp (kd := .i64) (a := l8.getD (Int.toNat (((r3.length : Int) - 1) - (which % (min 4 (r3.length : Int))))) 0) (b := l.getD (Int.toNat (((r3.length : Int) - 1) - (which % (min 4 (r3.length : Int))))) 0) (r := (l8.getD (Int.toNat (((r3.length : Int) - 1) - (which % (min 4 (r3.length : Int))))) 0) == (l.getD (Int.toNat (((r3.length : Int) - 1) - (which % (min 4 (r3.length : Int))))) 0)) rfl rfl rfl) ?_
 refine d_q rfl (fun w' H => x_mv (v := B ((l8.getD (Int.toNat (((r3.length : Int) - 1) - (which % (min 4 (r3.length : Int))))) 0) == (l.getD (Int.toNat (((r3.length : Int) - 1) - (which % (min 4 (r3.length : Int))))) 0))) rfl) ?_
 refine d_l rfl ?_
 obtain ⟨bl, dL, hM⟩ := M.e_bind hM
 refine t_gcall ((l8.getD (Int.toNat (((r3.length : Int) - 1) - (which % (min 4 (r3.length : Int))))) 0) == (l.getD (Int.toNat (((r3.length : Int) - 1) - (which % (min 4 (r3.length : Int))))) 0)) (gy_t rfl) cf17 (B bl) (fun _ => []) (fun _ => rfl) H (fun hg => (zbQ (M.e_opt dL hg) _ (H.give (A := []) rfl)).mono fun v_ w_ ⟨y_, aQ, dM, H_⟩ => by subst aQ; exact ⟨dM, H.via H_⟩) ?_
 intro fo H
 refine s_nil ⟨(H.pick [0, 1, 2, 3, 4, 5, 6, 7, 8, 9, 10, 11, 12] (by decide) rfl), ?_⟩
 refine d_q rfl (fun w' H => x_pand (b := (l8.getD (Int.toNat (((r3.length : Int) - 1) - (which % (min 4 (r3.length : Int))))) 0) == (l.getD (Int.toNat (((r3.length : Int) - 1) - (which % (min 4 (r3.length : Int))))) 0)) (r := bl) rfl (fun hb => gd_of (c := (l8.getD (Int.toNat (((r3.length : Int) - 1) - (which % (min 4 (r3.length : Int))))) 0) == (l.getD (Int.toNat (((r3.length : Int) - 1) - (which % (min 4 (r3.length : Int))))) 0)) (by first | exact hb | (rw [hb]; rfl) | simp_all) (B bl)) rfl) ?_
 refine d_q rfl (fun w' H => x_as (v := B (((l8.getD (Int.toNat (((r3.length : Int) - 1) - (which % (min 4 (r3.length : Int))))) 0) == (l.getD (Int.toNat (((r3.length : Int) - 1) - (which % (min 4 (r3.length : Int))))) 0)) && bl)) rfl) ?_
 refine d_nil ?_
 refine W.ret ?_
 have aQ := M.e_pure hM
 exact ⟨_, resE_tmp rfl, ⟨(((l8.getD (Int.toNat (((r3.length : Int) - 1) - (which % (min 4 (r3.length : Int))))) 0) == (l.getD (Int.toNat (((r3.length : Int) - 1) - (which % (min 4 (r3.length : Int))))) 0)) && bl), aQ, rfl, (H.pick [] (by decide) rfl)⟩⟩

end Go.Proofs.Ytndobgodeicloaa
end
namespace Go.Nm
variable {ws : List Work} {rev F : List Int} {t : Nat}
theorem Froz.pair {l : List Int} (h : Froz ws rev t l) : l.Pairwise (· < ·) := by
  rw [List.pairwise_iff_getElem]
  intro i j hi hj hij
  have := asc_pair h.asc i j hij hj
  rwa [getD_el l hi 0, getD_el l hj 0] at this
theorem Froz.listed {l : List Int} (h : Froz ws rev t l) : listedE ws.length l = 0 := listed_of (fun x hx => ⟨(h.rng x hx).1, (h.rng x hx).2.1⟩) h.pair
theorem cut_one (l : List Int) (k : Nat) : l.take k ++ l.drop (Int.toNat ((k : Int) + 1)) = l.eraseIdx k := by
  rw [show Int.toNat ((k : Int) + 1) = k + 1 from by omega, List.eraseIdx_eq_take_drop_succ]
/-- The value of a work, from those of which it is made. -/
theorem val_sum (hB : Built ws) {l : List Note} (hk : ∀ i, i < ws.length -> 0 <= (valL ws l).getD i 0 /\ (valL ws l).getD i 0 <= 1000002) {i : Nat} (hi : i < ws.length) (h0 : 0 < (ws.getD i default).of.length) :
    (valL ws l).getD i 0 = sumV (valL ws l) (ws.getD i default).base (ws.getD i default).of (ws.getD i default).of.length % 1000003 := by
  have h2 := val_eq hB.opened (newF l) (i := (i : Int)) (by omega) (by omega)
  rw [Int.toNat_natCast] at h2
  have h2 : (valL ws l).getD i 0 = _ := h2
  rw [h2, if_neg]
  · rfl
  · have hall : ((ws.getD i default).of.all fun k => (valF ws (newF l) (orderP ws) (List.replicate ws.length (-1))).getD k.toNat 0 != -1) = true := by
      rw [List.all_eq_true]
      intro k hkm
      have ha := (hB.at_ i hi).ahead k hkm
      have h3 : 0 <= (valF ws (newF l) (orderP ws) (List.replicate ws.length (-1))).getD k.toNat 0 := (hk k.toNat (by omega)).1
      simp only [bne_iff_ne, ne_eq]
      omega
    rw [hall, show (((ws.getD i default).of.length : Int) == 0) = false from by simp only [beq_eq_false_iff_ne, ne_eq]; omega]
    decide
end Go.Nm
namespace Go.Proofs.Ytndobgodeicloaa
open Go Go.Nm
variable {ws : List Work} {rev F : List Int} {t : Nat}
/-- Revised sources of numbers. -/
structure RvF (ws : List Work) (t : Nat) (l : List Int) (n : Nat) : Prop where
  src : ∀ x ∈ l, 0 <= x /\ x < (n : Int) /\ x ≠ (t : Int) /\ (ws.getD x.toNat default).of = []
  pair : l.Pairwise (· < ·)
  few : l.length <= n
theorem RvF.skip {l : List Int} {n : Nat} (h : RvF ws t l n) : RvF ws t l (n + 1) := ⟨fun x hx => by have := h.src x hx; exact ⟨this.1, by omega, this.2.2⟩, h.pair, by have := h.few; omega⟩
theorem RvF.put {l : List Int} {n : Nat} (h : RvF ws t l n) (hn : n ≠ t) (ho : (ws.getD n default).of = []) : RvF ws t (l ++ [(n : Int)]) (n + 1) := by
  refine ⟨fun x hx => ?_, pair_snoc h.pair (fun y hy => (h.src y hy).2.1), by have := h.few; simp; omega⟩
  rcases List.mem_append.1 hx with hx | hx
  · exact h.skip.src x hx
  · rw [List.mem_singleton.1 hx]
    exact ⟨by omega, by omega, by omega, by rw [Int.toNat_natCast]; exact ho⟩
theorem revised_src {b : List UInt8} {c u x : Int} (h : SOk c u x) (hc : c <= 1000000) (hl : ws.length <= 30) {which : Int} (ht : ((ws.length : Int) - 1) - (which % (min 4 (ws.length : Int))) = (t : Int)) :
    (M.iter (zaH b which ws) (u, x, 0, [])).Out (fun y => SOk (c + 30) y.1 y.2.1 /\ RvF ws t y.2.2.2 ws.length) := by
  refine M.o_for ws.length (fun i st => st.2.2.1 = i /\ SOk (c + i) st.1 st.2.1 /\ RvF ws t st.2.2.2 i) ?_ ?_ (s := (u, x, 0, [])) ⟨rfl, h.mono (by omega), ⟨fun x h => by simp at h, List.Pairwise.nil, Nat.le_refl _⟩⟩
  · rintro i ⟨u, x, j, l⟩ hi ⟨rfl, ok, hr⟩
    dsimp only at hi ok hr ⊢
    have hf := hr.few
    simp only [zaH, ht]
    have hcond : ∀ {q : Bool}, (((((ws.getD j default).of).length : Int) == 0) && ((j : Int) != (t : Int))) = q -> (q = true -> j ≠ t /\ (ws.getD j default).of = []) := by
      intro q hq hq2
      rw [hq2] at hq
      simp only [Bool.and_eq_true, beq_iff_eq, bne_iff_ne, ne_eq] at hq
      exact ⟨by omega, List.eq_nil_of_length_eq_zero (by omega)⟩
    refine M.o_t (by simpa using hi) (M.o_grdD (by omega) (M.o_if (fun hb => ?_) (fun hb => ?_)))
    · have hq := hcond hb rfl
      refine M.o_bind (next_out ok (by omega) (by omega)) ?_
      rintro ⟨r, u', x'⟩ ⟨ok', _, _⟩
      dsimp only at ok' ⊢
      refine M.o_if (fun _ => ?_) (fun _ => ?_)
      · exact M.o_grdD (by simp only [List.length_cons, List.length_nil]; omega) (M.o_pure ⟨rfl, ok'.mono (by omega), hr.put hq.1 hq.2⟩)
      · exact M.o_pure ⟨rfl, ok'.mono (by omega), hr.skip⟩
    · rw [hb]
      exact M.o_f rfl (M.o_pure ⟨rfl, ok.mono (by omega), hr.skip⟩)
  · rintro ⟨u, x, j, l⟩ ⟨rfl, ok, hr⟩
    dsimp only at ok hr ⊢
    simp only [zaH]
    exact M.o_f (by simp) (M.o_pure ⟨ok.mono (by omega), hr⟩)
/-- Without one of them the work is kept no more. -/
theorem frozen_few (hA : askedE ws rev = 0) (ht : t < ws.length) (hn : (t : Int) ∉ rev) {ls : List (List Int)} (hL : ApartA ws rev t ls) (hF : Froz ws rev t F) (hlen : ls.length = F.length) {which : Int} (hw : ((ws.length : Int) - 1) - (which % (min 4 (ws.length : Int))) = (t : Int)) (hl : F.length <= 1000) :
    (M.iter (zav which ws rev F) 0).Out (fun q => q = .inr ()) := by
  refine M.o_for F.length (fun i s => s = i) ?_ ?_ rfl
  · rintro k s hk rfl
    have hel : (F.eraseIdx s).length = F.length - 1 := by rw [List.length_eraseIdx, if_pos hk]
    have hsub : (F.eraseIdx s).Sublist F := List.eraseIdx_sublist ..
    have hm : ∀ x ∈ F.eraseIdx s, x ∈ F := fun x hx => hsub.subset hx
    have hq : ∀ x ∈ F.eraseIdx s, x ≠ (t : Int) /\ x ∉ rev := fun x hx => ⟨(hF.rng x (hm x hx)).2.2.1, (hF.rng x (hm x hx)).2.2.2⟩
    have hls : listedE ws.length (F.eraseIdx s) = 0 := listed_of (fun x hx => ⟨(hF.rng x (hm x hx)).1, (hF.rng x (hm x hx)).2.1⟩) (hF.pair.sublist hsub)
    simp only [zav, hw, cut_one]
    refine M.o_t (by simpa using hk) (M.o_grdD (by omega) (M.o_grd (gA3 (by omega) (by omega) (by omega)) (M.o_bind (keeps_out hA ht hn hls hq) ?_)))
    rintro ⟨b, e⟩ ⟨h1, h2⟩
    dsimp only at h1 h2 ⊢
    subst h1
    have hb : b = false := by
      cases b with
      | false => rfl
      | true =>
        have := apart_few hq (h2.1 rfl) hL
        omega
    subst hb
    exact M.o_f rfl (M.o_pure rfl)
  · rintro s rfl
    simp only [zav]
    exact M.o_f (by simp) (M.o_pure rfl)
/-- The sum of what one work is made of. -/
theorem again_sum (hB : Built ws) {i : Nat} (hi : i < ws.length) {L : List Int} (hL : L.length = ws.length) (hb : ∀ j, j < ws.length -> 0 <= L.getD j 0 /\ L.getD j 0 <= 1000002) :
    (M.iter (zaM ws i) (L.set i ((ws.getD i default).base : Int), 0)).Ends (L.set i (sumV L (ws.getD i default).base (ws.getD i default).of (ws.getD i default).of.length), L.set i (sumV L (ws.getD i default).base (ws.getD i default).of (ws.getD i default).of.length)) := by
  have hat := hB.at_ i hi
  have hof : ∀ k ∈ (ws.getD i default).of, 0 <= L.getD k.toNat 0 /\ L.getD k.toNat 0 <= 1000002 := fun k hk => by
    have := hat.ahead k hk
    exact hb k.toNat (by omega)
  refine M.i_for (fun j => (L.set i (sumV L (ws.getD i default).base (ws.getD i default).of j), j)) (ws.getD i default).of.length (fun j hj => ?_) ?_
  · have hk := hat.ahead _ (getD_memN (ws.getD i default).of (by omega : (j : Int) < _) 0)
    have hbd := hof _ (getD_memN (ws.getD i default).of (by omega : (j : Int) < _) 0)
    have hfew := hat.few
    have hs := sumV_b hat.base hfew hof j (by omega)
    have hp := prod_b (a := (j : Int) + 1) (by omega) (by omega) hbd.1 hbd.2
    have e1 : (L.set i (sumV L (ws.getD i default).base (ws.getD i default).of j)).getD (Int.toNat ((ws.getD i default).of.getD j 0)) 0 = L.getD (Int.toNat ((ws.getD i default).of.getD j 0)) 0 := by
      rw [List.getD_eq_getElem?_getD, List.getElem?_set_ne (by omega), ← List.getD_eq_getElem?_getD]
    have e2 : (L.set i (sumV L (ws.getD i default).base (ws.getD i default).of j)).getD i 0 = sumV L (ws.getD i default).base (ws.getD i default).of j := by
      rw [List.getD_eq_getElem?_getD, List.getElem?_set_self (by omega)]
      rfl
    simp only [zaM]
    rw [e1, e2, List.set_set]
    refine M.i_t (by simpa using hj) (M.grdD (by omega) (M.grdD (by rw [List.length_set]; omega) (M.i_grd (gA2 (by omega) (by rw [List.length_set]; omega)) (M.i_grd (gA2 (by omega) (by omega)) (M.i_grd (gA2 (by omega) (by omega)) ?_)))))
    exact M.i_pure
  · simp only [zaM]
    exact M.i_f (by simp) M.i_pure
/-- All is made again, but for frozen works: what is not reached has the value that it had. -/
theorem again_out (hB : Built ws) {b : List UInt8} {c u x : Int} (h : SOk c u x) (hc : c <= 1000000) {V : List Int} (hV : V.length = ws.length) (hk : ∀ i, i < ws.length -> 0 <= V.getD i 0 /\ V.getD i 0 <= 1000002)
    (hs : ∀ i, i < ws.length -> 0 < (ws.getD i default).of.length -> V.getD i 0 = sumV V (ws.getD i default).base (ws.getD i default).of (ws.getD i default).of.length % 1000003) :
    (M.iter (zaJ b ws rev F) (0, u, x, V)).Out (fun y => y.2.1.length = ws.length /\ ∀ j, j < ws.length -> ¬ Rch ws rev F j -> y.2.1.getD j 0 = V.getD j 0) := by
  have hlen := hB.len
  refine M.o_for ws.length (fun i st => st.1 = i /\ SOk (c + i) st.2.1 st.2.2.1 /\ st.2.2.2.length = ws.length /\ (∀ j, j < ws.length -> 0 <= st.2.2.2.getD j 0 /\ st.2.2.2.getD j 0 <= 1000002) /\ ∀ j, j < ws.length -> (i <= j ∨ ¬ Rch ws rev F j) -> st.2.2.2.getD j 0 = V.getD j 0) ?_ ?_ (s := (0, u, x, V)) ⟨rfl, h.mono (by omega), hV, hk, fun j _ _ => rfl⟩
  · rintro i ⟨i', u, x, L⟩ hi ⟨rfl, ok, hL, hb, he⟩
    dsimp only at hi ok hL hb he ⊢
    have keep : (i' + 1 = i' + 1 /\ SOk (c + ((i' + 1 : Nat) : Int)) u x /\ L.length = ws.length /\ (∀ j, j < ws.length -> 0 <= L.getD j 0 /\ L.getD j 0 <= 1000002) /\ ∀ j, j < ws.length -> (i' + 1 <= j ∨ ¬ Rch ws rev F j) -> L.getD j 0 = V.getD j 0) :=
      ⟨rfl, ok.mono (by omega), hL, hb, fun j hj h => he j hj (h.imp (fun h => by omega) id)⟩
    have put : ∀ {v u' x' : Int}, SOk (c + ((i' + 1 : Nat) : Int)) u' x' -> 0 <= v -> v <= 1000002 -> (¬ Rch ws rev F i' -> v = V.getD i' 0) →
        (i' + 1 = i' + 1 /\ SOk (c + ((i' + 1 : Nat) : Int)) u' x' /\ (L.set i' v).length = ws.length /\ (∀ j, j < ws.length -> 0 <= (L.set i' v).getD j 0 /\ (L.set i' v).getD j 0 <= 1000002) /\ ∀ j, j < ws.length -> (i' + 1 <= j ∨ ¬ Rch ws rev F j) -> (L.set i' v).getD j 0 = V.getD j 0) := by
      intro v u' x' ok' v0 v1 hv
      have at_ : ∀ j, j < ws.length -> (L.set i' v).getD j 0 = if j = i' then v else L.getD j 0 := by
        intro j hj
        by_cases e : j = i'
        · subst e
          rw [if_pos rfl, List.getD_eq_getElem?_getD, List.getElem?_set_self (by omega)]
          rfl
        · rw [if_neg e, List.getD_eq_getElem?_getD, List.getElem?_set_ne (fun e' => e e'.symm), ← List.getD_eq_getElem?_getD]
      refine ⟨rfl, ok', by rw [List.length_set]; exact hL, fun j hj => ?_, fun j hj h => ?_⟩
      · rw [at_ j hj]
        have := hb j hj
        split <;> omega
      · rw [at_ j hj]
        by_cases e : j = i'
        · subst e
          rw [if_pos rfl]
          exact hv (h.resolve_left (by omega))
        · rw [if_neg e]
          exact he j hj (h.imp (fun h => by omega) id)
    simp only [zaJ]
    refine M.o_t (by simpa using hi) (M.o_grdD (by omega) (M.o_if (fun hf => M.o_pure keep) (fun hf => M.o_if (fun hr => ?_) (fun hr => M.o_if (fun ho => ?_) (fun ho => M.o_pure keep)))))
    · refine M.o_bind (next_out ok (by omega) (by omega)) ?_
      rintro ⟨r, u', x'⟩ ⟨ok', lt, _⟩
      dsimp only at ok' lt ⊢
      have lt := lt (by omega)
      refine M.o_grdD (by omega) (M.o_pure (put (ok'.mono (by omega)) lt.1 (by omega) (fun h => absurd ?_ h)))
      have := Rch.base (ws := ws) (F := F) (List.contains_iff_mem.1 hr)
      rwa [Int.toNat_natCast] at this
    · have ho := of_decide_eq_true ho
      have hsum := again_sum hB hi hL hb
      have hat := hB.at_ i' hi
      have hof : ∀ k ∈ (ws.getD i' default).of, 0 <= L.getD k.toNat 0 /\ L.getD k.toNat 0 <= 1000002 := fun k hk => by
        have := hat.ahead k hk
        exact hb k.toNat (by omega)
      have hbd := sumV_b hat.base hat.few hof (ws.getD i' default).of.length (Nat.le_refl _)
      have e2 : (L.set i' (sumV L (ws.getD i' default).base (ws.getD i' default).of (ws.getD i' default).of.length)).getD i' 0 = sumV L (ws.getD i' default).base (ws.getD i' default).of (ws.getD i' default).of.length := by
        rw [List.getD_eq_getElem?_getD, List.getElem?_set_self (by omega)]
        rfl
      refine M.o_grdD (by omega) (M.o_bindE hsum (M.o_grdD (by rw [List.length_set]; omega) (M.o_grd (gA2 (by rw [e2]; exact hbd.1) (by omega)) ?_)))
      dsimp only
      rw [e2, List.set_set]
      refine M.o_pure (put (ok.mono (by omega)) (by omega) (by omega) (fun hn => ?_))
      rw [hs i' hi (by omega)]
      congr 1
      refine sumV_congr (fun k hk => ?_) _ (Nat.le_refl _)
      have ha := hat.ahead k hk
      refine he k.toNat (by omega) (.inr fun hrk => hn (.step hrk hi (by rw [Int.toNat_of_nonneg ha.1]; exact hk) ?_))
      intro hm
      rw [List.contains_iff_mem.2 hm] at hf
      cases hf
  · rintro ⟨i', u, x, L⟩ ⟨rfl, ok, hL, hb, he⟩
    dsimp only at ok hL hb he ⊢
    simp only [zaJ]
    exact M.o_f (by simp) (M.o_pure ⟨hL, fun j hj h => he j hj (.inr h)⟩)
theorem zb8 (p q : List UInt8) (which : Int) (w0 : 0 <= which) (w1 : which < 256) : (zbb p q which).Out (fun r => r = true) := by
  unfold zbb
  have s0 : SOk 0 0 0 := ⟨Int.le_refl _, Int.le_refl _, Int.le_refl _, by omega⟩
  refine M.o_bindE M.i_pure (M.o_bindE M.i_pure (M.o_bind (made_out s0 (by omega) (by omega) (by omega)) ?_))
  rintro ⟨ws, u1, x1⟩ ⟨hW, ok1⟩
  dsimp only at hW ok1 ⊢
  have hB := hW.built
  have hO := hB.opened
  have h2 := hW.two
  have h14 := hW.most
  refine M.o_bind (noted_out ok1 (by omega) (by omega)) ?_
  rintro ⟨l, u2, x2⟩ ⟨⟨l6, l7, hl, hN⟩, ok2⟩
  dsimp only at hl hN ok2 ⊢
  have hG : NG ws l := by rw [hl]; exact hN.ng (by omega)
  have hF : Full ws l := by rw [hl]; exact hN.full
  have hk := val_known hB hG hF
  have hVl := valL_len ws l
  refine M.o_bindE M.i_pure ?_
  rw [hG.err hO, hG.vals hO]
  dsimp only
  have hm0 : (0 : Int) < min 4 (ws.length : Int) := by omega
  have e0 := Int.emod_nonneg which (Int.ne_of_gt hm0)
  have e1 := Int.emod_lt_of_pos which hm0
  obtain ⟨t, ht⟩ := Int.eq_ofNat_of_zero_le (show 0 <= ((ws.length : Int) - 1) - (which % (min 4 (ws.length : Int))) from by omega)
  have htl : t < ws.length := by omega
  refine M.o_f (by rw [hVl]; simp) (M.o_grd (gA2 w0 w1) (M.o_grd (gA2 w0 hm0) (M.o_grd (gA2 (by omega) (by omega)) ?_)))
  refine M.o_bind (revised_src s0 (by omega) (by omega) ht) ?_
  rintro ⟨u3, x3, l3, rev⟩ ⟨ok3, hR⟩
  dsimp only at ok3 hR ⊢
  have hrng : ∀ x ∈ rev, 0 <= x /\ x < (ws.length : Int) := fun x hx => ⟨(hR.src x hx).1, (hR.src x hx).2.1⟩
  have hA : askedE ws rev = 0 := by rw [asked_list hO]; exact listed_of hrng hR.pair
  have hn : (t : Int) ∉ rev := fun h => (hR.src _ h).2.2.1 rfl
  have hcf := containsFunc_ends (s := rev) (f := fun x => zbc x ws (t : Int)) (p := fun r => (ws.getD t default).of.contains r) (fun x _ => M.i_grd (gA2 (by omega) (by omega)) (by rw [Int.toNat_natCast]; exact M.i_pure))
  simp only [ht]
  cases hd : rev.any (fun r => (ws.getD t default).of.contains r) with
  | true =>
    rw [hd] at hcf
    obtain ⟨f1, f2⟩ := freeze_direct hA htl hn hd
    exact M.o_bindE f1 (M.o_bindE f2 (M.o_bindE hcf (M.o_f rfl (M.o_t rfl (M.o_bindE awake_ends (M.o_pure rfl))))))
  | false =>
    rw [hd] at hcf
    obtain ⟨H, _⟩ := full_out hA htl hn hd
    refine M.o_bind (freeze_out hA htl hn hd) ?_
    rintro ⟨F, e⟩ ⟨he, hFz, c1, hc1, hv1⟩
    dsimp only at he hFz hv1 ⊢
    subst he
    refine M.o_bind (lines_res hA htl hn hd) ?_
    rintro ⟨ls, e⟩ ⟨he, hAp, c2, hc2, hv2⟩
    dsimp only at he hAp hv2 ⊢
    subst he
    have hlen : ls.length = F.length := by
      have := FullL.uniq H hc1 hc2
      omega
    have hFr := hFz.rng
    have hFl := nodup_bound ws.length F (asc_nodup hFz.asc) (fun x hx => ⟨(hFr x hx).1, (hFr x hx).2.1⟩)
    refine M.o_bindE hcf (M.o_f rfl (M.o_f rfl (M.o_bind (keeps_out hA htl hn hFz.listed (fun x hx => (hFr x hx).2.2)) ?_)))
    rintro ⟨b, e⟩ ⟨he, hb⟩
    dsimp only at he hb ⊢
    subst he
    obtain rfl := hb.2 hFz.keep
    have hll : ∀ m ∈ ls, m.length <= 1000000 := fun m hm => by
      have h1 := hAp.each m hm
      have := nodup_bound ws.length m (by
        rw [List.Nodup, List.pairwise_iff_getElem]
        intro i j hi hj hij e
        have := line_pos hO h1.rng h1.line i j hij hj
        rw [getD_el m hi 0, getD_el m hj 0, e] at this
        omega) h1.rng
      omega
    refine M.o_bindE (apart_out hA htl hn hAp (by omega) hll) ?_
    dsimp only
    refine M.o_f (by rw [hlen]; simp) (M.o_bind (frozen_few hA htl hn hAp hFz hlen ht (by omega)) ?_)
    rintro _ rfl
    dsimp only
    refine M.o_grdD (by omega) (M.o_bind (again_out (rev := rev) (F := F) hB ok3 (by omega) hVl hk (fun i hi h0 => val_sum hB hk hi h0)) ?_)
    rintro ⟨l9, L, u5, x5⟩ ⟨hL, heq⟩
    dsimp only at hL heq ⊢
    have hfin := heq t htl hFz.keep
    refine M.o_grd (gA2 (by omega) (by omega)) (M.o_grd (gA2 (by omega) (by omega)) ?_)
    rw [Int.toNat_natCast, hfin]
    simp only [beq_self_eq_true]
    exact M.o_bindE awake_ends (M.o_pure rfl)
theorem zce (p q : List UInt8) (which : UInt8) : (zbb p q (which.toNat : Int)).Ends true := by
  have hw := which.toNat_lt
  obtain ⟨r, h, rfl⟩ := zb8 p q (which.toNat : Int) (by omega) (by omega)
  exact h
end Go.Proofs.Ytndobgodeicloaa
