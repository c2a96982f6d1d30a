/- Part 5 of the texts on which the proof rests. Conditions: none. -/
import Derived.Shelf.Sort.WalkAIn
import Derived.Shelf.Sort.So_math_bits_LenIn
import Derived.Sort.EveryDepth
import Derived.Sort.LotA
import Derived.Test.YtndobgodeicloaaZN4
set_option linter.unusedVariables false
set_option linter.unusedSimpArgs false
set_option linter.unusedSectionVars false
namespace Go.Nm
variable {ws : List Work} {rev : List Int} {t : Nat} {c : Nat -> Nat -> Int}
/-- How many lines begin with a work. -/
def wentB (rev : List Int) (t : Nat) (c : Nat -> Nat -> Int) (k i : Nat) : Bool := innB rev (t : Int) (i : Int) && decide (0 < c (2 * i) (2 * k + 1))
def cntW (ws : List Work) (rev : List Int) (t : Nat) (c : Nat -> Nat -> Int) (k n : Nat) : Int := sumN (fun i => if wentB rev t c k i then 1 else 0) n
theorem val_lines (H : LnHyp ws rev t) (h : Lanes ws rev t c) : vaL ws rev t c = sumN (fun k => if rev.contains (k : Int) then cntW ws rev t c k ws.length else 0) ws.length := by
  have key := h.cut (S := srcB rev) (by have := H.tl; omega) (by unfold srcB; rw [show decide ((2 * t) % 2 = 1) = false from by simp]; rfl) (fun v _ hs => hs)
  show flowV (2 * ws.length) (2 * t) (C0 ws rev t ws.length) c = _
  rw [key, sumN_two]
  refine sumN_congr fun k hk => ?_
  have e0 : sumN (fun v => if srcB rev (2 * k) && !srcB rev v then C0 ws rev t ws.length (2 * k) v - c (2 * k) v else 0) (2 * ws.length) = 0 := by
    refine sumN_zero' fun v _ => ?_
    rw [show srcB rev (2 * k) = false from by unfold srcB; rw [show decide ((2 * k) % 2 = 1) = false from by simp]; rfl]
    rfl
  rw [e0, Int.zero_add]
  have es : srcB rev (2 * k + 1) = rev.contains (k : Int) := by
    unfold srcB
    rw [show decide ((2 * k + 1) % 2 = 1) = true from by simp, show (2 * k + 1) / 2 = k from by omega, Bool.true_and]
  rw [es]
  cases hr : rev.contains (k : Int) with
  | false => exact sumN_zero' fun v _ => rfl
  | true =>
    rw [List.contains_iff_mem] at hr
    rw [if_pos rfl, sumN_two]
    unfold cntW
    refine sumN_congr fun i hi => ?_
    have e1 : (if true && !srcB rev (2 * i + 1) then C0 ws rev t ws.length (2 * k + 1) (2 * i + 1) - c (2 * k + 1) (2 * i + 1) else 0) = 0 := by
      rw [flow_eq0 h (by omega)]
      exact ite_self _
    have e2 : srcB rev (2 * i) = false := by unfold srcB; rw [show decide ((2 * i) % 2 = 1) = false from by simp]; rfl
    rw [e1, e2, Int.add_zero]
    simp only [Bool.not_false, Bool.and_self, if_true]
    by_cases e : i = k
    · subst e
      have hni : innB rev (t : Int) (i : Int) = false := by
        cases hb : innB rev (t : Int) (i : Int) with
        | false => rfl
        | true => exact absurd hr (innB_iff.1 hb).2
      have hit : i ≠ t := fun e => H.nt (e ▸ hr)
      have z1 : C0 ws rev t ws.length (2 * i) (2 * i + 1) = 0 := C0_no (fun h => by
        have := h.2.2.2
        rw [show 2 * i / 2 = i from by omega, hni] at this
        cases this) (fun h => by have := h.1; omega)
      have z2 : C0 ws rev t ws.length (2 * i + 1) (2 * i) = 0 := C0_no (fun h => by have := h.1; omega) (fun h => by
        have := h.2.2.2.2.2
        rw [show 2 * i / 2 = i from by omega, hni] at this
        rcases this with h | h
        · exact hit h
        · cases h)
      have h1 := h.skew (2 * i) (2 * i + 1)
      have h2 := h.nn (2 * i) (2 * i + 1)
      have h3 := h.nn (2 * i + 1) (2 * i)
      unfold wentB
      rw [hni, z2]
      simp only [Bool.false_and, Bool.false_eq_true, if_false]
      omega
    · rw [Lanes.back h e]
      have h2 := h.nn (2 * i) (2 * k + 1)
      unfold wentB
      by_cases hp : 0 < c (2 * i) (2 * k + 1)
      · have hx : nx c k i := ⟨hp, e⟩
        obtain ⟨m, _, _, hin⟩ := nx_big h hx
        rcases hin with rfl | hin
        · exact absurd m (H.dir _ hr)
        · rw [hin, decide_eq_true hp, (nx_in h hi hk hin hx).1]
          rfl
      · rw [decide_eq_false hp, Bool.and_false]
        simp only [Bool.false_eq_true, if_false]
        omega
theorem sumN_rev {h : Nat -> Int} {n : Nat} : ∀ (m : Nat), m <= rev.length -> rev.Nodup -> (∀ r ∈ rev, 0 <= r /\ r < (n : Int)) -> sumN (fun k => if (rev.take m).contains (k : Int) then h k else 0) n = sumN (fun j => h (rev.getD j 0).toNat) m
  | 0, _, _, _ => by simp only [List.take_zero, sumN]; exact sumN_zero' fun i _ => by simp
  | m + 1, hm, hn, hr => by
    have ih := sumN_rev (h := h) (n := n) m (by omega) hn hr
    have hx := hr _ (getD_memN rev (by omega : (m : Int) < _) 0)
    have hno : rev.getD m 0 ∉ rev.take m := by
      intro hc
      rw [← List.take_append_drop m rev, List.nodup_append] at hn
      refine hn.2.2 _ hc _ ?_ rfl
      rw [List.mem_iff_getElem]
      refine ⟨0, by rw [List.length_drop]; omega, ?_⟩
      rw [List.getElem_drop, getD_el rev (by omega) 0]
      simp
    simp only [sumN]
    rw [← ih, show h (rev.getD m 0).toNat = sumN (fun k => if k = (rev.getD m 0).toNat then h k else 0) n from by rw [sumN_one (k := (rev.getD m 0).toNat) (fun i _ hne => if_neg hne), if_pos (by omega), if_pos rfl], ← sumN_add]
    refine sumN_congr fun k _ => ?_
    rw [take_succ_getD rev (by omega) 0]
    by_cases e : k = (rev.getD m 0).toNat
    · have e2 : (k : Int) = rev.getD m 0 := by omega
      rw [if_pos e, e2]
      have c1 : (rev.take m).contains (rev.getD m 0) = false := by
        cases hc : (rev.take m).contains (rev.getD m 0) with
        | false => rfl
        | true => exact absurd (List.contains_iff_mem.1 hc) hno
      have c2 : (rev.take m ++ [rev.getD m 0]).contains (rev.getD m 0) = true := by rw [List.contains_iff_mem]; simp
      rw [c1, c2]
      simp
    · rw [if_neg e, Int.add_zero]
      have : (rev.take m ++ [rev.getD m 0]).contains (k : Int) = (rev.take m).contains (k : Int) := by
        rw [Bool.eq_iff_iff, List.contains_iff_mem, List.contains_iff_mem, List.mem_append, List.mem_singleton]
        constructor
        · rintro (h | h)
          · exact h
          · omega
        · exact .inl
      rw [this]
/-- All lines that are full let as many go. -/
theorem FullL.cut (hF : FullL ws rev t c) : ∃ S, Cut ws rev t c S := by
  classical
  refine ⟨fun u => decide (∃ r, r ∈ rev /\ ∃ S, ShutN (2 * ws.length) c S /\ S (2 * t) = false /\ S (2 * r.toNat + 1) = true /\ S u = true), fun u v hu hv h1 h2 => ?_, ?_, fun r hr => ?_⟩
  · have h1 := of_decide_eq_true h1
    obtain ⟨r, hr, S, a, b, d, e⟩ := h1
    exact decide_eq_true ⟨r, hr, S, a, b, d, a u v hu hv e h2⟩
  · refine decide_eq_false ?_
    rintro ⟨r, hr, S, a, b, d, e⟩
    rw [b] at e
    cases e
  · obtain ⟨S, a, b, d⟩ := hF.shut r hr
    exact decide_eq_true ⟨r, hr, S, a, b, d, d⟩
theorem FullL.uniq (H : LnHyp ws rev t) {c1 c2 : Nat -> Nat -> Int} (h1 : FullL ws rev t c1) (h2 : FullL ws rev t c2) : vaL ws rev t c1 = vaL ws rev t c2 := by
  have key : ∀ {c1 c2 : Nat -> Nat -> Int}, FullL ws rev t c1 -> FullL ws rev t c2 -> vaL ws rev t c1 <= vaL ws rev t c2 := by
    intro c1 c2 h1 h2
    obtain ⟨S, hS⟩ := h2.cut
    have hsrc : ∀ v, v < 2 * ws.length -> srcB rev v = true -> S v = true := fun v _ hs => by
      have := srcB_iff.1 hs
      have h2 := hS.src _ this.2
      rw [Int.toNat_natCast] at h2
      rwa [show 2 * (v / 2) + 1 = v from by omega] at h2
    have a := h1.flow.le (S := S) (by have := H.tl; omega) hS.no hsrc
    have b := h2.flow.full (S := S) (by have := H.tl; omega) hS.no hsrc (fun u v hu hv h3 h4 => by
      have hn := h2.flow.nn u v
      by_cases e : 0 < c2 u v
      · rw [hS.shut u v hu hv h3 e] at h4; cases h4
      · omega)
    exact Int.le_trans a (Int.le_of_eq b.symm)
  exact Int.le_antisymm (key h1 h2) (key h2 h1)
/-- A line on its way. -/
structure OnWay (ws : List Work) (rev : List Int) (t : Nat) (c : Nat -> Nat -> Int) (r i : Int) (l : List Int) (s : Int) : Prop where
  chn : Chn c (l ++ [s])
  one : 1 <= l.length
  rng : ∀ x ∈ l ++ [s], 0 <= x /\ x < (ws.length : Int)
  fst : (l ++ [s]).getD 0 0 = r
  snd : (l ++ [s]).getD 1 0 = i
  mid : ∀ j, 1 <= j -> j < l.length -> innB rev (t : Int) (l.getD j 0) = true
  end_ : s = (t : Int) ∨ (innB rev (t : Int) s = true /\ c (2 * s.toNat) (2 * s.toNat + 1) = 0)
  len : l.length <= posO ws s + 1
theorem chn_snoc {l : List Int} {s k : Int} (h : Chn c (l ++ [s])) (hx : nx c s.toNat k.toNat) : Chn c ((l ++ [s]) ++ [k]) := by
  intro j hj
  simp only [List.length_append, List.length_cons, List.length_nil] at hj
  by_cases e : j + 1 < (l ++ [s]).length
  · rw [clL (by omega : j < (l ++ [s]).length), clL e]
    exact h j e
  · simp only [List.length_append, List.length_cons, List.length_nil] at e
    obtain rfl : j = l.length := by omega
    rw [clL (by simp : l.length < (l ++ [s]).length), clR]
    have : ((l ++ [s]) ++ [k]).getD (l.length + 1) 0 = k := by simp
    rw [this]
    exact hx
theorem OnWay.next (hO : openedE ws = 0) (h : Lanes ws rev t c) {r i s : Int} {l : List Int} (hw : OnWay ws rev t c r i l s) {k : Nat} (hx : nx c s.toNat k) : OnWay ws rev t c r i (l ++ [s]) (k : Int) /\ posO ws s < posO ws (k : Int) := by
  have hs := hw.rng s (by simp)
  obtain ⟨b1, b2, b3, b4⟩ := nx_big h hx
  rw [Int.toNat_of_nonneg hs.1] at b1
  have hp := posO_lt (order_all hO (i := (k : Int)) (by omega) (by omega)) (by rw [Int.toNat_natCast]; exact b1)
  have hone := hw.one
  refine ⟨⟨chn_snoc hw.chn (by rw [Int.toNat_natCast]; exact hx), by simp, fun x hx => ?_, ?_, ?_, fun j h1 h2 => ?_, ?_, ?_⟩, hp⟩
  · rcases List.mem_append.1 hx with hx | hx
    · exact hw.rng x hx
    · rw [List.mem_singleton.1 hx]; omega
  · rw [clL (by simp : 0 < (l ++ [s]).length)]; exact hw.fst
  · rw [clL (by simp; omega : 1 < (l ++ [s]).length)]; exact hw.snd
  · simp only [List.length_append, List.length_cons, List.length_nil] at h2
    by_cases e : j < l.length
    · rw [clL e]; exact hw.mid j h1 e
    · obtain rfl : j = l.length := by omega
      rw [clR]
      rcases hw.end_ with h3 | h3
      · exfalso; exact b3 (by omega)
      · exact h3.1
  · rcases b4 with b4 | b4
    · exact .inl (by omega)
    · refine .inr ⟨b4, ?_⟩
      rw [Int.toNat_natCast]
      exact (nx_in h b2 (by omega) b4 hx).2
  · have := hw.len
    simp only [List.length_append, List.length_cons, List.length_nil]
    omega
theorem OnWay.done {r i : Int} {l : List Int} (hw : OnWay ws rev t c r i l (t : Int)) (hr : r ∈ rev) : Went ws rev t c (l ++ [(t : Int)]) :=
  ⟨hw.chn, by have := hw.one; simp only [List.length_append, List.length_cons, List.length_nil]; omega, hw.rng, by rw [hw.fst]; exact hr, fun j h1 h2 => by
    simp only [List.length_append, List.length_cons, List.length_nil] at h2
    rw [clL (by omega : j < l.length)]
    exact hw.mid j h1 (by omega)⟩
end Go.Nm
namespace Go.Proofs.Ytndobgodeicloaa
open Go Go.Nm
variable {ws : List Work} {rev : List Int} {t : Nat}
theorem upto_get {n j : Nat} (h : j < n) : (upto n).getD j 0 = (j : Int) := by
  unfold upto
  rw [getD_el _ (by simpa using h) 0]
  simp
theorem upto_len (n : Nat) : (upto n).length = n := by simp [upto]
theorem lines_all (hn : ws.length <= 1000) : (M.iter (zai ws) (List.replicate (ws.length) (0 : Int), 0)).Ends (upto ws.length, upto ws.length) := by
  have h := M.i_for (body := zai ws) (r := (upto ws.length, upto ws.length)) (fun i => (upto i ++ List.replicate (ws.length - i) (0 : Int), i)) ws.length (fun i hi => ?_) ?_
  · simp [upto] at h ⊢
    exact h
  · have hl : (upto i ++ List.replicate (ws.length - i) (0 : Int)).length = ws.length := by rw [List.length_append, upto_len, List.length_replicate]; omega
    simp only [zai]
    refine M.i_t (by rw [List.length_replicate]; simpa using hi) (M.grdD (by omega) ?_)
    have : (upto i ++ List.replicate (ws.length - i) (0 : Int)).set i (i : Int) = upto (i + 1) ++ List.replicate (ws.length - (i + 1)) (0 : Int) := by
      rw [List.set_append_right _ _ (by rw [upto_len]; omega), upto_len, Nat.sub_self, upto_succ]
      obtain ⟨d, hd⟩ : ∃ d, ws.length - i = d + 1 := ⟨ws.length - i - 1, by omega⟩
      rw [hd, show ws.length - (i + 1) = d from by omega, List.replicate_succ, List.set_cons_zero, List.append_assoc]
      rfl
    rw [this]
    exact M.i_pure
  · simp only [zai]
    refine M.i_f (by rw [List.length_replicate]; simp) ?_
    rw [Nat.sub_self, List.replicate_zero, List.append_nil]
    exact M.i_pure
theorem went_ends {i k : Nat} (hi : i < 1000) (hk : k < 1000) (mp : Gate -> Option Int) (m : Int -> Option Bool) : (zaw (i : Int) (k : Int) ws rev (t : Int) mp m).Ends (decide (0 < roomN mp (2 * k) (2 * i + 1))) := by
  unfold zaw
  refine M.i_grd (gA2 (by omega) (by omega)) (M.i_grd (gA2 (by omega) (by omega)) (M.i_grd (gA2 (by omega) (by omega)) ?_))
  have : (⟨(2 * (k : Int) : Int), ((2 * (i : Int)) + 1 : Int)⟩ : Gate) = ⟨((2 * k : Nat) : Int), ((2 * i + 1 : Nat) : Int)⟩ := by congr 1
  rw [this]
  exact M.i_pure
theorem line_way_out (H : LnHyp ws rev t) {mp : Gate -> Option Int} (m : Int -> Option Bool) (hF : Lanes ws rev t (roomN mp)) {r i : Int} {s : Int} {l : List Int} (hw : OnWay ws rev t (roomN mp) r i l s) :
    (M.iter (zaE ws rev (t : Int) (t : Int) mp m (upto ws.length)) (l, s)).Out (fun q => q.1 = q.2 /\ OnWay ws rev t (roomN mp) r i q.2 (t : Int)) := by
  have hl := right_len (opened_right H.opn)
  refine M.o_iter (fun (d : Nat) (st : List Int × Int) => d = ws.length - posO ws st.2 /\ OnWay ws rev t (roomN mp) r i st.1 st.2) ?_ _ (l, s) ⟨rfl, hw⟩
  rintro d ⟨l, s⟩ ⟨rfl, hw⟩
  dsimp only at hw ⊢
  have hs := hw.rng s (by simp)
  have hp := posO_le (order_all H.opn hs.1 hs.2)
  have hlen := hw.len
  obtain ⟨sn, rfl⟩ := Int.eq_ofNat_of_zero_le hs.1
  simp only [zaE]
  refine M.o_if (fun hb => ?_) (fun hb => ?_)
  · have hne : (sn : Int) ≠ (t : Int) := by simpa using hb
    have hend := hw.end_.resolve_left hne
    rw [Int.toNat_natCast] at hend
    obtain ⟨k0, hk0, hx0⟩ := nx_out hF (by omega) hend.1 hend.2
    refine M.o_grdD (by simp only [List.length_cons, List.length_nil]; omega) (M.o_bind (indexFunc_out (p := fun x => decide (0 < roomN mp (2 * x.toNat) (2 * sn + 1))) (fun x hx => ?_) ?_) ?_)
    · obtain ⟨j, hj, rfl⟩ := mem_getD hx 0
      rw [upto_len] at hj
      rw [upto_get hj, Int.toNat_natCast]
      unfold zaR
      exact M.i_bind (went_ends (by omega) (by omega) mp m) M.i_pure
    · rw [List.any_eq_true]
      refine ⟨(k0 : Int), ?_, ?_⟩
      · rw [← upto_get hk0]; exact getD_memN _ (by rw [upto_len]; omega) 0
      · rw [Int.toNat_natCast]; exact decide_eq_true hx0.1
    · rintro k ⟨k1, k2, k3⟩
      rw [upto_len] at k2
      rw [upto_get (by omega), Int.toNat_natCast] at k3
      have k3 := of_decide_eq_true k3
      obtain ⟨kn, rfl⟩ := Int.eq_ofNat_of_zero_le k1
      rw [Int.toNat_natCast] at k3
      have hx : nx (roomN mp) ((sn : Int)).toNat kn := ⟨by rw [Int.toNat_natCast]; exact k3, fun e => by
        rw [Int.toNat_natCast] at e
        rw [e, hend.2] at k3
        omega⟩
      obtain ⟨h1, h2⟩ := hw.next H.opn hF hx
      exact M.o_pure ⟨_, by dsimp only; omega, rfl, h1⟩
  · have he : (sn : Int) = (t : Int) := by simpa using hb
    rw [he] at hw
    exact M.o_pure ⟨rfl, hw⟩
/-- The lines so far. -/
structure SoFar (ws : List Work) (rev : List Int) (t : Nat) (c : Nat -> Nat -> Int) (s i : Nat) (ls : List (List Int)) : Prop where
  went : ∀ l ∈ ls, Went ws rev t c l /\ l.getD (l.length - 1) 0 = (t : Int)
  old : ∀ l ∈ ls, (∃ j, j < s /\ l.getD 0 0 = rev.getD j 0) ∨ (l.getD 0 0 = rev.getD s 0 /\ l.getD 1 0 < (i : Int))
  two : ls.Pairwise fun a b => ∀ x ∈ midL a, x ∉ midL b
  cnt : (ls.length : Int) = sumN (fun j => cntW ws rev t c (rev.getD j 0).toNat ws.length) s + cntW ws rev t c (rev.getD s 0).toNat i
  few : ls.length <= s * 30 + i
theorem nodup_getD {l : List Int} (h : l.Nodup) {i j : Nat} (hi : i < l.length) (hj : j < l.length) (e : l.getD i 0 = l.getD j 0) : i = j := by
  rw [getD_el l hi 0, getD_el l hj 0] at e
  have key := List.pairwise_iff_getElem.1 h
  by_cases h1 : i < j
  · exact absurd e (key i j hi hj h1)
  · by_cases h2 : j < i
    · exact absurd e.symm (key j i hj hi h2)
    · omega
theorem SoFar.put {c : Nat -> Nat -> Int} (hF : Lanes ws rev t c) (hn : rev.Nodup) {s i : Nat} {ls : List (List Int)} (hs : s < rev.length) (h : SoFar ws rev t c s i ls) {l : List Int} (hw : OnWay ws rev t c (rev.getD s 0) (i : Int) l (t : Int)) (hb : wentB rev t c (rev.getD s 0).toNat i = true) :
    SoFar ws rev t c s (i + 1) (ls ++ [l ++ [(t : Int)]]) := by
  have hrm := getD_memN rev (by omega : (s : Int) < _) 0
  have hW := hw.done hrm
  refine ⟨fun m hm => ?_, fun m hm => ?_, ?_, ?_, ?_⟩
  · rcases List.mem_append.1 hm with hm | hm
    · exact h.went m hm
    · rw [List.mem_singleton.1 hm]
      refine ⟨hW, ?_⟩
      rw [show (l ++ [(t : Int)]).length - 1 = l.length from by simp]
      exact clR
  · rcases List.mem_append.1 hm with hm | hm
    · rcases h.old m hm with h1 | h1
      · exact .inl h1
      · exact .inr ⟨h1.1, by have := h1.2; omega⟩
    · rw [List.mem_singleton.1 hm]
      exact .inr ⟨hw.fst, by rw [hw.snd]; omega⟩
  · rw [List.pairwise_append]
    refine ⟨h.two, List.pairwise_singleton _ _, fun a ha b hb x hx hy => ?_⟩
    rw [List.mem_singleton.1 hb] at hy
    obtain ⟨j, j1, j2, rfl⟩ := midL_mem.1 hx
    obtain ⟨k, k1, k2, e⟩ := midL_mem.1 hy
    have := went_same hF (h.went a ha).1 hW j k j1 k1 j2 k2 e.symm
    rw [hw.fst, hw.snd] at this
    rcases h.old a ha with ⟨q, q1, q2⟩ | ⟨_, q2⟩
    · rw [q2] at this
      have := nodup_getD hn (by omega) hs this.1
      omega
    · omega
  · rw [List.length_append]
    have := h.cnt
    have e : cntW ws rev t c (rev.getD s 0).toNat (i + 1) = cntW ws rev t c (rev.getD s 0).toNat i + 1 := by
      unfold cntW
      simp only [sumN]
      rw [hb]
      rfl
    simp only [List.length_cons, List.length_nil]
    omega
  · have := h.few
    simp only [List.length_append, List.length_cons, List.length_nil]
    omega
theorem SoFar.skip {c : Nat -> Nat -> Int} {s i : Nat} {ls : List (List Int)} (h : SoFar ws rev t c s i ls) (hb : wentB rev t c (rev.getD s 0).toNat i = false) : SoFar ws rev t c s (i + 1) ls := by
  refine ⟨h.went, fun m hm => ?_, h.two, ?_, by have := h.few; omega⟩
  · rcases h.old m hm with h1 | h1
    · exact .inl h1
    · exact .inr ⟨h1.1, by have := h1.2; omega⟩
  · have := h.cnt
    have e : cntW ws rev t c (rev.getD s 0).toNat (i + 1) = cntW ws rev t c (rev.getD s 0).toNat i := by
      unfold cntW
      simp only [sumN]
      rw [hb]
      simp
    omega
theorem lines_out (H : LnHyp ws rev t) (hn : rev.Nodup) {mp : Gate -> Option Int} (m : Int -> Option Bool) (hF : Lanes ws rev t (roomN mp)) :
    (M.iter (zar ws rev (t : Int) (t : Int) mp m (upto ws.length)) (0, [])).Out (fun q => ApartA ws rev t q.2 /\ (q.2.length : Int) = vaL ws rev t (roomN mp) /\ q.2.length <= 1000) := by
  have hl := right_len (opened_right H.opn)
  have hrl := nodup_bound ws.length rev hn H.rng
  refine M.o_for rev.length (fun s st => st.1 = s /\ SoFar ws rev t (roomN mp) s 0 st.2) ?_ ?_ (s := (0, [])) ⟨rfl, fun l h => by simp at h, fun l h => by simp at h, List.Pairwise.nil, rfl, Nat.zero_le _⟩
  · rintro s ⟨s', ls⟩ hs ⟨rfl, hS⟩
    dsimp only at hs hS ⊢
    have hrm := getD_memN rev (by omega : (s' : Int) < _) 0
    have hr := H.rng _ hrm
    simp only [zar]
    refine M.o_t (by simpa using hs) (M.o_grdD (by omega) (M.o_bind (P := fun q => SoFar ws rev t (roomN mp) s' ws.length q.2) ?_ ?_))
    · refine M.o_for ws.length (fun i st => st.1 = i /\ SoFar ws rev t (roomN mp) s' i st.2) ?_ ?_ (s := (0, ls)) ⟨rfl, hS⟩
      · rintro i ⟨i', ls⟩ hi ⟨rfl, hS⟩
        dsimp only at hi hS ⊢
        have hfew := hS.few
        have hin : (zaf ws rev (t : Int) mp m (i' : Int)).Ends (innB rev (t : Int) (i' : Int)) := M.i_pure
        have hwe := went_ends (ws := ws) (rev := rev) (t := t) (i := (rev.getD s' 0).toNat) (k := i') (by omega) (by omega) mp m
        rw [Int.toNat_of_nonneg hr.1] at hwe
        have hop : (M.opt (!(!innB rev (t : Int) (i' : Int))) (zaw (rev.getD s' 0) (i' : Int) ws rev (t : Int) mp m) false).Ends ((!(!innB rev (t : Int) (i' : Int))) && decide (0 < roomN mp (2 * i') (2 * (rev.getD s' 0).toNat + 1))) := by
          refine M.i_opt (fun h => ?_) (fun h => ?_)
          · rw [h, Bool.true_and]; exact hwe
          · rw [h]; rfl
        simp only [zaB]
        rw [upto_len, upto_get hi]
        refine M.o_t (by simpa using hi) (M.o_grdD (by omega) (M.o_bindE hin (M.o_bindE hop (M.o_if (fun hb => ?_) (fun hb => ?_)))))
        · refine M.o_pure ⟨rfl, hS.skip ?_⟩
          unfold wentB
          cases h1 : innB rev (t : Int) (i' : Int) with
          | false => rfl
          | true => rw [h1] at hb; simpa using hb
        · have hb' : wentB rev t (roomN mp) (rev.getD s' 0).toNat i' = true := by
            unfold wentB
            cases h1 : innB rev (t : Int) (i' : Int) with
            | false => rw [h1] at hb; simp at hb
            | true => rw [h1] at hb; simpa using hb
          have hb2 := hb'
          unfold wentB at hb2
          simp only [Bool.and_eq_true, decide_eq_true_eq] at hb2
          have hne : (i' : Int) ≠ rev.getD s' 0 := fun e => (innB_iff.1 hb2.1).2 (by rw [e]; exact hrm)
          have hx : nx (roomN mp) (rev.getD s' 0).toNat i' := ⟨hb2.2, by omega⟩
          have hw0 : OnWay ws rev t (roomN mp) (rev.getD s' 0) (i' : Int) [rev.getD s' 0] (i' : Int) := by
            refine ⟨fun j hj => ?_, by simp, fun x hx => ?_, rfl, rfl, fun j h1 h2 => by simp at h2; omega, .inr ⟨hb2.1, ?_⟩, by simp⟩
            · simp only [List.length_append, List.length_cons, List.length_nil] at hj
              obtain rfl : j = 0 := by omega
              exact hx
            · simp only [List.cons_append, List.nil_append, List.mem_cons, List.not_mem_nil, or_false] at hx
              rcases hx with rfl | rfl
              · exact hr
              · omega
            · rw [Int.toNat_natCast]
              exact (nx_in hF hi (by omega) hb2.1 hx).2
          refine M.o_bind (line_way_out H m hF hw0) ?_
          rintro ⟨l5, l6⟩ ⟨_, hw⟩
          dsimp only at hw ⊢
          have hwl := hw.len
          have hwp := posO_le (order_all H.opn (i := (t : Int)) (by omega) (by have := H.tl; omega))
          exact M.o_grdD (by simp only [List.length_cons, List.length_nil]; omega) (M.o_grdD (by simp only [List.length_cons, List.length_nil]; omega) (M.o_pure ⟨rfl, hS.put hF hn hs hw hb'⟩))
      · rintro ⟨i', ls⟩ ⟨rfl, hS⟩
        dsimp only at hS ⊢
        simp only [zaB]
        exact M.o_f (by rw [upto_len]; simp) (M.o_pure hS)
    · rintro ⟨l8, l11⟩ hS
      dsimp only at hS ⊢
      refine M.o_pure ⟨rfl, hS.went, fun l hl => .inl ?_, hS.two, ?_, by have := hS.few; dsimp only; omega⟩
      · rcases hS.old l hl with ⟨j, h1, h2⟩ | ⟨h1, _⟩
        · exact ⟨j, by omega, h2⟩
        · exact ⟨s', by omega, h1⟩
      · have := hS.cnt
        simp only [sumN]
        rw [this]
        show _ = _ + sumN _ 0
        simp only [sumN]
        omega
  · rintro ⟨s', ls⟩ ⟨rfl, hS⟩
    dsimp only at hS ⊢
    simp only [zar]
    refine M.o_f (by simp) (M.o_pure ⟨⟨fun l hl => ?_, hS.two⟩, ?_, by have := hS.few; dsimp only; omega⟩)
    · obtain ⟨hW, hlast⟩ := hS.went l hl
      exact ⟨hW.two, hW.rng, hW.line hF, hW.head, hlast, hW.mid⟩
    · have := hS.cnt
      rw [this, val_lines H hF]
      have h2 := sumN_rev (rev := rev) (h := fun k => cntW ws rev t (roomN mp) k ws.length) (n := ws.length) rev.length (Nat.le_refl _) hn H.rng
      rw [List.take_length] at h2
      rw [h2]
      show _ + sumN _ 0 = _
      simp only [sumN]
      omega
end Go.Proofs.Ytndobgodeicloaa
namespace Go.Nm
variable {ws : List Work}
/-- A line from one work to another one. -/
structure LineG (ws : List Work) (a b : Int) (l : List Int) : Prop where
  line : lineB ws l = true
  rng : ∀ x ∈ l, 0 <= x /\ x < (ws.length : Int)
  first : ∃ r, l = a :: r
  last : ∃ r, l = r ++ [b]
  len : l.length + posO ws a <= ws.length
theorem LineG.one (hO : openedE ws = 0) {a : Int} (h0 : 0 <= a) (h1 : a < ws.length) : LineG ws a a [a] :=
  ⟨rfl, fun x hx => by rw [List.mem_singleton.1 hx]; exact ⟨h0, h1⟩, ⟨[], rfl⟩, ⟨[], rfl⟩, by have := posO_le (order_all hO h0 h1); simp; omega⟩
theorem LineG.cons {a x b : Int} {l : List Int} (h0 : 0 <= a) (h1 : a < ws.length) (hs : Succ ws a x) (hx : posO ws a < posO ws x) (h : LineG ws x b l) : LineG ws a b ([a] ++ l) := by
  obtain ⟨r, hr⟩ := h.first
  obtain ⟨q, hq⟩ := h.last
  refine ⟨?_, fun y hy => ?_, ⟨l, rfl⟩, ⟨a :: q, by rw [hq]; rfl⟩, ?_⟩
  · have := h.line
    rw [hr] at this ⊢
    show ((ws.getD x.toNat default).of.contains a && lineB ws (x :: r)) = true
    rw [this, Bool.and_true, List.contains_iff_mem]
    exact hs.2.2
  · rcases List.mem_append.1 hy with hy | hy
    · rw [List.mem_singleton.1 hy]; exact ⟨h0, h1⟩
    · exact h.rng y hy
  · have := h.len
    simp only [List.length_append, List.length_cons, List.length_nil]
    omega
end Go.Nm
namespace Go.Proofs.Ytndobgodeicloaa
open Go Go.Nm
variable {ws : List Work}
end Go.Proofs.Ytndobgodeicloaa
namespace Go.Nm
open Go
end Go.Nm
section
set_option maxRecDepth 100000
set_option maxHeartbeats 16000000
namespace Go.Proofs.Ytndobgodeicloaa
open Go Go.Nm
end Go.Proofs.Ytndobgodeicloaa
end
namespace Go.Nm
variable {ws : List Work} {rev F : List Int} {t : Nat}
/-- One step on, to a work that is not frozen. -/
def SuccF (ws : List Work) (F : List Int) (x y : Int) : Prop := Succ ws x y /\ y ∉ F
/-- What a search that finds nothing leaves. -/
structure SrchF (ws : List Work) (F : List Int) (m m' : Int -> Option Bool) (to_ : Int) : Prop where
  up : ∀ x, mt m x -> mt m' x
  cl : ∀ x, mt m' x -> mt m x ∨ ∀ y, SuccF ws F x y -> mt m' y
  no : ¬ mt m to_ -> ¬ mt m' to_
theorem SrchF.refl (m : Int -> Option Bool) (to_ : Int) : SrchF ws F m m to_ := ⟨fun _ h => h, fun _ h => .inl h, fun h => h⟩
theorem SrchF.trans {a b c : Int -> Option Bool} {to_ : Int} (h : SrchF ws F a b to_) (k : SrchF ws F b c to_) : SrchF ws F a c to_ :=
  ⟨fun x hx => k.up x (h.up x hx), fun x hx => by
    rcases k.cl x hx with h1 | h1
    · rcases h.cl x h1 with h2 | h2
      · exact .inl h2
      · exact .inr fun y hy => k.up y (h2 y hy)
    · exact .inr h1, fun hn => k.no (h.no hn)⟩
/-- A way on that no frozen work is on. -/
inductive WayF (ws : List Work) (F : List Int) : Int -> Int -> Prop
  | one (x : Int) : WayF ws F x x
  | cons {x y z : Int} (h : SuccF ws F x y) (w : WayF ws F y z) : WayF ws F x z
theorem WayF.snoc {x y z : Int} (w : WayF ws F x y) (h : SuccF ws F y z) : WayF ws F x z := by
  induction w with
  | one x => exact .cons h (.one _)
  | cons h' _ ih => exact .cons h' (ih h)
theorem WayF.rch {x z : Int} (w : WayF ws F x z) : 0 <= x -> Rch ws rev F x.toNat -> Rch ws rev F z.toNat := by
  induction w with
  | one x => exact fun _ => id
  | @cons x y z h w ih =>
    intro h0 hx
    have hs := h.1
    exact ih hs.1 (.step hx (by have := hs.2.1; have := hs.1; omega) (by rw [Int.toNat_of_nonneg h0]; exact hs.2.2) (by rw [Int.toNat_of_nonneg hs.1]; exact h.2))
theorem asc_pair {l : List Int} (h : AscTo l l.length) : ∀ i j, i < j -> j < l.length -> l.getD i 0 < l.getD j 0 := by
  intro i j hij
  induction j with
  | zero => omega
  | succ j ih =>
    intro hj
    have h1 := h (j + 1) (by omega) hj
    rw [Nat.add_sub_cancel] at h1
    by_cases e : i = j
    · subst e; exact h1
    · have := ih (by omega) (by omega)
      omega
theorem asc_nodup {l : List Int} (h : AscTo l l.length) : l.Nodup := by
  rw [List.Nodup, List.pairwise_iff_getElem]
  intro i j hi hj hij e
  have := asc_pair h i j hij hj
  rw [getD_el l hi 0, getD_el l hj 0, e] at this
  omega
end Go.Nm
namespace Go.Proofs.Ytndobgodeicloaa
open Go Go.Nm
variable {ws : List Work} {rev F : List Int} {t : Nat}
theorem kept_ends (hA : askedE ws rev = 0) (ht : t < ws.length) (hn : (t : Int) ∉ rev) : (zat ws rev (t : Int)).Ends (.inr 0) := by
  unfold zat
  have h1 : inB (t : Int) 0 ((ws.length : Int) - 1) = true := by unfold inB; simp only [Bool.and_eq_true, decide_eq_true_eq]; omega
  have h2 : rev.contains (t : Int) = false := by
    cases e : rev.contains (t : Int) with
    | false => rfl
    | true => exact absurd (List.contains_iff_mem.1 e) hn
  exact M.i_t (by rw [hA]; rfl) (M.i_f (by rw [h1]; rfl) (M.i_f h2 M.i_pure))
/-! ### Apart -/
/-! ### Freeze and Lines -/
theorem full_direct (hA : askedE ws rev = 0) (ht : t < ws.length) (hn : (t : Int) ∉ rev) (hd : rev.any (fun r => (ws.getD t default).of.contains r) = true) : (zag ws rev (t : Int)).Ends (.inl 5) := by
  have hcf := containsFunc_ends (s := rev) (f := fun x => zaH x ws (t : Int)) (p := fun r => (ws.getD t default).of.contains r) (fun x _ => M.i_bind (M.i_grd (gA2 (by omega) (by omega)) (by rw [Int.toNat_natCast]; exact M.i_pure)) M.i_pure)
  rw [hd] at hcf
  unfold zag
  exact M.i_bind (kept_ends hA ht hn) (M.i_f rfl (M.i_bind hcf (M.i_t rfl M.i_pure)))
theorem full_out (hA : askedE ws rev = 0) (ht : t < ws.length) (hn : (t : Int) ∉ rev) (hd : rev.any (fun r => (ws.getD t default).of.contains r) = false) :
    LnHyp ws rev t /\ (zag ws rev (t : Int)).Out (fun r => ∃ mp m, r = .inr ((t : Int), mp, m, 0) /\ FullL ws rev t (roomN mp)) := by
  obtain ⟨hO, hL⟩ := asked_ok hA
  have hr := (listed_rng hL).1
  have H : LnHyp ws rev t := ⟨hO, ht, hr, hn, fun r hr h => by
    have := List.any_eq_false.1 hd r hr
    exact this (List.contains_iff_mem.2 h)⟩
  have hcf := containsFunc_ends (s := rev) (f := fun x => zaH x ws (t : Int)) (p := fun r => (ws.getD t default).of.contains r) (fun x _ => M.i_bind (M.i_grd (gA2 (by omega) (by omega)) (by rw [Int.toNat_natCast]; exact M.i_pure)) M.i_pure)
  rw [hd] at hcf
  refine ⟨H, ?_⟩
  unfold zag
  refine M.o_bindE (kept_ends hA ht hn) (M.o_f rfl (M.o_bindE hcf (M.o_f rfl (M.o_bind (lanes_out H) ?_))))
  rintro ⟨a, mp, m⟩ ⟨h1, h2⟩
  dsimp only at h1 h2 ⊢
  subst h1
  exact M.o_pure ⟨mp, m, rfl, h2⟩
theorem freeze_out (hA : askedE ws rev = 0) (ht : t < ws.length) (hn : (t : Int) ∉ rev) (hd : rev.any (fun r => (ws.getD t default).of.contains r) = false) :
    (zab ws rev (t : Int)).Out (fun r => r.2 = 0 /\ Froz ws rev t r.1 /\ ∃ c, FullL ws rev t c /\ vaL ws rev t c = (r.1.length : Int)) := by
  obtain ⟨H, hf⟩ := full_out hA ht hn hd
  have hl := right_len (opened_right H.opn)
  unfold zab
  refine M.o_bind hf ?_
  rintro r ⟨mp, m, rfl, hF⟩
  dsimp only
  refine M.o_f rfl (M.o_bind (freeze_last H hF) ?_)
  rintro ⟨mp', m'⟩ ⟨rfl, hS⟩
  dsimp only at hS ⊢
  refine M.o_bindE (freeze_list (rev := rev) (t := t) (by omega) _ m') (M.o_pure ⟨rfl, cut_froz H hF.flow hS, _, hF, (cut_count H hF.flow hS).2⟩)
theorem lines_res (hA : askedE ws rev = 0) (ht : t < ws.length) (hn : (t : Int) ∉ rev) (hd : rev.any (fun r => (ws.getD t default).of.contains r) = false) :
    (zaK ws rev (t : Int)).Out (fun r => r.2 = 0 /\ ApartA ws rev t r.1 /\ ∃ c, FullL ws rev t c /\ vaL ws rev t c = (r.1.length : Int)) := by
  obtain ⟨H, hf⟩ := full_out hA ht hn hd
  obtain ⟨hO, hL⟩ := asked_ok hA
  have hl := right_len (opened_right H.opn)
  have hnd : rev.Nodup := asc_nodup (listed_rng hL).2
  unfold zaK
  refine M.o_bind hf ?_
  rintro r ⟨mp, m, rfl, hF⟩
  dsimp only
  refine M.o_f rfl (M.o_grd (gA3 (by omega) (by omega) (by omega)) (M.o_bindE (lines_all (by omega)) (M.o_bind (lines_out H hnd m hF.flow) ?_)))
  rintro ⟨a, ls⟩ ⟨h1, h2, _⟩
  exact M.o_pure ⟨rfl, h1, _, hF, h2.symm⟩
theorem freeze_direct (hA : askedE ws rev = 0) (ht : t < ws.length) (hn : (t : Int) ∉ rev) (hd : rev.any (fun r => (ws.getD t default).of.contains r) = true) : (zab ws rev (t : Int)).Ends ([], 5) /\ (zaK ws rev (t : Int)).Ends ([], 5) := by
  have h := full_direct hA ht hn hd
  exact ⟨M.i_bind h (M.i_t rfl M.i_pure), M.i_bind h (M.i_t rfl M.i_pure)⟩
end Go.Proofs.Ytndobgodeicloaa
namespace Go.Nm
variable {ws ws' : List Work} {nm rv rv' G G' : List Int}
theorem Rnm.rch (h : Rnm ws ws' nm) (hB : Built ws) (hr : ∀ x ∈ rv, 0 <= x /\ x < (ws.length : Int)) (hm : ∀ x, x ∈ rv' ↔ ∃ y ∈ rv, nm.getD y.toNat 0 = x)
    (hG : ∀ i, i < ws.length -> nm.getD i 0 ∈ G' -> (i : Int) ∈ G) {i : Nat} (hR : Rch ws rv G i) : i < ws.length -> Rch ws' rv' G' (nm.getD i 0).toNat := by
  induction hR with
  | @base r hb => intro _; exact .base ((hm _).2 ⟨r, hb, rfl⟩)
  | @step k i _ hi hk hf ih =>
    intro _
    have ha := (hB.at_ i hi).ahead _ hk
    have h1 := h.rng i hi
    have h2 := h.rng k (by omega)
    have hl := h.len
    refine .step (ih (by omega)) (by omega) ?_ (fun hg => hf (hG i hi (by rwa [Int.toNat_of_nonneg h1.1] at hg)))
    rw [h.wk i hi, Int.toNat_of_nonneg h2.1]
    exact List.mem_map.2 ⟨_, hk, by rw [Int.toNat_natCast]⟩
theorem Rnm.rchB (h : Rnm ws ws' nm) (hB : Built ws) (hr : ∀ x ∈ rv, 0 <= x /\ x < (ws.length : Int)) (hm : ∀ x, x ∈ rv' ↔ ∃ y ∈ rv, nm.getD y.toNat 0 = x)
    (hG : ∀ i, i < ws.length -> (i : Int) ∈ G -> nm.getD i 0 ∈ G') {j : Nat} (hR : Rch ws' rv' G' j) : ∀ i, i < ws.length -> nm.getD i 0 = (j : Int) -> Rch ws rv G i := by
  induction hR with
  | @base r' hb =>
    intro i hi e
    obtain ⟨y, hy, rfl⟩ := (hm _).1 hb
    have h1 := hr y hy
    have h2 := h.rng y.toNat (by omega)
    rw [Int.toNat_of_nonneg h2.1] at e
    rw [h.inj i y.toNat hi (by omega) e]
    exact .base hy
  | @step k' j _ hj hk hf ih =>
    intro i hi e
    have e1 := h.wk i hi
    rw [e, Int.toNat_natCast] at e1
    rw [e1] at hk
    obtain ⟨k, hk, ek⟩ := List.mem_map.1 hk
    have ha := (hB.at_ i hi).ahead k hk
    refine .step (ih k.toNat (by omega) ek) hi (by rw [Int.toNat_of_nonneg ha.1]; exact hk) (fun hg => hf (by rw [← e]; exact hG i hi hg))
theorem Rnm.direct (h : Rnm ws ws' nm) (hB : Built ws) (hr : ∀ x ∈ rv, 0 <= x /\ x < (ws.length : Int)) (hm : ∀ x, x ∈ rv' ↔ ∃ y ∈ rv, nm.getD y.toNat 0 = x) {t : Nat} (ht : t < ws.length) :
    rv'.any (fun r => (ws'.getD (nm.getD t 0).toNat default).of.contains r) = rv.any (fun r => (ws.getD t default).of.contains r) := by
  rw [h.wk t ht, Bool.eq_iff_iff, List.any_eq_true, List.any_eq_true]
  constructor
  · rintro ⟨x, hx, hc⟩
    obtain ⟨y, hy, rfl⟩ := (hm _).1 hx
    rw [List.contains_iff_mem] at hc
    obtain ⟨k, hk, e⟩ := List.mem_map.1 hc
    have h1 := hr y hy
    have h2 := (hB.at_ t ht).ahead k hk
    have h3 := h.inj k.toNat y.toNat (by omega) (by omega) e
    exact ⟨y, hy, List.contains_iff_mem.2 (by rw [show y = k from by omega]; exact hk)⟩
  · rintro ⟨y, hy, hc⟩
    rw [List.contains_iff_mem] at hc
    exact ⟨_, (hm _).2 ⟨y, hy, rfl⟩, List.contains_iff_mem.2 (List.mem_map.2 ⟨y, hc, rfl⟩)⟩
end Go.Nm
namespace Go.Proofs.Ytndobgodeicloaa
open Go Go.Nm
variable {ws ws' : List Work} {nm rv rv' : List Int}
theorem freeze_rev (hA : askedE ws rv = 0) {t : Nat} (ht : t < ws.length) (hn : (t : Int) ∈ rv) : (zab ws rv (t : Int)).Ends ([], 8) := by
  have h1 : inB (t : Int) 0 ((ws.length : Int) - 1) = true := by unfold inB; simp only [Bool.and_eq_true, decide_eq_true_eq]; omega
  have hk : (zat ws rv (t : Int)).Ends (.inl 8) := by
    unfold zat
    exact M.i_t (by rw [hA]; rfl) (M.i_f (by rw [h1]; rfl) (M.i_t (List.contains_iff_mem.2 hn) M.i_pure))
  have hf : (zag ws rv (t : Int)).Ends (.inl 8) := by
    unfold zag
    exact M.i_bind hk (M.i_t rfl M.i_pure)
  unfold zab
  exact M.i_bind hf (M.i_t rfl M.i_pure)
/-- As many are frozen as lines are apart. -/
theorem freeze_apart (hA : askedE ws rv = 0) {t : Nat} (ht : t < ws.length) (hn : (t : Int) ∉ rv) (hd : rv.any (fun r => (ws.getD t default).of.contains r) = false) :
    ∃ F ls, (zab ws rv (t : Int)).Ends (F, 0) /\ Froz ws rv t F /\ ApartA ws rv t ls /\ ls.length = F.length := by
  obtain ⟨⟨F, e⟩, h1, h2, hF, c, hc, hv⟩ := freeze_out hA ht hn hd
  obtain ⟨⟨ls, e2⟩, _, _, hL, c2, hc2, hv2⟩ := lines_res hA ht hn hd
  have hu := FullL.uniq (full_out hA ht hn hd).1 hc hc2
  dsimp only at h2 hF hv hL hv2
  subst h2
  exact ⟨F, ls, h1, hF, hL, by omega⟩
theorem freeze_named (h : Rnm ws ws' nm) (hB : Built ws) (hA : askedE ws rv = 0) (hA' : askedE ws' rv' = 0) (hr : ∀ x ∈ rv, 0 <= x /\ x < (ws.length : Int)) (hm : ∀ x, x ∈ rv' ↔ ∃ y ∈ rv, nm.getD y.toNat 0 = x) {t : Nat} (ht : t < ws.length) :
    ∃ F F' e, (zab ws rv (t : Int)).Ends (F, e) /\ (zab ws' rv' (nm.getD t 0)).Ends (F', e) /\ F.length = F'.length := by
  have hl := h.len
  have hc := h.con hr hm t ht
  have hdd := h.direct hB hr hm ht
  have hrt := h.rng t ht
  have hsrt := fun i hi e => h.inj i t hi ht e
  generalize hq : nm.getD t 0 = q at *
  obtain ⟨t', rfl⟩ := Int.eq_ofNat_of_zero_le hrt.1
  rw [Int.toNat_natCast] at hdd
  have ht' : t' < ws'.length := by omega
  by_cases hn : (t : Int) ∈ rv
  · have hn' : (t' : Int) ∈ rv' := by rw [List.contains_iff_mem.2 hn] at hc; exact List.contains_iff_mem.1 hc
    exact ⟨_, _, _, freeze_rev hA ht hn, freeze_rev hA' ht' hn', rfl⟩
  have hn' : (t' : Int) ∉ rv' := fun h' => by rw [List.contains_iff_mem.2 h'] at hc; exact hn (List.contains_iff_mem.1 hc.symm)
  cases hd : rv.any (fun r => (ws.getD t default).of.contains r) with
  | true => exact ⟨_, _, _, (freeze_direct hA ht hn hd).1, (freeze_direct hA' ht' hn' (hdd.trans hd)).1, rfl⟩
  | false =>
    obtain ⟨F, ls, f1, f2, f3, f4⟩ := freeze_apart hA ht hn hd
    obtain ⟨F', ls', g1, g2, g3, g4⟩ := freeze_apart hA' ht' hn' (hdd.trans hd)
    have hcn := h.con hr hm
    have inv : ∃ inv : Int -> Int, ∀ i, i < ws.length -> inv (nm.getD i 0) = (i : Int) := by
      refine ⟨fun x => if hx : ∃ i : Nat, i < ws.length /\ nm.getD i 0 = x then ((Classical.choose hx : Nat) : Int) else 0, fun i hi => ?_⟩
      have hx : ∃ i' : Nat, i' < ws.length /\ nm.getD i' 0 = nm.getD i 0 := ⟨i, hi, rfl⟩
      dsimp only
      rw [dif_pos hx]
      have := Classical.choose_spec hx
      rw [h.inj _ i this.1 hi this.2]
    obtain ⟨inv, hinv⟩ := inv
    have a1 : ls.length <= (F'.map inv).length := by
      refine apart_few (fun x hx => ?_) (fun hR => ?_) f3
      · obtain ⟨y, hy, rfl⟩ := List.mem_map.1 hx
        have hy' := g2.rng y hy
        obtain ⟨i, hi, e⟩ := h.sur y.toNat (by omega)
        rw [Int.toNat_of_nonneg hy'.1] at e
        subst e
        rw [hinv i hi]
        refine ⟨fun e => hy'.2.2.1 ?_, fun hm' => hy'.2.2.2 ?_⟩
        · obtain rfl : i = t := by omega
          exact hq
        · have := hcn i hi
          rw [List.contains_iff_mem.2 hm'] at this
          exact List.contains_iff_mem.1 this
      · have := h.rch hB hr hm (G := F'.map inv) (G' := F') (fun i hi hg => List.mem_map.2 ⟨_, hg, hinv i hi⟩) hR ht
        rw [hq, Int.toNat_natCast] at this
        exact g2.keep this
    have a2 : ls'.length <= (F.map fun x => nm.getD x.toNat 0).length := by
      refine apart_few (fun x hx => ?_) (fun hR => ?_) g3
      · obtain ⟨y, hy, rfl⟩ := List.mem_map.1 hx
        have hy' := f2.rng y hy
        refine ⟨fun e => hy'.2.2.1 ?_, fun hm' => hy'.2.2.2 ?_⟩
        · have := h.inj y.toNat t (by omega) ht (by rw [e, hq])
          omega
        · have := hcn y.toNat (by omega)
          rw [List.contains_iff_mem.2 hm', Int.toNat_of_nonneg hy'.1] at this
          exact List.contains_iff_mem.1 this.symm
      · exact f2.keep (h.rchB hB hr hm (G := F) (fun i hi hg => List.mem_map.2 ⟨_, hg, by rw [Int.toNat_natCast]⟩) hR t ht hq)
    rw [List.length_map] at a1 a2
    exact ⟨F, F', 0, f1, g1, by omega⟩
end Go.Proofs.Ytndobgodeicloaa
namespace Go.Proofs.Ytndobgodeicloaa
open Go Go.Nm
theorem awake_ends : za6.Ends true := ⟨40, by kernel_rfl⟩
end Go.Proofs.Ytndobgodeicloaa
section
set_option maxRecDepth 100000
set_option maxHeartbeats 16000000
namespace Go.Proofs.Ytndobgodeicloaa
open Go Go.Nm
end Go.Proofs.Ytndobgodeicloaa
end
namespace Go.Proofs
open Go.Shelf
def Try.layIns_ren : Go.Shelf.Ren := ⟨fun | 294 => 168 | 216 => 174 | 215 => 198 | n => n, fun | 3 => 3 | 28 => 34 | 4 => 4 | 0 => 0 | n => n, fun | n => n⟩
theorem Try.layIns : Go.Proofs.Lays.n294 Try.prog Try.layIns_ren := {
  mixed := by kernel_rfl
  f215 := Try.func198.trans (congrArg some (by kernel_rfl))
  f216 := Try.func174.trans (congrArg some (by kernel_rfl))
  f294 := Try.func168.trans (congrArg some (by kernel_rfl))
  t0 := Try.underlying0
  a0 := Try.isAgg0
  z0 := Try.sizeOf0
  v0 := Try.zeroValue0
  t3 := Try.underlying3
  a3 := Try.isAgg3
  z3 := Try.sizeOf3
  v3 := Try.zeroValue3
  t4 := Try.underlying4
  a4 := Try.isAgg4
  z4 := Try.sizeOf4
  v4 := Try.zeroValue4
  t28 := Try.underlying34
  a28 := Try.isAgg34
  z28 := Try.sizeOf34
  v28 := Try.zeroValue34 }
def Try.layLen_ren : Go.Shelf.Ren := ⟨fun | 125 => 139 | 128 => 177 | 129 => 178 | n => n, fun | 46 => 205 | 3 => 3 | 51 => 230 | 53 => 232 | 4 => 4 | 5 => 5 | 9 => 9 | n => n, fun | n => n⟩
theorem Try.layLen : Go.Proofs.Lays.n125 Try.prog Try.layLen_ren := {
  mixed := by kernel_rfl
  f125 := Try.func139.trans (congrArg some (by kernel_rfl))
  f128 := Try.func177.trans (congrArg some (by kernel_rfl))
  f129 := Try.func178.trans (congrArg some (by kernel_rfl))
  t3 := Try.underlying3
  a3 := Try.isAgg3
  z3 := Try.sizeOf3
  v3 := Try.zeroValue3
  t4 := Try.underlying4
  a4 := Try.isAgg4
  z4 := Try.sizeOf4
  v4 := Try.zeroValue4
  t5 := Try.underlying5
  a5 := Try.isAgg5
  z5 := Try.sizeOf5
  v5 := Try.zeroValue5
  t9 := Try.underlying9
  a9 := Try.isAgg9
  z9 := Try.sizeOf9
  v9 := Try.zeroValue9
  t46 := Try.underlying205
  a46 := Try.isAgg205
  z46 := Try.sizeOf205
  v46 := Try.zeroValue205
  t51 := Try.underlying230
  a51 := Try.isAgg230
  z51 := Try.sizeOf230
  v51 := Try.zeroValue230
  t53 := Try.underlying232
  a53 := Try.isAgg232
  z53 := Try.sizeOf232
  v53 := Try.zeroValue232 }
end Go.Proofs
namespace Go.Nm
open Go
theorem fat_vat0 (v : Value) (k i : Nat) : fat (vat v k i) 0 = vat v k i := by
  unfold vat
  split
  · simp [fat, Addr.add]
  · rfl
/-- The numbers in order. -/
def sortL (l : List Int) : List Int := (Sort.insertionSort Sort.ltInt l.toArray 0 l.length).toList
theorem sortL_len (l : List Int) : (Sort.insertionSort Sort.ltInt l.toArray 0 l.length).size = l.length := by
  have := (Sort.insertionSort_holds (lt := Sort.ltInt) Sort.swo_ltInt l.toArray 0 l.length (Nat.zero_le _) (by simp)).1.1
  simpa using this
theorem OwnF.row {B : Nat} {e : TypeId} {w : World} {l : List Int} {g cap : Nat} {cur : Array Value} (ho : OwnF B e w (.slice (some ⟨g, 0, none⟩) l.length cap) l) (hg : w.heap[g]? = some (.cells cur e (0, 0)))
    (hcs : l.length <= cap) (hsz : cur.size = cap) (hb : B <= g) (hm : cap <= maxLen) (d : Array Int) (hl : d.size = l.length) (q : Nat) :
    OwnF B e (Sort.putRow (Value.int .i64) (Sort.ahead w q) g 0 d) (.slice (some ⟨g, 0, none⟩) l.length cap) d.toList /\ Grow B (.slice (some ⟨g, 0, none⟩) l.length cap) w (Sort.putRow (Value.int .i64) (Sort.ahead w q) g 0 d) := by
  have hs1 : Elt.sz Int = 1 := rfl
  have h1 : (Sort.putRow (Value.int .i64) (Sort.ahead w q) g 0 d).heap[g]? = some (.cells (Sort.putCells (Value.int .i64) 0 d cur) e (0, 0)) := by
    show (w.heap.modify g _)[g]? = _
    rw [Array.getElem?_modify, if_pos rfl, hg]
    rfl
  have h2 : ∀ k, k ≠ g -> (Sort.putRow (Value.int .i64) (Sort.ahead w q) g 0 d).heap[k]? = w.heap[k]? := by
    intro k hk
    show (w.heap.modify g _)[k]? = _
    rw [Array.getElem?_modify, if_neg (fun h => hk h.symm)]
  refine ⟨⟨by rw [enc_ints]; simp [hs1], .inr ⟨g, cap, _, by simp [hl], hb, h1, by simp [hl]; omega, hm, by simp [hs1, Sort.putCells]; omega, ?_⟩⟩, ⟨rfl, rfl, by simp [Sort.putRow, Sort.mapBlock, Sort.ahead], fun k _ hk => ?_, fun g' hg' => (ho.lt g' hg').1, fun a => by simp⟩⟩
  · rw [enc_ints, hs1]
    apply List.ext_getElem?
    intro i
    rw [List.getElem?_take, List.getElem?_map]
    by_cases hi : i < d.toList.length * 1
    · rw [if_pos hi]
      have hi' : i < d.size := by simpa using hi
      have hc : i < cur.size := by omega
      simp [Sort.putCells, hi', hc]
    · rw [if_neg hi, List.getElem?_eq_none (by simpa using hi)]
      rfl
  · refine h2 k (fun e' => hk ?_)
    rw [e']
    rfl
theorem resE_0 {P : Program} {fn : Func} {σ : Env} {w : World} (h : fn.results = #[]) : resE P fn σ w (.tuple #[]) := by
  intro tmps ht
  simp [results, h]
end Go.Nm
namespace Go.Proofs.Ytndobgodeicloaa
open Go Go.Nm Go.Proofs
theorem len_any {n : Int} (h0 : 0 <= n) (h1 : n <= 9223372036854775807) (w : World) : Ret Try.prog 139 #[.int .u64 n] w fun v w' => (∃ z : Int, v = I z) /\ w' = w := by
  have h := calls_of_every_depth fun D => AnyS.bits_LenIn Try.layLen D n w h0 (by omega)
  refine Calls.mono h ?_
  rintro _ w' ⟨rfl, rfl⟩
  exact ⟨_, rfl, ⟨_, rfl⟩, rfl⟩
theorem ins_any {B : Nat} {e : TypeId} {w : World} {v : Value} {l : List Int} (ho : OwnF B e w v l) (hl : 0 < l.length) (h12 : l.length <= 12) : Ret Try.prog 168 #[v, I 0, I (l.length : Int)] w fun u w' => u = .tuple #[] /\ OwnF B e w' v (sortL l) /\ Grow B v w w' := by
  have ho' := ho
  rcases ho.2 with ⟨rfl, hn⟩ | ⟨g, cap, cur, rfl, hb, hg, hc, hm, hcs, htake⟩
  · omega
  · have hs1 : Elt.sz Int = 1 := rfl
    rw [hs1] at hcs htake
    rw [enc_ints] at htake
    have hcell : ∀ j, j < l.length -> w.cell? ⟨g, 0 + j, none⟩ = some (.int .i64 (l.getD j 0)) := by
      intro j hj
      rw [Nat.zero_add, cell_of_row w g j cur e (0, 0) hg]
      have h1 : (cur.toList.take (l.length * 1))[j]? = (l.map I)[j]? := by rw [htake]
      rw [List.getElem?_take, if_pos (by omega), List.getElem?_map, getD_some l hj 0] at h1
      simpa using h1
    have hH : Sort.Holds (Value.int .i64) w g 0 l.toArray := by
      intro j hj
      have hj' : j < l.length := by simpa using hj
      refine ⟨?_, by simp [World.frozen?, hg]⟩
      rw [hcell j hj']
      simp [List.getD_eq_getElem?_getD, hj']
    have h := calls_of_every_depth fun D => AnyS.insertionSort_intIn Try.layIns D g 0 cap 0 l.length l.toArray w hH (Nat.zero_le _) (by simp) (by simp; omega)
    rw [show l.toArray.size = l.length from by simp] at h
    refine Calls.mono h ?_
    rintro _ w' ⟨rfl, q, rfl⟩
    have hh := OwnF.row ho' hg hc (by omega) hb hm (Sort.insertionSort Sort.ltInt l.toArray 0 l.length) (sortL_len l) q
    exact ⟨_, rfl, rfl, hh.1, hh.2⟩
theorem cfz168 : CF Try.prog 168 := ⟨_, Try.func168, rfl, by decide +kernel⟩
theorem cfz139 : CF Try.prog 139 := ⟨_, Try.func139, rfl, by decide +kernel⟩
theorem cfz138 : CF Try.prog 138 := ⟨_, Try.func138, rfl, by decide +kernel⟩
set_option maxRecDepth 100000 in
set_option maxHeartbeats 4000000 in
theorem pdq_any {B : Nat} {e : TypeId} {w : World} {v : Value} {l : List Int} {z : Int} (ho : OwnF B e w v l) (hl : 0 < l.length) (h12 : l.length <= 12) : Ret Try.prog 138 #[v, I 0, I (l.length : Int), I z] w fun u w' => u = .tuple #[] /\ OwnF B e w' v (sortL l) /\ Grow B v w w' := by
  refine ret_of_W Try.func138 rfl rfl rfl ?_
  refine W.seq ?_
  refine W.region rfl ?_
  refine s_val (x_as (v := .bool true) rfl) ?_
  refine s_nil ?_
  refine W.seq ?_
  refine W.region rfl ?_
  refine s_val (x_as (v := .bool true) rfl) ?_
  refine s_nil ?_
  refine W.block ?_
  refine W.loop (fun m σ W => ∃ (ρ : Env), σ = upds ρ [(0, v), (1, I 0), (2, I (l.length : Int)), (3, I z)] /\ W = w) ?_ ?_
  · exact ⟨0, _, upds_of _ _ ⟨rfl, rfl, rfl, rfl, trivial⟩, rfl⟩
  · rintro m σ w5 ⟨ρ, rfl, rfl⟩
    refine W.block ?_
    refine W.seq ?_
    refine W.region rfl ?_
    refine s_val (x_mv (v := I (l.length : Int)) rfl) ?_
    refine s_val (x_mv (v := I 0) rfl) ?_
    refine s_val (x_ari (a := (l.length : Int)) (b := 0) (r := (l.length : Int) - 0) rfl rfl rfl (by omega)) ?_
    refine s_val (x_as (v := I ((l.length : Int) - 0)) rfl) ?_
    refine s_nil ?_
    refine W.seq ?_
    refine W.seq ?_
    refine W.region rfl ?_
    refine s_val (x_mv (v := I ((l.length : Int) - 0)) rfl) ?_
    refine s_val (x_cmp (kd := .i64) (a := (l.length : Int) - 0) (b := 12) (r := decide ((l.length : Int) - 0 <= 12)) rfl rfl rfl) ?_
    refine s_nil ?_
    refine W.cond (decide ((l.length : Int) - 0 <= 12)) rfl (fun _ => ?_) (fun h => absurd h (by simp; omega))
    refine W.seq ?_
    refine W.region rfl ?_
    refine s_val (x_mv (v := v) rfl) ?_
    refine s_val (x_mv (v := I 0) rfl) ?_
    refine s_val (x_mv (v := I (l.length : Int)) rfl) ?_
    refine s_call cfz168 [v, I 0, I (l.length : Int)] rfl (ins_any ho hl h12) ?_
    rintro _ w' ⟨rfl, h1, h2⟩
    refine s_nil ?_
    refine W.ret ?_
    exact ⟨_, resE_0 rfl, rfl, h1, h2⟩
set_option maxRecDepth 100000 in
theorem sort_any {B : Nat} {e : TypeId} {w : World} {v : Value} {l : List Int} (ho : OwnF B e w v l) (hl : 0 < l.length) (h12 : l.length <= 12) : Ret Try.prog 78 #[v] w fun u w' => u = .tuple #[] /\ OwnF B e w' v (sortL l) /\ Grow B v w w' := by
  refine ret_of_W Try.func78 rfl rfl rfl ?_
  refine W.seq ?_
  refine W.region rfl ?_
  refine s_val (x_mv (v := v) rfl) ?_
  refine s_val (x_lenS Try.underlying34 rfl ho.sl) ?_
  refine s_val (x_as (v := I (l.length : Int)) rfl) ?_
  refine s_nil ?_
  refine W.region rfl ?_
  refine s_val (x_mv (v := v) rfl) ?_
  refine s_val (x_mv (v := I (l.length : Int)) rfl) ?_
  refine s_val (x_mv (v := I (l.length : Int)) rfl) ?_
  refine s_val (x_convU (kd := .i64) (a := (l.length : Int)) Try.underlying3 Try.underlying205 rfl (by omega)) ?_
  refine s_call cfz139 [.int .u64 (l.length : Int)] rfl (len_any (by omega) (by omega) w) ?_
  rintro _ _ ⟨⟨z, rfl⟩, rfl⟩
  refine s_call cfz138 [v, I 0, I (l.length : Int), I z] rfl (pdq_any ho hl h12) ?_
  rintro _ w' ⟨rfl, h1, h2⟩
  refine s_nil ?_
  exact ⟨_, resE_0 rfl, rfl, h1, h2⟩
end Go.Proofs.Ytndobgodeicloaa
section
set_option maxRecDepth 100000
set_option maxHeartbeats 16000000
namespace Go.Proofs.Ytndobgodeicloaa
open Go Go.Nm
def zal (r3 : List Work) (r6 : List Int) (s2 : Nat) : (Nat × (List Int)) -> M ((Nat × (List Int)) ⊕ ((List Int) × (List Int))) := fun (s, l) =>
  bif decide ((s : Int) < (((r3.getD s2 default).of).length : Int)) then (
  M.grd (decide ((s : Int) < (((r3.getD s2 default).of).length : Int))) <|
  M.grd (decide ((0 : Int) <= (((r3.getD s2 default).of).getD s 0)) && decide ((((r3.getD s2 default).of).getD s 0) < (r6.length : Int))) <|
  M.grd (decide ((l.length + ([(r6.getD (Int.toNat (((r3.getD s2 default).of).getD s 0)) 0 : Int)]).length) * 8 <= 140737488355328)) <|
  M.pure (.inl (s + 1, l ++ ([(r6.getD (Int.toNat (((r3.getD s2 default).of).getD s 0)) 0 : Int)]))))
  else (
  M.pure (.inr (l, l)))
def zaz (r3 : List Work) (r6 : List Int) : ((List Work) × Nat) -> M (((List Work) × Nat) ⊕ ((List Work) × (List Work))) := fun (l4, s2) =>
  bif decide ((s2 : Int) < (r3.length : Int)) then (
  M.grd (decide ((s2 : Int) < (r3.length : Int))) <|
  M.bind (M.iter (zal r3 r6 s2) (0, [])) fun (l2, l3) =>
  M.grd (decide ((s2 : Int) < (r6.length : Int))) <|
  M.grd (decide ((0 : Int) <= (r6.getD s2 0)) && decide ((r6.getD s2 0) < (l4.length : Int))) <|
  M.pure (.inl (l4.set (Int.toNat (r6.getD s2 0)) (⟨l3, ((r3.getD s2 default).base : Int), ((r3.getD s2 default).minutes : Int)⟩ : Work), s2 + 1)))
  else (
  M.pure (.inr (l4, l4)))
def zak (r4 : List Note) (r6 : List Int) : ((List Note) × Nat) -> M (((List Note) × Nat) ⊕ ((List Note) × (List Note))) := fun (l7, s3) =>
  bif decide ((s3 : Int) < (r4.length : Int)) then (
  M.grd (decide ((s3 : Int) < (l7.length : Int))) <|
  M.grd (decide ((0 : Int) <= ((l7.getD s3 default).work)) && decide (((l7.getD s3 default).work) < (r6.length : Int))) <|
  M.pure (.inl (l7.set s3 ({ (l7.getD s3 default) with work := r6.getD (Int.toNat ((l7.getD s3 default).work)) 0 }), s3 + 1)))
  else (
  M.pure (.inr (l7, l7)))
def zao (r5 : List Int) (r6 : List Int) : (Nat × (List Int)) -> M ((Nat × (List Int)) ⊕ ((List Int) × (List Int))) := fun (s4, aa) =>
  bif decide ((s4 : Int) < (r5.length : Int)) then (
  M.grd (decide ((s4 : Int) < (r5.length : Int))) <|
  M.grd (decide ((0 : Int) <= (r5.getD s4 0)) && decide ((r5.getD s4 0) < (r6.length : Int))) <|
  M.grd (decide ((aa.length + ([(r6.getD (Int.toNat (r5.getD s4 0)) 0 : Int)]).length) * 8 <= 140737488355328)) <|
  M.pure (.inl (s4 + 1, aa ++ ([(r6.getD (Int.toNat (r5.getD s4 0)) 0 : Int)]))))
  else (
  M.pure (.inr (aa, aa)))
def zax (r3 : List Work) (r6 : List Int) (aa : List Int) (ab : List Int) (ac : List Int) (ae : List Int) : Nat -> M (Nat ⊕ (Unit ⊕ Unit)) := fun s5 =>
  bif decide ((s5 : Int) < (r3.length : Int)) then (
  M.grd (decide ((s5 : Int) < (aa.length : Int))) <|
  M.grd (decide ((s5 : Int) < (r6.length : Int))) <|
  M.grd (decide ((0 : Int) <= (r6.getD s5 0)) && decide ((r6.getD s5 0) < (ab.length : Int))) <|
  M.grd ((!(!((aa.getD s5 0) != (ab.getD (Int.toNat (r6.getD s5 0)) 0))) || (decide ((s5 : Int) < (ac.length : Int))))) <|
  M.grd ((!(!((aa.getD s5 0) != (ab.getD (Int.toNat (r6.getD s5 0)) 0))) || (decide ((0 : Int) <= (r6.getD s5 0)) && decide ((r6.getD s5 0) < (ae.length : Int))))) <|
  bif (((aa.getD s5 0) != (ab.getD (Int.toNat (r6.getD s5 0)) 0)) || ((ac.getD s5 0) != (ae.getD (Int.toNat (r6.getD s5 0)) 0))) then (
  M.pure (.inr (.inl ())))
  else (
  M.pure (.inl (s5 + 1))))
  else (
  M.pure (.inr (.inr ())))
def zaY (numbers : List UInt8) (names : List UInt8) (which : Int) : M Bool :=
  M.bind (za7 numbers) fun (r1, r2) =>
  M.bind (zaP numbers r1 r2 12) fun (r3, q1, q2) =>
  M.bind (zaZ numbers q1 q2 r3) fun (r4, ak, al) =>
  M.bind (zaX numbers ak al r3) fun (r5, ap, aq) =>
  M.bind (za7 names) fun (am, ao) =>
  M.bind (za2 names am ao (r3.length : Int)) fun (r6, ar, au) =>
  M.grd (decide ((0 : Int) <= (r3.length : Int)) && decide ((40 : Int) * (r3.length : Int) <= 281474976710656) && decide ((r3.length : Int) <= (9223372036854775807 : Int))) <|
  M.bind (M.iter (zaz r3 r6) (List.replicate (r3.length) (default : Work), 0)) fun (l5, l6) =>
  M.grd (decide (r4.length <= 1000000)) <|
  M.bind (M.iter (zak r4 r6) (r4, 0)) fun (l8, l9) =>
  M.bind (M.iter (zao r5 r6) (0, [])) fun (av, aa) =>
  M.grd (decide (0 < aa.length) && decide (aa.length <= 12)) <|
  M.bind (M.pure (valuesR r3 r4, valuesE r3 r4)) fun (ab, e) =>
  M.bind (M.pure (valuesR l6 l9, valuesE l6 l9)) fun (ac, e2) =>
  M.bind (M.pure (readyR r3 r5, askedE r3 r5)) fun (ae, e3) =>
  M.bind (M.pure (readyR l6 (sortL aa), askedE l6 (sortL aa))) fun (ag, e4) =>
  bif ((((((((e != 0) || (e2 != 0)) || (e3 != 0)) || (e4 != 0)) || ((ab.length : Int) != (r3.length : Int))) || ((ac.length : Int) != (r3.length : Int))) || ((ae.length : Int) != (r3.length : Int))) || ((ag.length : Int) != (r3.length : Int))) then (
  M.pure false)
  else (
  M.bind (M.iter (zax r3 r6 ab ac ae ag) 0) fun x_ => match x_ with
  | (.inl (_ : Unit)) => (
  M.pure false)
  | (.inr (_ : Unit)) => (
  M.grd (decide ((0 : Int) <= which) && decide (which < (256 : Int))) <|
  M.grd (decide ((0 : Int) <= which) && decide ((0 : Int) < (r3.length : Int))) <|
  M.bind (zab r3 r5 (which % (r3.length : Int))) fun (r0, ah) =>
  M.grd (decide ((0 : Int) <= (which % (r3.length : Int))) && decide ((which % (r3.length : Int)) < (r6.length : Int))) <|
  M.bind (zab l6 (sortL aa) (r6.getD (Int.toNat (which % (r3.length : Int))) 0)) fun (ai, aj) =>
  M.bind (M.opt ((ah == aj) && ((r0.length : Int) == (ai.length : Int))) (za6) false) fun r7 =>
  M.pure (((ah == aj) && ((r0.length : Int) == (ai.length : Int))) && r7)))
theorem zbn {R : List Chunk} {bK : Cells} {ak : Value} {bL : Cells} {ar : Value} (numbers : List UInt8) (names : List UInt8) (which : Int) (bo : Reads R bK) (bp : Sl bK ak numbers) (bM : Reads R bL) (bN : Sl bL ar names) {r : Bool} (hM : (zaY numbers names which).Ends r) (w : World) (H : St w w [] R) : Ret Try.prog 15 #[ak, ar, .int .u8 which] w fun v w' => ∃ (y0 : Bool), y0 = r /\ v = B y0 /\ St w w' [] R := by
 refine ret_of_W Try.func15 rfl rfl rfl ?_
 refine sQ rfl <| sA (B false) rfl <| s_nil <| sQ rfl <| sM ak rfl ?_
 obtain ⟨dL, cf, hM⟩ := M.e_bind hM
 refine s_call cf40 [ak] rfl (zbc numbers (bo.app _) bp cf _ (St.give (T := []) H rfl)) ?_
 rintro vq cg ⟨r1, r2, ah, ci, hvq, aA⟩
 subst ci
 subst vq
 try dsimp only at hM
 replace H : St w cg [cBlk ah [ak, I r1, I r2] 158] R := H.back aA rfl
 clear aA
 refine sA (Pz ah) rfl <| s_nil <| sQ rfl <| sM (Pz ah) rfl ?_
 obtain ⟨dM, cj, hM⟩ := M.e_bind hM
 refine s_call cf41 [Pz ah, I 12] rfl (zbv numbers r1 r2 12 (bo.app _) bp cj _ (St.give (T := []) H rfl)) ?_
 rintro vq ck ⟨r3, q1, q2, aa, ao, ap, cm, hvq, aA, aB⟩
 subst cm
 subst vq
 try dsimp only at hM
 replace H : St w ck [cOwn (α := Raw 2) 60 aa ao, cRo ap, cBlk ah [ak, I q1, I q2] 158] R := H.back aA rfl
 clear aA
 refine sA aa rfl <| s_nil <| sQ rfl <| sM (Pz ah) rfl <| sM aa rfl ?_
 obtain ⟨dN, cn, hM⟩ := M.e_bind hM
 refine s_call cf42 [Pz ah, aa] rfl (zbo numbers q1 q2 r3 (bo.app _) bp (Reads.sup (Reads.of (k := 0) rfl ownLe) (Reads.of (k := 1) rfl roLe)) (rowSl rfl (H.get (k := 0) rfl) (roLe _ (H.get (k := 1) rfl)) aB) cn _ (St.give (L := [cBlk ah [ak, I q1, I q2] 158, cOwn (α := Raw 2) 60 aa ao, cRo ap]) (A := [cBlk ah [ak, I q1, I q2] 158]) (T := [cOwn (α := Raw 2) 60 aa ao, cRo ap]) (H.pick [2, 0, 1] (by decide) rfl) rfl)) ?_
 rintro vq co ⟨r4, bq, br, aj, cp, hvq, aA⟩
 subst cp
 subst vq
 try dsimp only at hM
 replace H : St w co [cOwn (α := Note) 30 aj r4, cBlk ah [ak, I bq, I br] 158, cOwn (α := Raw 2) 60 aa ao, cRo ap] R := H.pick [2, 0, 1] (by decide) rfl |>.back aA rfl
 clear aA
 refine sA aj rfl <| s_nil <| sQ rfl <| sM (Pz ah) rfl <| sM aa rfl ?_
 obtain ⟨dO, cq, hM⟩ := M.e_bind hM
 refine s_call cf47 [Pz ah, aa] rfl (zbs numbers bq br r3 (bo.app _) bp (Reads.sup (Reads.of (k := 1) rfl ownLe) (Reads.of (k := 2) rfl roLe)) (rowSl rfl (H.get (k := 2) rfl) (roLe _ (H.get (k := 3) rfl)) aB) cq _ (St.give (L := [cBlk ah [ak, I bq, I br] 158, cOwn (α := Note) 30 aj r4, cOwn (α := Raw 2) 60 aa ao, cRo ap]) (A := [cBlk ah [ak, I bq, I br] 158]) (T := [cOwn (α := Note) 30 aj r4, cOwn (α := Raw 2) 60 aa ao, cRo ap]) (H.pick [1, 0, 2, 3] (by decide) rfl) rfl)) ?_
 rintro vq cr ⟨r5, au, av, ai, ct, hvq, aA⟩
 subst ct
 subst vq
 try dsimp only at hM
 replace H : St w cr [cOwn (α := Int) 3 ai r5, cBlk ah [ak, I au, I av] 158, cOwn (α := Note) 30 aj r4, cOwn (α := Raw 2) 60 aa ao, cRo ap] R := H.pick [1, 0, 2, 3] (by decide) rfl |>.back aA rfl
 clear aA
 refine sA ai rfl <| s_nil <| sQ rfl <| sM ar rfl ?_
 obtain ⟨dP, cu, hM⟩ := M.e_bind hM
 refine s_call cf40 [ar] rfl (zbc names (bM.app _) bN cu _ (St.give (T := [cOwn (α := Int) 3 ai r5, cBlk ah [ak, I au, I av] 158, cOwn (α := Note) 30 aj r4, cOwn (α := Raw 2) 60 aa ao, cRo ap]) H rfl)) ?_
 rintro vq cv ⟨bO, bP, aw, cw, hvq, aA⟩
 subst cw
 subst vq
 try dsimp only at hM
 replace H : St w cv [cBlk aw [ar, I bO, I bP] 158, cOwn (α := Int) 3 ai r5, cBlk ah [ak, I au, I av] 158, cOwn (α := Note) 30 aj r4, cOwn (α := Raw 2) 60 aa ao, cRo ap] R := H.back aA rfl
 clear aA
 refine sM aa rfl ?_
 have dQ := ((rowSl rfl (H.get (k := 4) rfl) (roLe _ (H.get (k := 5) rfl)) aB)).len_le
 refine s_val (x_lenS T22.und rfl (rowSl rfl (H.get (k := 4) rfl) (roLe _ (H.get (k := 5) rfl)) aB)) ?_
 obtain ⟨dR, cx, hM⟩ := M.e_bind hM
 refine s_call cf46 [Pz aw, I (r3.length : Int)] rfl (zbq names bO bP (r3.length : Int) (bM.app _) bN cx _ (St.give (T := [cOwn (α := Int) 3 ai r5, cBlk ah [ak, I au, I av] 158, cOwn (α := Note) 30 aj r4, cOwn (α := Raw 2) 60 aa ao, cRo ap]) H rfl)) ?_
 rintro vq cy ⟨r6, ax, ay, ac, cz, hvq, aA⟩
 subst cz
 subst vq
 try dsimp only at hM
 replace H : St w cy [cOwn (α := Int) 3 ac r6, cBlk aw [ar, I ax, I ay] 158, cOwn (α := Int) 3 ai r5, cBlk ah [ak, I au, I av] 158, cOwn (α := Note) 30 aj r4, cOwn (α := Raw 2) 60 aa ao, cRo ap] R := H.back aA rfl
 clear aA
 refine sA ac rfl <| s_nil <| sQ rfl <| sM aa rfl ?_
 have dS := ((rowSl rfl (H.get (k := 5) rfl) (roLe _ (H.get (k := 6) rfl)) aB)).len_le
 refine s_val (x_lenS T22.und rfl (rowSl rfl (H.get (k := 5) rfl) (roLe _ (H.get (k := 6) rfl)) aB)) ?_
 obtain ⟨bw, H⟩ := H.emptyE
 obtain ⟨ba, bQ⟩ : ∃ r : Raw 2, r.cs = [.slice none 0 0, I 0, I 0] := ⟨Raw.of [.slice none 0 0, I 0, I 0] rfl rfl, rfl⟩
 obtain ⟨dT, hM⟩ := M.e_gd hM
 have cA : RepR (α := Work) bw.cells (List.replicate (r3.length) ba) (List.replicate (r3.length) (default : Work)) := RepR.rep _ (by rw [bQ]; exact ⟨_, rfl, Sl.nil _⟩)
 refine t_mk (α := Raw 2) T22 ba (by rw [show (Flat.enc ba : List Value) = ba.cs from rfl, bQ]; rfl) (n := (r3.length : Int)) H rfl rfl (by omega) (by omega) (by omega) ?_
 intro bx cB H
 replace H : St w cB [cOwn (α := Raw 2) 60 bx (List.replicate (r3.length) ba), cRo bw, cOwn (α := Int) 3 ac r6, cBlk aw [ar, I ax, I ay] 158, cOwn (α := Int) 3 ai r5, cBlk ah [ak, I au, I av] 158, cOwn (α := Note) 30 aj r4, cOwn (α := Raw 2) 60 aa ao, cRo ap] R := H
 refine sA bx rfl <| s_nil <| W.seq <| sQ rfl <| sM aa rfl ?_
 have dU := ((rowSl rfl (H.get (k := 7) rfl) (roLe _ (H.get (k := 8) rfl)) aB)).len_le
 refine s_val (x_lenS T22.und rfl (rowSl rfl (H.get (k := 7) rfl) (roLe _ (H.get (k := 8) rfl)) aB)) <| sM (I 0) rfl <| s_nil <| W.block ?_
 obtain ⟨cC, bz, cD⟩ := M.e_bind hM
 obtain ⟨bt, bz⟩ := M.e_iter bz
 refine W.loop (fun m σ W => ∃ (l4 : List Work) (s2 : Nat) (am : Value) (aq : List (Raw 2)) (B_l4 : Base) (ρ : Env), σ = upds ρ [(2, .int .u8 which), (8, aa), (9, aj), (10, ai), (11, ac), (12, am), (53, aa), (54, I (r3.length : Int)), (55, I (s2 : Int))] /\ M.iterN (zaz r3 r6) m (l4, s2) = some cC /\ St w W [cOwn (α := Raw 2) 60 am aq, cRo B_l4, cOwn (α := Int) 3 ac r6, cBlk aw [ar, I ax, I ay] 158, cOwn (α := Int) 3 ai r5, cBlk ah [ak, I au, I av] 158, cOwn (α := Note) 30 aj r4, cOwn (α := Raw 2) 60 aa ao, cRo ap] R /\ RepR (α := Work) B_l4.cells aq l4) ?_ ?_
 ·exact ⟨_, List.replicate (r3.length) (default : Work), 0, bx, List.replicate (r3.length) ba, bw, _, upds_of _ _ ⟨rfl, rfl, rfl, rfl, rfl, rfl, rfl, rfl, rfl, trivial⟩, bz, H, cA⟩
 rintro dV σ dW ⟨l4, s2, am, aq, B_l4, ρ, rfl, bR, H, aU⟩
 obtain ⟨cE, cF, dX, hM, bS⟩ := M.e_iterN bR
 simp only [zaz] at hM
 clear bR
 refine sQ rfl <| sC _ _ (decide ((s2 : Int) < (r3.length : Int))) rfl rfl rfl <| s_nil <| W.seq ?_
 refine W.cond (decide ((s2 : Int) < (r3.length : Int))) rfl (fun bi => ?_) (fun bi => ?_)
 ·replace hM := M.e_t hM bi
  simp only [qz1, qz2, qz3, qz4, qz5, qz6, ne_eq, qz7] at bi
  refine W.skip <| W.seq <| W.block <| sQ rfl <| sM (I (s2 : Int)) rfl ?_
  obtain ⟨dY, hM⟩ := M.e_gd hM
  refine s_val (x_ix (v := vat aa 3 (Int.toNat (s2 : Int))) rfl rfl (Sl.ix (α := Work) T22.und T22.size (rowSl rfl (H.get (k := 7) rfl) (roLe _ (H.get (k := 8) rfl)) aB) (by omega) (by omega))) ?_
  obtain ⟨aG, cG, aV⟩ := Work_atA (rowSl rfl (H.get (k := 7) rfl) (roLe _ (H.get (k := 8) rfl)) aB) (i := (s2 : Int)) (by omega) (by omega)
  replace aV : Sl _ aG (r3.getD s2 default).of := aV
  have dZ := aV.len_le
  refine s_val (x_ld (v := .agg #[aG, I ((r3.getD s2 default).base), I ((r3.getD s2 default).minutes)]) rfl (ld_ag Ag60 Sz60 (At.mono cG (Cells.sup_le (ownLe _ (H.get (k := 7) rfl)) (roLe _ (H.get (k := 8) rfl)))))) ?_
  refine t_alloc (cs := [.slice none 0 0, I 0, I 0]) H Al60 rfl ?_
  intro aL d3 H
  refine sA (I (s2 : Int)) rfl ?_
  refine t_st (k := 0) (b := aL) (off := 0) (cs := [.slice none 0 0, I 0, I 0]) (vs := [aG, I ((r3.getD s2 default).base), I ((r3.getD s2 default).minutes)]) (cs' := [aG, I ((r3.getD s2 default).base), I ((r3.getD s2 default).minutes)]) (v := .agg #[aG, I ((r3.getD s2 default).base), I ((r3.getD s2 default).minutes)]) (L' := [cBlk aL [aG, I ((r3.getD s2 default).base), I ((r3.getD s2 default).minutes)] 60, cOwn (α := Raw 2) 60 am aq, cRo B_l4, cOwn (α := Int) 3 ac r6, cBlk aw [ar, I ax, I ay] 158, cOwn (α := Int) 3 ai r5, cBlk ah [ak, I au, I av] 158, cOwn (α := Note) 30 aj r4, cOwn (α := Raw 2) 60 aa ao, cRo ap]) H rfl rfl rfl Sz60 rfl rfl rfl (by simp only [List.all_cons, List.all_nil, Bool.true_and, Bool.and_true, Sl.oc aV]; try rfl) rfl rfl ?_
  intro cH H
  refine s_nil <| sQ rfl <| sA (.slice none 0 0) rfl <| s_nil <| W.seq <| sQ rfl <| s_val (x_fa (v := Pz aL) rfl (fa_blk (o := 0) Fd60_0 Sz34)) <| s_val (x_ld (v := aG) rfl (ldb_sc Sc34 (H.blk (k := 0) rfl) rfl)) ?_
  have d4 := (aV).len_le
  refine s_val (x_lenS T34.und rfl aV) <| sM (I 0) rfl <| s_nil <| W.block ?_
  replace H : St w cH [cOwn (α := Int) 3 (.slice none 0 0) ([]), cBlk aL [aG, I ((r3.getD s2 default).base), I ((r3.getD s2 default).minutes)] 60, cOwn (α := Raw 2) 60 am aq, cRo B_l4, cOwn (α := Int) 3 ac r6, cBlk aw [ar, I ax, I ay] 158, cOwn (α := Int) 3 ai r5, cBlk ah [ak, I au, I av] 158, cOwn (α := Note) 30 aj r4, cOwn (α := Raw 2) 60 aa ao, cRo ap] R := H.nilOwn (α := Int) 3
  obtain ⟨cI, bA, cJ⟩ := M.e_bind hM
  obtain ⟨bt, bA⟩ := M.e_iter bA
  refine W.loop (fun m σ W => ∃ (s : Nat) (l : List Int) (aH : Value) (ρ : Env), σ = upds ρ [(2, .int .u8 which), (8, aa), (9, aj), (10, ai), (11, ac), (12, am), (13, I (s2 : Int)), (14, Pz aL), (15, aH), (53, aa), (54, I (r3.length : Int)), (55, I (s2 : Int)), (61, aG), (62, I (((r3.getD s2 default).of).length : Int)), (63, I (s : Int))] /\ M.iterN (zal r3 r6 s2) m (s, l) = some cI /\ St w W [cOwn (α := Int) 3 aH l, cBlk aL [aG, I ((r3.getD s2 default).base), I ((r3.getD s2 default).minutes)] 60, cOwn (α := Raw 2) 60 am aq, cRo B_l4, cOwn (α := Int) 3 ac r6, cBlk aw [ar, I ax, I ay] 158, cOwn (α := Int) 3 ai r5, cBlk ah [ak, I au, I av] 158, cOwn (α := Note) 30 aj r4, cOwn (α := Raw 2) 60 aa ao, cRo ap] R) ?_ ?_
  ·exact ⟨_, 0, [], (.slice none 0 0), _, upds_of _ _ ⟨rfl, rfl, rfl, rfl, rfl, rfl, rfl, rfl, rfl, rfl, rfl, rfl, rfl, rfl, rfl, trivial⟩, bA, H⟩
  rintro d5 σ d6 ⟨s, l, aH, ρ, rfl, bT, H⟩
  obtain ⟨cK, cL, d7, hM, bU⟩ := M.e_iterN bT
  simp only [zal] at hM
  clear bT
  refine sQ rfl <| sC _ _ (decide ((s : Int) < (((r3.getD s2 default).of).length : Int))) rfl rfl rfl <| s_nil <| W.seq ?_
  refine W.cond (decide ((s : Int) < (((r3.getD s2 default).of).length : Int))) rfl (fun bj => ?_) (fun bj => ?_)
  ·replace hM := M.e_t hM bj
   simp only [qz1, qz2, qz3, qz4, qz5, qz6, ne_eq, qz7] at bj
   refine W.skip <| W.seq <| W.block <| sQ rfl ?_
   obtain ⟨d8, hM⟩ := M.e_gd hM
   refine s_val (x_ix (v := vat aG 1 (Int.toNat (s : Int))) rfl rfl (Sl.ix (α := Int) T34.und T34.size aV (by omega) (by omega))) <| s_val (x_ld (v := I (((r3.getD s2 default).of).getD s 0)) rfl (ld_sc Sc3 (At.mono (Int_at aV (i := (s : Int)) (by omega) (by omega)) (Cells.sup_le (ownLe _ (H.get (k := 9) rfl)) (roLe _ (H.get (k := 10) rfl)))))) <| sA (I (((r3.getD s2 default).of).getD s 0)) rfl <| s_nil <| W.region rfl <| sM aH rfl <| sM ac rfl <| sM (I (((r3.getD s2 default).of).getD s 0)) rfl ?_
   obtain ⟨d9, hM⟩ := M.e_gd hM
   refine s_val (x_ix (v := vat ac 1 (Int.toNat (((r3.getD s2 default).of).getD s 0))) rfl rfl (Sl.ix (α := Int) T34.und T34.size (ownSl (H.get (k := 4) rfl)) (by omega) (by omega))) <| s_val (x_ld (v := I (r6.getD (Int.toNat (((r3.getD s2 default).of).getD s 0)) 0)) rfl (ld_sc Sc3 (At.mono (Int_at (ownSl (H.get (k := 4) rfl)) (i := ((r3.getD s2 default).of).getD s 0) (by omega) (by omega)) (ownLe _ (H.get (k := 4) rfl))))) ?_
   refine t_bs (α := Int) T34 [I (r6.getD (Int.toNat (((r3.getD s2 default).of).getD s 0)) 0)] [(r6.getD (Int.toNat (((r3.getD s2 default).of).getD s 0)) 0 : Int)] H rfl (.cons rfl (Flat.rep_enc _ (r6.getD (Int.toNat (((r3.getD s2 default).of).getD s 0)) 0 : Int)) <| .nil) rfl rfl rfl ?_
   intro bV ec H
   obtain ⟨ed, hM⟩ := M.e_gd hM
   refine t_app (α := Int) (k := 1) (l := l) (l2 := [(r6.getD (Int.toNat (((r3.getD s2 default).of).getD s 0)) 0 : Int)]) (l' := l ++ ([(r6.getD (Int.toNat (((r3.getD s2 default).of).getD s 0)) 0 : Int)])) (vy := bV) T34 rfl H rfl rfl rfl (ownSl (H.get (k := 0) rfl)) (ownLe _ (H.get (k := 0) rfl)) (rfl) (by first | omega | (simp only [List.length_nil] at *; omega)) ?_
   intro bB cM H
   replace H : St w cM [cOwn (α := Int) 3 bV ([(r6.getD (Int.toNat (((r3.getD s2 default).of).getD s 0)) 0 : Int)]), cOwn (α := Int) 3 bB (l ++ ([(r6.getD (Int.toNat (((r3.getD s2 default).of).getD s 0)) 0 : Int)])), cBlk aL [aG, I ((r3.getD s2 default).base), I ((r3.getD s2 default).minutes)] 60, cOwn (α := Raw 2) 60 am aq, cRo B_l4, cOwn (α := Int) 3 ac r6, cBlk aw [ar, I ax, I ay] 158, cOwn (α := Int) 3 ai r5, cBlk ah [ak, I au, I av] 158, cOwn (α := Note) 30 aj r4, cOwn (α := Raw 2) 60 aa ao, cRo ap] R := H
   refine sA bB rfl <| s_nil <| W.region rfl <| sR _ _ ((s : Int) + 1) rfl rfl rfl (by omega) <| sM (I ((s : Int) + 1)) rfl <| s_nil ?_
   exact ⟨cK, cL, s + 1, l ++ ([(r6.getD (Int.toNat (((r3.getD s2 default).of).getD s 0)) 0 : Int)]), bB, _, upds_of _ _ ⟨rfl, rfl, rfl, rfl, rfl, rfl, rfl, rfl, rfl, rfl, rfl, rfl, rfl, rfl, rfl, trivial⟩, M.e_inl hM bU, (H.pick [1, 2, 3, 4, 5, 6, 7, 8, 9, 10, 11] (by decide) rfl)⟩
  replace hM := M.e_f hM bj
  simp only [qz1, qz2, qz3, qz4, qz5, qz6, ne_eq, qz7] at bj
  refine W.exit ?_
  have cN := M.e_inr hM bU
  subst cN
  replace hM := cJ
  try dsimp only at hM
  refine W.draw (fun W => St w W [cBlk aL [aG, I ((r3.getD s2 default).base), I ((r3.getD s2 default).minutes)] 60, cRo B_l4, cOwn (α := Int) 3 ac r6, cBlk aw [ar, I ax, I ay] 158, cOwn (α := Int) 3 ai r5, cBlk ah [ak, I au, I av] 158, cOwn (α := Note) 30 aj r4, cOwn (α := Raw 2) 60 aa ao, cRo ap] R) [(0, true), (1, true), (2, true), (3, true), (4, true), (5, true), (6, true), (7, true), (8, true), (9, true), (10, false), (11, false), (12, false)] mixed (by decide +kernel) rfl ?_
  intro bW ag
  replace H : St w bW [cOwn (α := Int) 3 aH l, cBlk aL [aG, I ((r3.getD s2 default).base), I ((r3.getD s2 default).minutes)] 60, cOwn (α := Raw 2) 60 am aq, cRo B_l4, cOwn (α := Int) 3 ac r6, cBlk aw [ar, I ax, I ay] 158, cOwn (α := Int) 3 ai r5, cBlk ah [ak, I au, I av] 158, cOwn (α := Note) 30 aj r4, cOwn (α := Raw 2) 60 aa ao, cRo ap] R := H.ext ag
  clear ag
  refine ⟨(H.pick [1, 3, 4, 5, 6, 7, 8, 9, 10] (by decide) rfl), ?_⟩
  refine d_q rfl (fun w' H => x_mv (v := am) rfl) ?_
  refine d_q rfl (fun w' H => x_mv (v := ac) rfl) ?_
  refine d_q rfl (fun w' H => x_mv (v := I (s2 : Int)) rfl) ?_
  obtain ⟨ee, hM⟩ := M.e_gd hM
  refine d_q rfl (fun w' H => x_ix (v := vat ac 1 (Int.toNat (s2 : Int))) rfl rfl (Sl.ix (α := Int) T34.und T34.size (ownSl (H.get (k := 2) rfl)) (by omega) (by omega))) ?_
  refine d_q rfl (fun w' H => x_ld (v := I (r6.getD s2 0)) rfl (ld_sc Sc3 (At.mono (Int_at (ownSl (H.get (k := 2) rfl)) (i := (s2 : Int)) (by omega) (by omega)) (ownLe _ (H.get (k := 2) rfl))))) ?_
  refine d_q rfl (fun w' H => x_mv (v := aH) rfl) ?_
  refine d_q rfl (fun w' H => x_fa (v := Oz aL 1) rfl (fa_blk (o := 0) Fd60_1 Sz3)) ?_
  refine d_q rfl (fun w' H => x_ld (v := I ((r3.getD s2 default).base)) rfl (ldb_sc Sc3 (H.blk (k := 0) rfl) rfl)) ?_
  refine d_q rfl (fun w' H => x_fa (v := Oz aL 2) rfl (fa_blk (o := 0) Fd60_2 Sz3)) ?_
  refine d_q rfl (fun w' H => x_ld (v := I ((r3.getD s2 default).minutes)) rfl (ldb_sc Sc3 (H.blk (k := 0) rfl) rfl)) ?_
  refine d_l rfl ?_
  refine s_val (x_bld (ps := [(0, aH), (1, I ((r3.getD s2 default).base)), (2, I ((r3.getD s2 default).minutes))]) (zs := [.slice none 0 0, I 0, I 0]) (L' := [aH, I ((r3.getD s2 default).base), I ((r3.getD s2 default).minutes)]) rfl Try.underlying60 Al60 rfl (Bd60 Try.underlying60) (.cons (cs := [aH]) (Sl.cells (ownSl (H.get (k := 0) rfl))) rfl rfl rfl rfl <| .cons (cs := [I ((r3.getD s2 default).base)]) rfl rfl rfl rfl rfl <| .cons (cs := [I ((r3.getD s2 default).minutes)]) rfl rfl rfl rfl rfl <| .nil)) ?_
  refine s_nil ⟨(H.pick [1, 3, 4, 5, 6, 7, 8, 9, 10] (by decide) rfl), ?_⟩
  refine d_l rfl ?_
  obtain ⟨eg, hM⟩ := M.e_gd hM
  refine s_val (x_ix (v := vat am 3 (Int.toNat (r6.getD s2 0))) rfl rfl (Sl.ix (α := Work) T22.und T22.size (rowSl rfl (H.get (k := 2) rfl) (roLe _ (H.get (k := 3) rfl)) aU) (by omega) (by omega))) ?_
  refine s_nil ⟨(H.pick [1, 3, 4, 5, 6, 7, 8, 9, 10] (by decide) rfl), ?_⟩
  refine d_l rfl ?_
  obtain ⟨bX, H, cO⟩ := H.freezeE (k := 0) rfl
  replace H : St w bW [cRo bX, cBlk aL [aG, I ((r3.getD s2 default).base), I ((r3.getD s2 default).minutes)] 60, cOwn (α := Raw 2) 60 am aq, cRo B_l4, cOwn (α := Int) 3 ac r6, cBlk aw [ar, I ax, I ay] 158, cOwn (α := Int) 3 ai r5, cBlk ah [ak, I au, I av] 158, cOwn (α := Note) 30 aj r4, cOwn (α := Raw 2) 60 aa ao, cRo ap] R := H
  have bb := cO
  obtain ⟨bC, H, cP, cQ⟩ := H.joinE (i := 3) (j := 0) rfl rfl
  replace aU := aU.mono cP
  replace bb := bb.mono cQ
  have eh := aU.len
  obtain ⟨bu, bY⟩ : ∃ r : List (Raw 2), (aq).set (Int.toNat (r6.getD s2 0)) (Raw.put ((aq).getD (Int.toNat (r6.getD s2 0)) default) 0 [aH, I ((r3.getD s2 default).base), I ((r3.getD s2 default).minutes)] rfl (by simp only [List.all_cons, List.all_nil, Bool.true_and, Bool.and_true, Sl.oc bb]; try rfl)) = r := ⟨_, rfl⟩
  have cR : RepR (α := Work) bC.cells bu (l4.set (Int.toNat (r6.getD s2 0)) (⟨l, ((r3.getD s2 default).base : Int), ((r3.getD s2 default).minutes : Int)⟩ : Work)) := by rw [← bY]; exact aU.set _ (by show Elt.rep _ (((aq).getD (Int.toNat (r6.getD s2 0)) default).cs.take 0 ++ [aH, I ((r3.getD s2 default).base), I ((r3.getD s2 default).minutes)] ++ ((aq).getD (Int.toNat (r6.getD s2 0)) default).cs.drop (0 + ([aH, I ((r3.getD s2 default).base), I ((r3.getD s2 default).minutes)] : List Value).length)) _; rw [show ((aq).getD (Int.toNat (r6.getD s2 0)) default).cs.drop (0 + ([aH, I ((r3.getD s2 default).base), I ((r3.getD s2 default).minutes)] : List Value).length) = [] from List.drop_of_length_le (Nat.le_of_eq (Raw.len _))]; exact ⟨_, rfl, bb⟩)
  refine t_fst (α := Raw 2) (k := 3) (i := r6.getD s2 0) (off := 0) (l := aq) (l' := bu) (val := .agg #[aH, I ((r3.getD s2 default).base), I ((r3.getD s2 default).minutes)]) (L' := [cRo bC, cRo bX, cBlk aL [aG, I ((r3.getD s2 default).base), I ((r3.getD s2 default).minutes)] 60, cOwn (α := Raw 2) 60 am bu, cRo B_l4, cOwn (α := Int) 3 ac r6, cBlk aw [ar, I ax, I ay] 158, cOwn (α := Int) 3 ai r5, cBlk ah [ak, I au, I av] 158, cOwn (α := Note) 30 aj r4, cOwn (α := Raw 2) 60 aa ao, cRo ap]) H rfl Sz60 (by omega) (by omega) ((aq).getD (Int.toNat (r6.getD s2 0)) default) (Raw.put ((aq).getD (Int.toNat (r6.getD s2 0)) default) 0 [aH, I ((r3.getD s2 default).base), I ((r3.getD s2 default).minutes)] rfl (by simp only [List.all_cons, List.all_nil, Bool.true_and, Bool.and_true, Sl.oc bb]; try rfl)) (getD_some _ (by omega) _) (fat_vat0 _ _ _).symm rfl [aH, I ((r3.getD s2 default).base), I ((r3.getD s2 default).minutes)] rfl rfl rfl (by simp only [List.all_cons, List.all_nil, Bool.true_and, Bool.and_true, Sl.oc bb]; try rfl) rfl bY rfl ?_
  intro ei H
  refine s_nil ⟨(H.pick [2, 4, 5, 6, 7, 8, 9, 10, 11] (by decide) rfl), ?_⟩
  refine d_nil ?_
  refine W.region rfl <| sR _ _ ((s2 : Int) + 1) rfl rfl rfl (by omega) <| sM (I ((s2 : Int) + 1)) rfl <| s_nil ?_
  exact ⟨cE, cF, l4.set (Int.toNat (r6.getD s2 0)) (⟨l, ((r3.getD s2 default).base : Int), ((r3.getD s2 default).minutes : Int)⟩ : Work), s2 + 1, am, bu, bC, _, upds_of _ _ ⟨rfl, rfl, rfl, rfl, rfl, rfl, rfl, rfl, rfl, trivial⟩, M.e_inl hM bS, (H.pick [3, 0, 5, 6, 7, 8, 9, 10, 11] (by decide) rfl), cR⟩
 replace hM := M.e_f hM bi
 simp only [qz1, qz2, qz3, qz4, qz5, qz6, ne_eq, qz7] at bi
 refine W.exit ?_
 have cS := M.e_inr hM bS
 subst cS
 replace hM := cD
 try dsimp only at hM
 refine sQ rfl <| sM aj rfl ?_
 obtain ⟨ej, hM⟩ := M.e_gd hM
 refine s_call cf19 [aj] rfl (copy_note _ ((ownSl (H.get (k := 6) rfl)).mono (ownLe _ (H.get (k := 6) rfl))) (by omega)) ?_
 rintro bv cT ⟨bk, ag⟩
 replace H : St w cT [cOwn (α := Note) 30 bv r4, cOwn (α := Raw 2) 60 am aq, cRo B_l4, cOwn (α := Int) 3 ac r6, cBlk aw [ar, I ax, I ay] 158, cOwn (α := Int) 3 ai r5, cBlk ah [ak, I au, I av] 158, cOwn (α := Note) 30 aj r4, cOwn (α := Raw 2) 60 aa ao, cRo ap] R := H.ownOf ag bk
 clear ag bk
 refine sA bv rfl <| s_nil <| W.seq <| sQ rfl <| sM bv rfl ?_
 have el := ((ownSl (H.get (k := 0) rfl))).len_le
 refine s_val (x_lenS T23.und rfl (ownSl (H.get (k := 0) rfl))) <| sM (I 0) rfl <| s_nil <| W.block ?_
 obtain ⟨cU, bD, cV⟩ := M.e_bind hM
 obtain ⟨bt, bD⟩ := M.e_iter bD
 refine W.loop (fun m σ W => ∃ (l7 : List Note) (s3 : Nat) (az : Value) (ρ : Env), σ = upds ρ [(2, .int .u8 which), (8, aa), (9, aj), (10, ai), (11, ac), (12, am), (18, az), (91, I (r4.length : Int)), (92, I (s3 : Int))] /\ M.iterN (zak r4 r6) m (l7, s3) = some cU /\ St w W [cOwn (α := Note) 30 az l7, cOwn (α := Raw 2) 60 am aq, cRo B_l4, cOwn (α := Int) 3 ac r6, cBlk aw [ar, I ax, I ay] 158, cOwn (α := Int) 3 ai r5, cBlk ah [ak, I au, I av] 158, cOwn (α := Note) 30 aj r4, cOwn (α := Raw 2) 60 aa ao, cRo ap] R) ?_ ?_
 ·exact ⟨_, r4, 0, bv, _, upds_of _ _ ⟨rfl, rfl, rfl, rfl, rfl, rfl, rfl, rfl, rfl, trivial⟩, bD, H⟩
 rintro em σ cW ⟨l7, s3, az, ρ, rfl, bZ, H⟩
 obtain ⟨cX, cY, eo, hM, b6⟩ := M.e_iterN bZ
 simp only [zak] at hM
 clear bZ
 refine sQ rfl <| sC _ _ (decide ((s3 : Int) < (r4.length : Int))) rfl rfl rfl <| s_nil <| W.seq ?_
 refine W.cond (decide ((s3 : Int) < (r4.length : Int))) rfl (fun bl => ?_) (fun bl => ?_)
 ·replace hM := M.e_t hM bl
  simp only [qz1, qz2, qz3, qz4, qz5, qz6, ne_eq, qz7] at bl
  refine W.skip <| W.seq <| W.block <| sQ rfl <| sM (I (s3 : Int)) rfl <| sA (I (s3 : Int)) rfl <| s_nil <| W.region rfl <| sM az rfl <| sM (I (s3 : Int)) rfl <| sM ac rfl ?_
  refine sM az rfl <| sM (I (s3 : Int)) rfl ?_
  obtain ⟨ep, hM⟩ := M.e_gd hM
  refine s_val (x_ix (v := vat az 3 (Int.toNat (s3 : Int))) rfl rfl (Sl.ix (α := Note) T23.und T23.size (ownSl (H.get (k := 0) rfl)) (by omega) (by omega))) <| s_val (x_fa (v := fat (vat az 3 (Int.toNat (s3 : Int))) 0) rfl (fa_pl Fd30_0 Sz3 (Sl.pl (i := (s3 : Int)) (ownSl (H.get (k := 0) rfl)) (by omega) (by omega)))) <| s_val (x_ld (v := I ((l7.getD s3 default).work)) rfl (ld_sc Sc3 (At.mono (Note_at0 (ownSl (H.get (k := 0) rfl)) (i := (s3 : Int)) (by omega) (by omega)) (ownLe _ (H.get (k := 0) rfl))))) ?_
  obtain ⟨eq, hM⟩ := M.e_gd hM
  refine s_val (x_ix (v := vat ac 1 (Int.toNat ((l7.getD s3 default).work))) rfl rfl (Sl.ix (α := Int) T34.und T34.size (ownSl (H.get (k := 3) rfl)) (by omega) (by omega))) <| s_val (x_ld (v := I (r6.getD (Int.toNat ((l7.getD s3 default).work)) 0)) rfl (ld_sc Sc3 (At.mono (Int_at (ownSl (H.get (k := 3) rfl)) (i := (l7.getD s3 default).work) (by omega) (by omega)) (ownLe _ (H.get (k := 3) rfl))))) <| s_val (x_ix (v := vat az 3 (Int.toNat (s3 : Int))) rfl rfl (Sl.ix (α := Note) T23.und T23.size (ownSl (H.get (k := 0) rfl)) (by omega) (by omega))) <| s_val (x_fa (v := fat (vat az 3 (Int.toNat (s3 : Int))) 0) rfl (fa_pl Fd30_0 Sz3 (Sl.pl (i := (s3 : Int)) (ownSl (H.get (k := 0) rfl)) (by omega) (by omega)))) ?_
  refine t_fst (α := Note) (k := 0) (i := (s3 : Int)) (off := 0) (l := l7) (l' := l7.set s3 ({ (l7.getD s3 default) with work := r6.getD (Int.toNat ((l7.getD s3 default).work)) 0 })) (val := I (r6.getD (Int.toNat ((l7.getD s3 default).work)) 0)) (L' := [cOwn (α := Note) 30 az (l7.set s3 ({ (l7.getD s3 default) with work := r6.getD (Int.toNat ((l7.getD s3 default).work)) 0 })), cOwn (α := Raw 2) 60 am aq, cRo B_l4, cOwn (α := Int) 3 ac r6, cBlk aw [ar, I ax, I ay] 158, cOwn (α := Int) 3 ai r5, cBlk ah [ak, I au, I av] 158, cOwn (α := Note) 30 aj r4, cOwn (α := Raw 2) 60 aa ao, cRo ap]) H rfl Sz3 (by omega) (by omega) (l7.getD s3 default) ({ (l7.getD s3 default) with work := r6.getD (Int.toNat ((l7.getD s3 default).work)) 0 }) (getD_some _ (by omega) _) rfl rfl [I (r6.getD (Int.toNat ((l7.getD s3 default).work)) 0)] rfl rfl rfl rfl rfl rfl rfl ?_
  intro er H
  refine s_nil <| W.region rfl <| sR _ _ ((s3 : Int) + 1) rfl rfl rfl (by omega) <| sM (I ((s3 : Int) + 1)) rfl <| s_nil ?_
  exact ⟨cX, cY, l7.set s3 ({ (l7.getD s3 default) with work := r6.getD (Int.toNat ((l7.getD s3 default).work)) 0 }), s3 + 1, az, _, upds_of _ _ ⟨rfl, rfl, rfl, rfl, rfl, rfl, rfl, rfl, rfl, trivial⟩, M.e_inl hM b6, H⟩
 replace hM := M.e_f hM bl
 simp only [qz1, qz2, qz3, qz4, qz5, qz6, ne_eq, qz7] at bl
 refine W.exit ?_
 have cZ := M.e_inr hM b6
 subst cZ
 replace hM := cV
 try dsimp only at hM
 refine sQ rfl <| sA (.slice none 0 0) rfl <| s_nil <| W.seq <| sQ rfl <| sM ai rfl ?_
 have eu := ((ownSl (H.get (k := 5) rfl))).len_le
 refine s_val (x_lenS T34.und rfl (ownSl (H.get (k := 5) rfl))) <| sM (I 0) rfl <| s_nil <| W.block ?_
 replace H : St w cW [cOwn (α := Int) 3 (.slice none 0 0) ([]), cOwn (α := Note) 30 az l7, cOwn (α := Raw 2) 60 am aq, cRo B_l4, cOwn (α := Int) 3 ac r6, cBlk aw [ar, I ax, I ay] 158, cOwn (α := Int) 3 ai r5, cBlk ah [ak, I au, I av] 158, cOwn (α := Note) 30 aj r4, cOwn (α := Raw 2) 60 aa ao, cRo ap] R := H.nilOwn (α := Int) 3
 obtain ⟨da, bE, db⟩ := M.e_bind hM
 obtain ⟨bt, bE⟩ := M.e_iter bE
 refine W.loop (fun m σ W => ∃ (s4 : Nat) (aI : List Int) (aF : Value) (ρ : Env), σ = upds ρ [(2, .int .u8 which), (8, aa), (9, aj), (10, ai), (11, ac), (12, am), (18, az), (20, aF), (108, ai), (109, I (r5.length : Int)), (110, I (s4 : Int))] /\ M.iterN (zao r5 r6) m (s4, aI) = some da /\ St w W [cOwn (α := Int) 3 aF aI, cOwn (α := Note) 30 az l7, cOwn (α := Raw 2) 60 am aq, cRo B_l4, cOwn (α := Int) 3 ac r6, cBlk aw [ar, I ax, I ay] 158, cOwn (α := Int) 3 ai r5, cBlk ah [ak, I au, I av] 158, cOwn (α := Note) 30 aj r4, cOwn (α := Raw 2) 60 aa ao, cRo ap] R) ?_ ?_
 ·exact ⟨_, 0, [], (.slice none 0 0), _, upds_of _ _ ⟨rfl, rfl, rfl, rfl, rfl, rfl, rfl, rfl, rfl, rfl, rfl, trivial⟩, bE, H⟩
 rintro ew σ ey ⟨s4, aI, aF, ρ, rfl, b8, H⟩
 obtain ⟨dc, dd, ez, hM, ca⟩ := M.e_iterN b8
 simp only [zao] at hM
 clear b8
 refine sQ rfl <| sC _ _ (decide ((s4 : Int) < (r5.length : Int))) rfl rfl rfl <| s_nil <| W.seq ?_
 refine W.cond (decide ((s4 : Int) < (r5.length : Int))) rfl (fun bm => ?_) (fun bm => ?_)
 ·replace hM := M.e_t hM bm
  simp only [qz1, qz2, qz3, qz4, qz5, qz6, ne_eq, qz7] at bm
  refine W.skip <| W.seq <| W.block <| sQ rfl ?_
  obtain ⟨eA, hM⟩ := M.e_gd hM
  refine s_val (x_ix (v := vat ai 1 (Int.toNat (s4 : Int))) rfl rfl (Sl.ix (α := Int) T34.und T34.size (ownSl (H.get (k := 6) rfl)) (by omega) (by omega))) <| s_val (x_ld (v := I (r5.getD s4 0)) rfl (ld_sc Sc3 (At.mono (Int_at (ownSl (H.get (k := 6) rfl)) (i := (s4 : Int)) (by omega) (by omega)) (ownLe _ (H.get (k := 6) rfl))))) <| sA (I (r5.getD s4 0)) rfl <| s_nil <| W.region rfl <| sM aF rfl <| sM ac rfl <| sM (I (r5.getD s4 0)) rfl ?_
  obtain ⟨eB, hM⟩ := M.e_gd hM
  refine s_val (x_ix (v := vat ac 1 (Int.toNat (r5.getD s4 0))) rfl rfl (Sl.ix (α := Int) T34.und T34.size (ownSl (H.get (k := 4) rfl)) (by omega) (by omega))) <| s_val (x_ld (v := I (r6.getD (Int.toNat (r5.getD s4 0)) 0)) rfl (ld_sc Sc3 (At.mono (Int_at (ownSl (H.get (k := 4) rfl)) (i := r5.getD s4 0) (by omega) (by omega)) (ownLe _ (H.get (k := 4) rfl))))) ?_
  refine t_bs (α := Int) T34 [I (r6.getD (Int.toNat (r5.getD s4 0)) 0)] [(r6.getD (Int.toNat (r5.getD s4 0)) 0 : Int)] H rfl (.cons rfl (Flat.rep_enc _ (r6.getD (Int.toNat (r5.getD s4 0)) 0 : Int)) <| .nil) rfl rfl rfl ?_
  intro cb eC H
  obtain ⟨eD, hM⟩ := M.e_gd hM
  refine t_app (α := Int) (k := 1) (l := aI) (l2 := [(r6.getD (Int.toNat (r5.getD s4 0)) 0 : Int)]) (l' := aI ++ ([(r6.getD (Int.toNat (r5.getD s4 0)) 0 : Int)])) (vy := cb) T34 rfl H rfl rfl rfl (ownSl (H.get (k := 0) rfl)) (ownLe _ (H.get (k := 0) rfl)) (rfl) (by first | omega | (simp only [List.length_nil] at *; omega)) ?_
  intro bF de H
  replace H : St w de [cOwn (α := Int) 3 cb ([(r6.getD (Int.toNat (r5.getD s4 0)) 0 : Int)]), cOwn (α := Int) 3 bF (aI ++ ([(r6.getD (Int.toNat (r5.getD s4 0)) 0 : Int)])), cOwn (α := Note) 30 az l7, cOwn (α := Raw 2) 60 am aq, cRo B_l4, cOwn (α := Int) 3 ac r6, cBlk aw [ar, I ax, I ay] 158, cOwn (α := Int) 3 ai r5, cBlk ah [ak, I au, I av] 158, cOwn (α := Note) 30 aj r4, cOwn (α := Raw 2) 60 aa ao, cRo ap] R := H
  refine sA bF rfl <| s_nil <| W.region rfl <| sR _ _ ((s4 : Int) + 1) rfl rfl rfl (by omega) <| sM (I ((s4 : Int) + 1)) rfl <| s_nil ?_
  exact ⟨dc, dd, s4 + 1, aI ++ ([(r6.getD (Int.toNat (r5.getD s4 0)) 0 : Int)]), bF, _, upds_of _ _ ⟨rfl, rfl, rfl, rfl, rfl, rfl, rfl, rfl, rfl, rfl, rfl, trivial⟩, M.e_inl hM ca, (H.pick [1, 2, 3, 4, 5, 6, 7, 8, 9, 10, 11] (by decide) rfl)⟩
 replace hM := M.e_f hM bm
 simp only [qz1, qz2, qz3, qz4, qz5, qz6, ne_eq, qz7] at bm
 refine W.exit ?_
 have dg := M.e_inr hM ca
 subst dg
 replace hM := db
 try dsimp only at hM
 refine sQ rfl <| sM aF rfl ?_
 obtain ⟨eE, hM⟩ := M.e_gd hM
 refine s_call cf78 [aF] rfl (sort_any (H.get (k := 0) rfl) (by omega) (by omega)) ?_
 rintro _ dh ⟨rfl, bk, cc⟩
 replace H : St w dh [cOwn (α := Int) 3 aF (sortL aI), cOwn (α := Note) 30 az l7, cOwn (α := Raw 2) 60 am aq, cRo B_l4, cOwn (α := Int) 3 ac r6, cBlk aw [ar, I ax, I ay] 158, cOwn (α := Int) 3 ai r5, cBlk ah [ak, I au, I av] 158, cOwn (α := Note) 30 aj r4, cOwn (α := Raw 2) 60 aa ao, cRo ap] R := H.own (k := 0) rfl bk cc (fun b_ _ h_ => h_) rfl
 clear bk cc
 refine s_nil <| sQ rfl <| sM aa rfl <| sM aj rfl ?_
 obtain ⟨⟨ab, e⟩, di, hM⟩ := M.e_bind hM
 obtain ⟨dj, dk⟩ := Prod.mk.inj (M.e_pure di)
 try dsimp only at hM
 refine s_call cf21 [aa, aj] rfl (by have aP := (Values_any _ ((rowSl rfl (H.get (k := 9) rfl) (roLe _ (H.get (k := 10) rfl)) aB).mono (Cells.sup_le (ownLe _ (H.get (k := 9) rfl)) (roLe _ (H.get (k := 10) rfl)))) ((ownSl (H.get (k := 8) rfl)).mono (ownLe _ (H.get (k := 8) rfl)))); rw [dj, dk] at aP; exact aP) ?_
 rintro _ eF ⟨aR, rfl, bc, ag⟩
 obtain ⟨aX, H, bc⟩ := H.fresh ag bc
 clear ag
 have eG := bc.len_le
 refine sM (.tuple #[aR, I e]) rfl <| sX [aR, I e] aR rfl rfl <| sX [aR, I e] (I e) rfl rfl <| sA aR rfl <| sA (I e) rfl <| s_nil <| sQ rfl <| sM am rfl <| sM az rfl ?_
 obtain ⟨⟨al, e2⟩, dl, hM⟩ := M.e_bind hM
 obtain ⟨dm, dp⟩ := Prod.mk.inj (M.e_pure dl)
 try dsimp only at hM
 refine s_call cf21 [am, az] rfl (by have aP := (Values_any _ ((rowSl rfl (H.get (k := 3) rfl) (roLe _ (H.get (k := 4) rfl)) aU).mono (Cells.sup_le (ownLe _ (H.get (k := 3) rfl)) (roLe _ (H.get (k := 4) rfl)))) ((ownSl (H.get (k := 2) rfl)).mono (ownLe _ (H.get (k := 2) rfl)))); rw [dm, dp] at aP; exact aP) ?_
 rintro _ eH ⟨aS, rfl, bf, ag⟩
 obtain ⟨aY, H, bf⟩ := H.fresh ag bf
 clear ag
 have eI := bf.len_le
 refine sM (.tuple #[aS, I e2]) rfl <| sX [aS, I e2] aS rfl rfl <| sX [aS, I e2] (I e2) rfl rfl <| sA aS rfl <| sA (I e2) rfl <| s_nil <| sQ rfl <| sM aa rfl <| sM ai rfl ?_
 obtain ⟨⟨aE, e3⟩, dq, hM⟩ := M.e_bind hM
 obtain ⟨dr, dt⟩ := Prod.mk.inj (M.e_pure dq)
 try dsimp only at hM
 refine s_call cf36 [aa, ai] rfl (by have aP := (Ready_any _ ((rowSl rfl (H.get (k := 11) rfl) (roLe _ (H.get (k := 12) rfl)) aB).mono (Cells.sup_le (ownLe _ (H.get (k := 11) rfl)) (roLe _ (H.get (k := 12) rfl)))) ((ownSl (H.get (k := 8) rfl)).mono (ownLe _ (H.get (k := 8) rfl)))); rw [dr, dt] at aP; exact aP) ?_
 rintro _ eJ ⟨aM, rfl, bg, ag⟩
 obtain ⟨aZ, H, bg⟩ := H.fresh ag bg
 clear ag
 have eK := bg.len_le
 refine sM (.tuple #[aM, I e3]) rfl <| sX [aM, I e3] aM rfl rfl <| sX [aM, I e3] (I e3) rfl rfl <| sA aM rfl <| sA (I e3) rfl <| s_nil <| sQ rfl <| sM am rfl <| sM aF rfl ?_
 obtain ⟨⟨aN, e4⟩, du, hM⟩ := M.e_bind hM
 obtain ⟨dv, dw⟩ := Prod.mk.inj (M.e_pure du)
 try dsimp only at hM
 refine s_call cf36 [am, aF] rfl (by have aP := (Ready_any _ ((rowSl rfl (H.get (k := 5) rfl) (roLe _ (H.get (k := 6) rfl)) aU).mono (Cells.sup_le (ownLe _ (H.get (k := 5) rfl)) (roLe _ (H.get (k := 6) rfl)))) ((ownSl (H.get (k := 3) rfl)).mono (ownLe _ (H.get (k := 3) rfl)))); rw [dv, dw] at aP; exact aP) ?_
 rintro _ eL ⟨aO, rfl, bh, ag⟩
 obtain ⟨a6, H, bh⟩ := H.fresh ag bh
 clear ag
 have eM := bh.len_le
 refine sM (.tuple #[aO, I e4]) rfl <| sX [aO, I e4] aO rfl rfl <| sX [aO, I e4] (I e4) rfl rfl <| sA aO rfl <| sA (I e4) rfl <| s_nil <| W.seq <| sQ rfl <| sM (I e) rfl <| sC _ _ (e != 0) rfl rfl rfl <| sM (B (e != 0)) rfl ?_
 refine g_val (!(e != 0)) (gy_f rfl) (fun hg => x_mv (v := I e2) rfl) <| g_val (!(e != 0)) (gy_f rfl) (fun hg => x_cmp (kd := .i64) (r := e2 != 0) (gd_of hg (I e2)) rfl rfl) <| s_val (x_por (b := e != 0) (r := e2 != 0) rfl rfl (fun hb => gd_of (c := !(e != 0)) (by first | exact hb | (rw [hb]; rfl) | simp_all) (B (e2 != 0)))) <| sM (B ((e != 0) || (e2 != 0))) rfl <| g_val (!((e != 0) || (e2 != 0))) (gy_f rfl) (fun hg => x_mv (v := I e3) rfl) <| g_val (!((e != 0) || (e2 != 0))) (gy_f rfl) (fun hg => x_cmp (kd := .i64) (r := e3 != 0) (gd_of hg (I e3)) rfl rfl) <| s_val (x_por (b := ((e != 0) || (e2 != 0))) (r := e3 != 0) rfl rfl (fun hb => gd_of (c := !((e != 0) || (e2 != 0))) (by first | exact hb | (rw [hb]; rfl) | simp_all) (B (e3 != 0)))) <| sM (B (((e != 0) || (e2 != 0)) || (e3 != 0))) rfl <| g_val (!(((e != 0) || (e2 != 0)) || (e3 != 0))) (gy_f rfl) (fun hg => x_mv (v := I e4) rfl) <| g_val (!(((e != 0) || (e2 != 0)) || (e3 != 0))) (gy_f rfl) (fun hg => x_cmp (kd := .i64) (r := e4 != 0) (gd_of hg (I e4)) rfl rfl) <| s_val (x_por (b := (((e != 0) || (e2 != 0)) || (e3 != 0))) (r := e4 != 0) rfl rfl (fun hb => gd_of (c := !(((e != 0) || (e2 != 0)) || (e3 != 0))) (by first | exact hb | (rw [hb]; rfl) | simp_all) (B (e4 != 0)))) <| sM (B ((((e != 0) || (e2 != 0)) || (e3 != 0)) || (e4 != 0))) rfl ?_
 refine g_val (!((((e != 0) || (e2 != 0)) || (e3 != 0)) || (e4 != 0))) (gy_f rfl) (fun hg => x_mv (v := aR) rfl) <| g_val (!((((e != 0) || (e2 != 0)) || (e3 != 0)) || (e4 != 0))) (gy_f rfl) (fun hg => x_lenS T34.und (gd_of hg (aR)) bc) <| g_val (!((((e != 0) || (e2 != 0)) || (e3 != 0)) || (e4 != 0))) (gy_f rfl) (fun hg => x_mv (v := aa) rfl) <| g_val (!((((e != 0) || (e2 != 0)) || (e3 != 0)) || (e4 != 0))) (gy_f rfl) (fun hg => x_lenS T22.und (gd_of hg (aa)) (rowSl rfl (H.get (k := 13) rfl) (roLe _ (H.get (k := 14) rfl)) aB)) <| g_val (!((((e != 0) || (e2 != 0)) || (e3 != 0)) || (e4 != 0))) (gy_f rfl) (fun hg => x_cmp (kd := .i64) (r := (ab.length : Int) != (r3.length : Int)) (gd_of hg (I (ab.length : Int))) (gd_of hg (I (r3.length : Int))) rfl) <| s_val (x_por (b := ((((e != 0) || (e2 != 0)) || (e3 != 0)) || (e4 != 0))) (r := (ab.length : Int) != (r3.length : Int)) rfl rfl (fun hb => gd_of (c := !((((e != 0) || (e2 != 0)) || (e3 != 0)) || (e4 != 0))) (by first | exact hb | (rw [hb]; rfl) | simp_all) (B ((ab.length : Int) != (r3.length : Int))))) <| sM (B (((((e != 0) || (e2 != 0)) || (e3 != 0)) || (e4 != 0)) || ((ab.length : Int) != (r3.length : Int)))) rfl <| g_val (!(((((e != 0) || (e2 != 0)) || (e3 != 0)) || (e4 != 0)) || ((ab.length : Int) != (r3.length : Int)))) (gy_f rfl) (fun hg => x_mv (v := aS) rfl) <| g_val (!(((((e != 0) || (e2 != 0)) || (e3 != 0)) || (e4 != 0)) || ((ab.length : Int) != (r3.length : Int)))) (gy_f rfl) (fun hg => x_lenS T34.und (gd_of hg (aS)) bf) <| g_val (!(((((e != 0) || (e2 != 0)) || (e3 != 0)) || (e4 != 0)) || ((ab.length : Int) != (r3.length : Int)))) (gy_f rfl) (fun hg => x_mv (v := aa) rfl) <| g_val (!(((((e != 0) || (e2 != 0)) || (e3 != 0)) || (e4 != 0)) || ((ab.length : Int) != (r3.length : Int)))) (gy_f rfl) (fun hg => x_lenS T22.und (gd_of hg (aa)) (rowSl rfl (H.get (k := 13) rfl) (roLe _ (H.get (k := 14) rfl)) aB)) <| g_val (!(((((e != 0) || (e2 != 0)) || (e3 != 0)) || (e4 != 0)) || ((ab.length : Int) != (r3.length : Int)))) (gy_f rfl) (fun hg => x_cmp (kd := .i64) (r := (al.length : Int) != (r3.length : Int)) (gd_of hg (I (al.length : Int))) (gd_of hg (I (r3.length : Int))) rfl) ?_
 refine s_val (x_por (b := (((((e != 0) || (e2 != 0)) || (e3 != 0)) || (e4 != 0)) || ((ab.length : Int) != (r3.length : Int)))) (r := (al.length : Int) != (r3.length : Int)) rfl rfl (fun hb => gd_of (c := !(((((e != 0) || (e2 != 0)) || (e3 != 0)) || (e4 != 0)) || ((ab.length : Int) != (r3.length : Int)))) (by first | exact hb | (rw [hb]; rfl) | simp_all) (B ((al.length : Int) != (r3.length : Int))))) <| sM (B ((((((e != 0) || (e2 != 0)) || (e3 != 0)) || (e4 != 0)) || ((ab.length : Int) != (r3.length : Int))) || ((al.length : Int) != (r3.length : Int)))) rfl <| g_val (!((((((e != 0) || (e2 != 0)) || (e3 != 0)) || (e4 != 0)) || ((ab.length : Int) != (r3.length : Int))) || ((al.length : Int) != (r3.length : Int)))) (gy_f rfl) (fun hg => x_mv (v := aM) rfl) <| g_val (!((((((e != 0) || (e2 != 0)) || (e3 != 0)) || (e4 != 0)) || ((ab.length : Int) != (r3.length : Int))) || ((al.length : Int) != (r3.length : Int)))) (gy_f rfl) (fun hg => x_lenS T34.und (gd_of hg (aM)) bg) <| g_val (!((((((e != 0) || (e2 != 0)) || (e3 != 0)) || (e4 != 0)) || ((ab.length : Int) != (r3.length : Int))) || ((al.length : Int) != (r3.length : Int)))) (gy_f rfl) (fun hg => x_mv (v := aa) rfl) <| g_val (!((((((e != 0) || (e2 != 0)) || (e3 != 0)) || (e4 != 0)) || ((ab.length : Int) != (r3.length : Int))) || ((al.length : Int) != (r3.length : Int)))) (gy_f rfl) (fun hg => x_lenS T22.und (gd_of hg (aa)) (rowSl rfl (H.get (k := 13) rfl) (roLe _ (H.get (k := 14) rfl)) aB)) <| g_val (!((((((e != 0) || (e2 != 0)) || (e3 != 0)) || (e4 != 0)) || ((ab.length : Int) != (r3.length : Int))) || ((al.length : Int) != (r3.length : Int)))) (gy_f rfl) (fun hg => x_cmp (kd := .i64) (r := (aE.length : Int) != (r3.length : Int)) (gd_of hg (I (aE.length : Int))) (gd_of hg (I (r3.length : Int))) rfl) <| s_val (x_por (b := ((((((e != 0) || (e2 != 0)) || (e3 != 0)) || (e4 != 0)) || ((ab.length : Int) != (r3.length : Int))) || ((al.length : Int) != (r3.length : Int)))) (r := (aE.length : Int) != (r3.length : Int)) rfl rfl (fun hb => gd_of (c := !((((((e != 0) || (e2 != 0)) || (e3 != 0)) || (e4 != 0)) || ((ab.length : Int) != (r3.length : Int))) || ((al.length : Int) != (r3.length : Int)))) (by first | exact hb | (rw [hb]; rfl) | simp_all) (B ((aE.length : Int) != (r3.length : Int))))) <| sM (B (((((((e != 0) || (e2 != 0)) || (e3 != 0)) || (e4 != 0)) || ((ab.length : Int) != (r3.length : Int))) || ((al.length : Int) != (r3.length : Int))) || ((aE.length : Int) != (r3.length : Int)))) rfl <| g_val (!(((((((e != 0) || (e2 != 0)) || (e3 != 0)) || (e4 != 0)) || ((ab.length : Int) != (r3.length : Int))) || ((al.length : Int) != (r3.length : Int))) || ((aE.length : Int) != (r3.length : Int)))) (gy_f rfl) (fun hg => x_mv (v := aO) rfl) <| g_val (!(((((((e != 0) || (e2 != 0)) || (e3 != 0)) || (e4 != 0)) || ((ab.length : Int) != (r3.length : Int))) || ((al.length : Int) != (r3.length : Int))) || ((aE.length : Int) != (r3.length : Int)))) (gy_f rfl) (fun hg => x_lenS T34.und (gd_of hg (aO)) bh) <| g_val (!(((((((e != 0) || (e2 != 0)) || (e3 != 0)) || (e4 != 0)) || ((ab.length : Int) != (r3.length : Int))) || ((al.length : Int) != (r3.length : Int))) || ((aE.length : Int) != (r3.length : Int)))) (gy_f rfl) (fun hg => x_mv (v := aa) rfl) ?_
 refine g_val (!(((((((e != 0) || (e2 != 0)) || (e3 != 0)) || (e4 != 0)) || ((ab.length : Int) != (r3.length : Int))) || ((al.length : Int) != (r3.length : Int))) || ((aE.length : Int) != (r3.length : Int)))) (gy_f rfl) (fun hg => x_lenS T22.und (gd_of hg (aa)) (rowSl rfl (H.get (k := 13) rfl) (roLe _ (H.get (k := 14) rfl)) aB)) <| g_val (!(((((((e != 0) || (e2 != 0)) || (e3 != 0)) || (e4 != 0)) || ((ab.length : Int) != (r3.length : Int))) || ((al.length : Int) != (r3.length : Int))) || ((aE.length : Int) != (r3.length : Int)))) (gy_f rfl) (fun hg => x_cmp (kd := .i64) (r := (aN.length : Int) != (r3.length : Int)) (gd_of hg (I (aN.length : Int))) (gd_of hg (I (r3.length : Int))) rfl) <| s_val (x_por (b := (((((((e != 0) || (e2 != 0)) || (e3 != 0)) || (e4 != 0)) || ((ab.length : Int) != (r3.length : Int))) || ((al.length : Int) != (r3.length : Int))) || ((aE.length : Int) != (r3.length : Int)))) (r := (aN.length : Int) != (r3.length : Int)) rfl rfl (fun hb => gd_of (c := !(((((((e != 0) || (e2 != 0)) || (e3 != 0)) || (e4 != 0)) || ((ab.length : Int) != (r3.length : Int))) || ((al.length : Int) != (r3.length : Int))) || ((aE.length : Int) != (r3.length : Int)))) (by first | exact hb | (rw [hb]; rfl) | simp_all) (B ((aN.length : Int) != (r3.length : Int))))) <| s_nil ?_
 refine W.cond ((((((((e != 0) || (e2 != 0)) || (e3 != 0)) || (e4 != 0)) || ((ab.length : Int) != (r3.length : Int))) || ((al.length : Int) != (r3.length : Int))) || ((aE.length : Int) != (r3.length : Int))) || ((aN.length : Int) != (r3.length : Int))) rfl (fun bG => ?_) (fun bG => ?_)
 ·replace hM := M.e_t hM bG
  refine sQ rfl <| sA (B false) rfl <| s_nil ?_
  refine W.ret ?_
  have a7 := M.e_pure hM
  exact ⟨_, resE_tmp rfl, ⟨false, a7, rfl, (H.pick [] (by decide) rfl)⟩⟩
 replace hM := M.e_f hM bG
 refine W.skip <| W.seq <| sQ rfl <| sM aa rfl ?_
 have eN := ((rowSl rfl (H.get (k := 13) rfl) (roLe _ (H.get (k := 14) rfl)) aB)).len_le
 refine s_val (x_lenS T22.und rfl (rowSl rfl (H.get (k := 13) rfl) (roLe _ (H.get (k := 14) rfl)) aB)) <| sM (I 0) rfl <| s_nil <| W.block ?_
 obtain ⟨dx, bH, cd⟩ := M.e_bind hM
 obtain ⟨bt, bH⟩ := M.e_iter bH
 refine W.loop (fun m σ W => ∃ (s5 : Nat) (ρ : Env), σ = upds ρ [(2, .int .u8 which), (8, aa), (10, ai), (11, ac), (12, am), (20, aF), (23, aR), (25, aS), (27, aM), (29, aO), (191, I (r3.length : Int)), (192, I (s5 : Int))] /\ M.iterN (zax r3 r6 ab al aE aN) m s5 = some dx /\ St w W [cRo a6, cRo aZ, cRo aY, cRo aX, cOwn (α := Int) 3 aF (sortL aI), cOwn (α := Note) 30 az l7, cOwn (α := Raw 2) 60 am aq, cRo B_l4, cOwn (α := Int) 3 ac r6, cBlk aw [ar, I ax, I ay] 158, cOwn (α := Int) 3 ai r5, cBlk ah [ak, I au, I av] 158, cOwn (α := Note) 30 aj r4, cOwn (α := Raw 2) 60 aa ao, cRo ap] R) ?_ ?_
 ·exact ⟨_, 0, _, upds_of _ _ ⟨rfl, rfl, rfl, rfl, rfl, rfl, rfl, rfl, rfl, rfl, rfl, rfl, trivial⟩, bH, H⟩
 rintro eO σ eQ ⟨s5, ρ, rfl, ce, H⟩
 obtain ⟨dy, dz, eR, hM, bI⟩ := M.e_iterN ce
 simp only [zax] at hM
 clear ce
 refine sQ rfl <| sC _ _ (decide ((s5 : Int) < (r3.length : Int))) rfl rfl rfl <| s_nil <| W.seq ?_
 refine W.cond (decide ((s5 : Int) < (r3.length : Int))) rfl (fun bn => ?_) (fun bn => ?_)
 ·replace hM := M.e_t hM bn
  simp only [qz1, qz2, qz3, qz4, qz5, qz6, ne_eq, qz7] at bn
  refine W.skip <| W.seq <| W.block <| sQ rfl <| sM (I (s5 : Int)) rfl <| sA (I (s5 : Int)) rfl <| s_nil <| W.seq ?_
  refine W.draw (fun W => St w W [cRo a6, cRo aZ, cRo aY, cRo aX, cOwn (α := Int) 3 aF (sortL aI), cOwn (α := Note) 30 az l7, cOwn (α := Raw 2) 60 am aq, cRo B_l4, cOwn (α := Int) 3 ac r6, cBlk aw [ar, I ax, I ay] 158, cOwn (α := Int) 3 ai r5, cBlk ah [ak, I au, I av] 158, cOwn (α := Note) 30 aj r4, cOwn (α := Raw 2) 60 aa ao, cRo ap] R) [(0, true), (1, true), (2, true), (3, true), (4, true), (5, true), (6, true), (7, true), (8, true), (9, true), (10, true), (11, true), (12, true), (13, true), (14, true), (15, true), (16, true), (17, true), (18, true), (19, true), (20, true), (21, true), (22, true), (23, true), (24, true), (25, true)] mixed (by decide +kernel) rfl ?_
  intro dA ag
  replace H : St w dA [cRo a6, cRo aZ, cRo aY, cRo aX, cOwn (α := Int) 3 aF (sortL aI), cOwn (α := Note) 30 az l7, cOwn (α := Raw 2) 60 am aq, cRo B_l4, cOwn (α := Int) 3 ac r6, cBlk aw [ar, I ax, I ay] 158, cOwn (α := Int) 3 ai r5, cBlk ah [ak, I au, I av] 158, cOwn (α := Note) 30 aj r4, cOwn (α := Raw 2) 60 aa ao, cRo ap] R := H.ext ag
  clear ag
  refine ⟨(H.pick [0, 1, 2, 3, 4, 5, 6, 7, 8, 9, 10, 11, 12, 13, 14] (by decide) rfl), ?_⟩
  refine d_q rfl (fun w' H => x_mv (v := aR) rfl) ?_
  refine d_q rfl (fun w' H => x_mv (v := I (s5 : Int)) rfl) ?_
  obtain ⟨eS, hM⟩ := M.e_gd hM
  refine d_q rfl (fun w' H => x_ix (v := vat aR 1 (Int.toNat (s5 : Int))) rfl rfl (Sl.ix (α := Int) T34.und T34.size bc (by omega) (by omega))) ?_
  refine d_q rfl (fun w' H => x_ld (v := I (ab.getD s5 0)) rfl (ld_sc Sc3 (At.mono (Int_at bc (i := (s5 : Int)) (by omega) (by omega)) (roLe _ (H.get (k := 3) rfl))))) ?_
  refine d_q rfl (fun w' H => x_mv (v := aS) rfl) ?_
  refine d_q rfl (fun w' H => x_mv (v := ac) rfl) ?_
  refine d_q rfl (fun w' H => x_mv (v := I (s5 : Int)) rfl) ?_
  obtain ⟨eT, hM⟩ := M.e_gd hM
  refine d_q rfl (fun w' H => x_ix (v := vat ac 1 (Int.toNat (s5 : Int))) rfl rfl (Sl.ix (α := Int) T34.und T34.size (ownSl (H.get (k := 8) rfl)) (by omega) (by omega))) ?_
  refine d_q rfl (fun w' H => x_ld (v := I (r6.getD s5 0)) rfl (ld_sc Sc3 (At.mono (Int_at (ownSl (H.get (k := 8) rfl)) (i := (s5 : Int)) (by omega) (by omega)) (ownLe _ (H.get (k := 8) rfl))))) ?_
  obtain ⟨eU, hM⟩ := M.e_gd hM
  refine d_q rfl (fun w' H => x_ix (v := vat aS 1 (Int.toNat (r6.getD s5 0))) rfl rfl (Sl.ix (α := Int) T34.und T34.size bf (by omega) (by omega))) ?_
  refine d_q rfl (fun w' H => x_ld (v := I (al.getD (Int.toNat (r6.getD s5 0)) 0)) rfl (ld_sc Sc3 (At.mono (Int_at bf (i := r6.getD s5 0) (by omega) (by omega)) (roLe _ (H.get (k := 2) rfl))))) ?_
  refine d_q rfl (fun w' H => x_cmp (kd := .i64) (r := (ab.getD s5 0) != (al.getD (Int.toNat (r6.getD s5 0)) 0)) rfl rfl rfl) ?_
  refine d_q rfl (fun w' H => x_mv (v := B ((ab.getD s5 0) != (al.getD (Int.toNat (r6.getD s5 0)) 0))) rfl) ?_
  refine d_qg (!((ab.getD s5 0) != (al.getD (Int.toNat (r6.getD s5 0)) 0))) rfl (gy_f rfl) (fun hg => (fun w' H => x_mv (v := aM) rfl)) ?_
  refine d_qg (!((ab.getD s5 0) != (al.getD (Int.toNat (r6.getD s5 0)) 0))) rfl (gy_f rfl) (fun hg => (fun w' H => x_mv (v := I (s5 : Int)) rfl)) ?_
  obtain ⟨aJ, hM⟩ := M.e_grd hM
  replace aJ := M.imp_of aJ
  simp only [Bool.and_eq_true, decide_eq_true_eq] at aJ
  refine d_qg (!((ab.getD s5 0) != (al.getD (Int.toNat (r6.getD s5 0)) 0))) rfl (gy_f rfl) (fun hg => (fun w' H => x_ix (v := vat aM 1 (Int.toNat (s5 : Int))) (gd_of hg (aM)) (gd_of hg (I (s5 : Int))) (Sl.ix (α := Int) T34.und T34.size bg (by have ae := aJ.resolve_left (by rw [hg]; decide); first | exact ae | exact ae.1 | exact ae.2 | omega | (have ag := hg; simp at ag; omega)) (by have ae := aJ.resolve_left (by rw [hg]; decide); first | exact ae | exact ae.1 | exact ae.2 | omega | (have ag := hg; simp at ag; omega))))) ?_
  refine d_qg (!((ab.getD s5 0) != (al.getD (Int.toNat (r6.getD s5 0)) 0))) rfl (gy_f rfl) (fun hg => (fun w' H => x_ld (v := I (aE.getD s5 0)) (gd_of hg (vat aM 1 (Int.toNat (s5 : Int)))) (ld_sc Sc3 (At.mono (Int_at bg (i := (s5 : Int)) (by have ae := aJ.resolve_left (by rw [hg]; decide); first | exact ae | exact ae.1 | exact ae.2 | omega | (have ag := hg; simp at ag; omega)) (by have ae := aJ.resolve_left (by rw [hg]; decide); first | exact ae | exact ae.1 | exact ae.2 | omega | (have ag := hg; simp at ag; omega))) (roLe _ (H.get (k := 1) rfl)))))) ?_
  refine d_qg (!((ab.getD s5 0) != (al.getD (Int.toNat (r6.getD s5 0)) 0))) rfl (gy_f rfl) (fun hg => (fun w' H => x_mv (v := aO) rfl)) ?_
  refine d_qg (!((ab.getD s5 0) != (al.getD (Int.toNat (r6.getD s5 0)) 0))) rfl (gy_f rfl) (fun hg => (fun w' H => x_mv (v := ac) rfl)) ?_
  refine d_qg (!((ab.getD s5 0) != (al.getD (Int.toNat (r6.getD s5 0)) 0))) rfl (gy_f rfl) (fun hg => (fun w' H => x_mv (v := I (s5 : Int)) rfl)) ?_
  refine d_qg (!((ab.getD s5 0) != (al.getD (Int.toNat (r6.getD s5 0)) 0))) rfl (gy_f rfl) (fun hg => (fun w' H => x_ix (v := vat ac 1 (Int.toNat (s5 : Int))) (gd_of hg (ac)) (gd_of hg (I (s5 : Int))) (Sl.ix (α := Int) T34.und T34.size (ownSl (H.get (k := 8) rfl)) (by have ae := aJ.resolve_left (by rw [hg]; decide); first | exact ae | exact ae.1 | exact ae.2 | omega | (have ag := hg; simp at ag; omega)) (by have ae := aJ.resolve_left (by rw [hg]; decide); first | exact ae | exact ae.1 | exact ae.2 | omega | (have ag := hg; simp at ag; omega))))) ?_
  refine d_qg (!((ab.getD s5 0) != (al.getD (Int.toNat (r6.getD s5 0)) 0))) rfl (gy_f rfl) (fun hg => (fun w' H => x_ld (v := I (r6.getD s5 0)) (gd_of hg (vat ac 1 (Int.toNat (s5 : Int)))) (ld_sc Sc3 (At.mono (Int_at (ownSl (H.get (k := 8) rfl)) (i := (s5 : Int)) (by have ae := aJ.resolve_left (by rw [hg]; decide); first | exact ae | exact ae.1 | exact ae.2 | omega | (have ag := hg; simp at ag; omega)) (by have ae := aJ.resolve_left (by rw [hg]; decide); first | exact ae | exact ae.1 | exact ae.2 | omega | (have ag := hg; simp at ag; omega))) (ownLe _ (H.get (k := 8) rfl)))))) ?_
  obtain ⟨a8, hM⟩ := M.e_grd hM
  replace a8 := M.imp_of a8
  simp only [Bool.and_eq_true, decide_eq_true_eq] at a8
  refine d_qg (!((ab.getD s5 0) != (al.getD (Int.toNat (r6.getD s5 0)) 0))) rfl (gy_f rfl) (fun hg => (fun w' H => x_ix (v := vat aO 1 (Int.toNat (r6.getD s5 0))) (gd_of hg (aO)) (gd_of hg (I (r6.getD s5 0))) (Sl.ix (α := Int) T34.und T34.size bh (by have ae := aJ.resolve_left (by rw [hg]; decide); have aK := a8.resolve_left (by rw [hg]; decide); first | exact ae | exact ae.1 | exact ae.2 | exact aK | exact aK.1 | exact aK.2 | omega | (have ag := hg; simp at ag; omega)) (by have ae := aJ.resolve_left (by rw [hg]; decide); have aK := a8.resolve_left (by rw [hg]; decide); first | exact ae | exact ae.1 | exact ae.2 | exact aK | exact aK.1 | exact aK.2 | omega | (have ag := hg; simp at ag; omega))))) ?_
  refine d_qg (!((ab.getD s5 0) != (al.getD (Int.toNat (r6.getD s5 0)) 0))) rfl (gy_f rfl) (fun hg => (fun w' H => x_ld (v := I (aN.getD (Int.toNat (r6.getD s5 0)) 0)) (gd_of hg (vat aO 1 (Int.toNat (r6.getD s5 0)))) (ld_sc Sc3 (At.mono (Int_at bh (i := r6.getD s5 0) (by have ae := aJ.resolve_left (by rw [hg]; decide); have aK := a8.resolve_left (by rw [hg]; decide); first | exact ae | exact ae.1 | exact ae.2 | exact aK | exact aK.1 | exact aK.2 | omega | (have ag := hg; simp at ag; omega)) (by have ae := aJ.resolve_left (by rw [hg]; decide); have aK := a8.resolve_left (by rw [hg]; decide); first | exact ae | exact ae.1 | exact ae.2 | exact aK | exact aK.1 | exact aK.2 | omega | (have ag := hg; simp at ag; omega))) (roLe _ (H.get (k := 0) rfl)))))) ?_
  refine d_qg (!((ab.getD s5 0) != (al.getD (Int.toNat (r6.getD s5 0)) 0))) rfl (gy_f rfl) (fun hg => (fun w' H => x_cmp (kd := .i64) (r := (aE.getD s5 0) != (aN.getD (Int.toNat (r6.getD s5 0)) 0)) (gd_of hg (I (aE.getD s5 0))) (gd_of hg (I (aN.getD (Int.toNat (r6.getD s5 0)) 0))) rfl)) ?_
  refine d_q rfl (fun w' H => x_por (b := (ab.getD s5 0) != (al.getD (Int.toNat (r6.getD s5 0)) 0)) (r := (aE.getD s5 0) != (aN.getD (Int.toNat (r6.getD s5 0)) 0)) rfl rfl (fun hb => gd_of (c := !((ab.getD s5 0) != (al.getD (Int.toNat (r6.getD s5 0)) 0))) (by first | exact hb | (rw [hb]; rfl) | simp_all) (B ((aE.getD s5 0) != (aN.getD (Int.toNat (r6.getD s5 0)) 0))))) ?_
  refine d_nil ?_
  refine W.cond (((ab.getD s5 0) != (al.getD (Int.toNat (r6.getD s5 0)) 0)) || ((aE.getD s5 0) != (aN.getD (Int.toNat (r6.getD s5 0)) 0))) rfl (fun bJ => ?_) (fun bJ => ?_)
  ·replace hM := M.e_t hM bJ
   refine sQ rfl <| sA (B false) rfl <| s_nil ?_
   refine W.ret ?_
   have dB := M.e_inr hM bI
   subst dB
   replace hM := cd
   try dsimp only at hM
   have a7 := M.e_pure hM
   exact ⟨_, resE_tmp rfl, ⟨false, a7, rfl, (H.pick [] (by decide) rfl)⟩⟩
  replace hM := M.e_f hM bJ
  refine W.skip <| W.region rfl <| sR _ _ ((s5 : Int) + 1) rfl rfl rfl (by omega) <| sM (I ((s5 : Int) + 1)) rfl <| s_nil ?_
  exact ⟨dy, dz, s5 + 1, _, upds_of _ _ ⟨rfl, rfl, rfl, rfl, rfl, rfl, rfl, rfl, rfl, rfl, rfl, rfl, trivial⟩, M.e_inl hM bI, H⟩
 replace hM := M.e_f hM bn
 simp only [qz1, qz2, qz3, qz4, qz5, qz6, ne_eq, qz7] at bn
 refine W.exit ?_
 have dC := M.e_inr hM bI
 subst dC
 replace hM := cd
 try dsimp only at hM
 refine sQ rfl <| sM (.int .u8 which) rfl ?_
 obtain ⟨eV, hM⟩ := M.e_gd hM
 refine s_val (x_conv64 (kd := .u8) (a := which) Try.underlying5 Try.underlying3 rfl (by omega)) <| sM aa rfl ?_
 have eW := ((rowSl rfl (H.get (k := 13) rfl) (roLe _ (H.get (k := 14) rfl)) aB)).len_le
 refine s_val (x_lenS T22.und rfl (rowSl rfl (H.get (k := 13) rfl) (roLe _ (H.get (k := 14) rfl)) aB)) ?_
 obtain ⟨eX, hM⟩ := M.e_gd hM
 refine s_val (x_rem' (a := which) (b := (r3.length : Int)) rfl rfl (by omega)) <| sA (I (which % (r3.length : Int))) rfl <| s_nil <| sQ rfl <| sM aa rfl <| sM ai rfl <| sM (I (which % (r3.length : Int))) rfl ?_
 obtain ⟨eY, dD, hM⟩ := M.e_bind hM
 refine s_call cf64 [aa, ai, I (which % (r3.length : Int))] rfl (zaW r3 r5 (which % (r3.length : Int)) (Reads.sup (Reads.of (k := 13) rfl ownLe) (Reads.of (k := 14) rfl roLe)) (rowSl rfl (H.get (k := 13) rfl) (roLe _ (H.get (k := 14) rfl)) aB) (Reads.of (k := 10) rfl ownLe) (ownSl (H.get (k := 10) rfl)) dD _ (St.give (T := [cRo a6, cRo aZ, cRo aY, cRo aX, cOwn (α := Int) 3 aF (sortL aI), cOwn (α := Note) 30 az l7, cOwn (α := Raw 2) 60 am aq, cRo B_l4, cOwn (α := Int) 3 ac r6, cBlk aw [ar, I ax, I ay] 158, cOwn (α := Int) 3 ai r5, cBlk ah [ak, I au, I av] 158, cOwn (α := Note) 30 aj r4, cOwn (α := Raw 2) 60 aa ao, cRo ap]) H rfl)) ?_
 rintro vq dE ⟨r0, aC, aT, dF, hvq, aA⟩
 subst dF
 subst vq
 try dsimp only at hM
 replace H : St w dE [cOwn (α := Int) 3 aT r0, cRo a6, cRo aZ, cRo aY, cRo aX, cOwn (α := Int) 3 aF (sortL aI), cOwn (α := Note) 30 az l7, cOwn (α := Raw 2) 60 am aq, cRo B_l4, cOwn (α := Int) 3 ac r6, cBlk aw [ar, I ax, I ay] 158, cOwn (α := Int) 3 ai r5, cBlk ah [ak, I au, I av] 158, cOwn (α := Note) 30 aj r4, cOwn (α := Raw 2) 60 aa ao, cRo ap] R := H.back aA rfl
 clear aA
 refine sM (.tuple #[aT, I aC]) rfl <| sX [aT, I aC] aT rfl rfl <| sX [aT, I aC] (I aC) rfl rfl <| sA aT rfl <| sA (I aC) rfl <| s_nil <| sQ rfl <| sM am rfl <| sM aF rfl <| sM ac rfl <| sM (I (which % (r3.length : Int))) rfl ?_
 obtain ⟨eZ, hM⟩ := M.e_gd hM
 refine s_val (x_ix (v := vat ac 1 (Int.toNat (which % (r3.length : Int)))) rfl rfl (Sl.ix (α := Int) T34.und T34.size (ownSl (H.get (k := 9) rfl)) (by omega) (by omega))) <| s_val (x_ld (v := I (r6.getD (Int.toNat (which % (r3.length : Int))) 0)) rfl (ld_sc Sc3 (At.mono (Int_at (ownSl (H.get (k := 9) rfl)) (i := which % (r3.length : Int)) (by omega) (by omega)) (ownLe _ (H.get (k := 9) rfl))))) ?_
 obtain ⟨e6, dG, hM⟩ := M.e_bind hM
 refine s_call cf64 [am, aF, I (r6.getD (Int.toNat (which % (r3.length : Int))) 0)] rfl (zaW l4 (sortL aI) (r6.getD (Int.toNat (which % (r3.length : Int))) 0) (Reads.sup (Reads.of (k := 7) rfl ownLe) (Reads.of (k := 8) rfl roLe)) (rowSl rfl (H.get (k := 7) rfl) (roLe _ (H.get (k := 8) rfl)) aU) (Reads.of (k := 5) rfl ownLe) (ownSl (H.get (k := 5) rfl)) dG _ (St.give (T := [cOwn (α := Int) 3 aT r0, cRo a6, cRo aZ, cRo aY, cRo aX, cOwn (α := Int) 3 aF (sortL aI), cOwn (α := Note) 30 az l7, cOwn (α := Raw 2) 60 am aq, cRo B_l4, cOwn (α := Int) 3 ac r6, cBlk aw [ar, I ax, I ay] 158, cOwn (α := Int) 3 ai r5, cBlk ah [ak, I au, I av] 158, cOwn (α := Note) 30 aj r4, cOwn (α := Raw 2) 60 aa ao, cRo ap]) H rfl)) ?_
 rintro vq dH ⟨aQ, aD, aW, dI, hvq, aA⟩
 subst dI
 subst vq
 try dsimp only at hM
 replace H : St w dH [cOwn (α := Int) 3 aW aQ, cOwn (α := Int) 3 aT r0, cRo a6, cRo aZ, cRo aY, cRo aX, cOwn (α := Int) 3 aF (sortL aI), cOwn (α := Note) 30 az l7, cOwn (α := Raw 2) 60 am aq, cRo B_l4, cOwn (α := Int) 3 ac r6, cBlk aw [ar, I ax, I ay] 158, cOwn (α := Int) 3 ai r5, cBlk ah [ak, I au, I av] 158, cOwn (α := Note) 30 aj r4, cOwn (α := Raw 2) 60 aa ao, cRo ap] R := H.back aA rfl
 clear aA
 refine sM (.tuple #[aW, I aD]) rfl <| sX [aW, I aD] aW rfl rfl <| sX [aW, I aD] (I aD) rfl rfl <| sA aW rfl <| sA (I aD) rfl <| s_nil <| sQ rfl <| sM (I aC) rfl <| sM (I aD) rfl <| sC _ _ (aC == aD) rfl rfl rfl <| sM (B (aC == aD)) rfl ?_
 refine g_val (aC == aD) (gy_t rfl) (fun hg => x_mv (v := aT) rfl) <| g_val (aC == aD) (gy_t rfl) (fun hg => x_lenS T34.und (gd_of hg (aT)) (ownSl (H.get (k := 1) rfl))) <| g_val (aC == aD) (gy_t rfl) (fun hg => x_mv (v := aW) rfl) <| g_val (aC == aD) (gy_t rfl) (fun hg => x_lenS T34.und (gd_of hg (aW)) (ownSl (H.get (k := 0) rfl))) <| g_val (aC == aD) (gy_t rfl) (fun hg => x_cmp (kd := .i64) (r := (r0.length : Int) == (aQ.length : Int)) (gd_of hg (I (r0.length : Int))) (gd_of hg (I (aQ.length : Int))) rfl) <| s_val (x_pand (b := aC == aD) (r := (r0.length : Int) == (aQ.length : Int)) rfl (fun hb => gd_of (c := aC == aD) (by first | exact hb | (rw [hb]; rfl) | simp_all) (B ((r0.length : Int) == (aQ.length : Int)))) rfl) <| sM (B ((aC == aD) && ((r0.length : Int) == (aQ.length : Int)))) rfl ?_
 obtain ⟨r7, dJ, hM⟩ := M.e_bind hM
 refine t_gcall ((aC == aD) && ((r0.length : Int) == (aQ.length : Int))) (gy_t rfl) cf17 (B r7) (fun _ => []) (fun _ => rfl) H (fun hg => (zbr (M.e_opt dJ hg) _ (H.give (A := []) rfl)).mono fun v_ w_ ⟨y_, a7, dK, H_⟩ => by subst a7; exact ⟨dK, H.via H_⟩) ?_
 intro e7 H
 refine s_val (x_pand (b := ((aC == aD) && ((r0.length : Int) == (aQ.length : Int)))) (r := r7) rfl (fun hb => gd_of (c := ((aC == aD) && ((r0.length : Int) == (aQ.length : Int)))) (by first | exact hb | (rw [hb]; rfl) | simp_all) (B r7)) rfl) <| sA (B (((aC == aD) && ((r0.length : Int) == (aQ.length : Int))) && r7)) rfl <| s_nil ?_
 refine W.ret ?_
 have a7 := M.e_pure hM
 exact ⟨_, resE_tmp rfl, ⟨(((aC == aD) && ((r0.length : Int) == (aQ.length : Int))) && r7), a7, rfl, (H.pick [] (by decide) rfl)⟩⟩

end Go.Proofs.Ytndobgodeicloaa
end
namespace Go.Nm
/-- Other numbers for all below n. -/
structure NmOk (n : Nat) (nm : List Int) : Prop where
  len : nm.length = n
  rng : ∀ i, i < n -> 0 <= nm.getD i 0 /\ nm.getD i 0 < (n : Int)
  inj : ∀ i j, i < n -> j < n -> nm.getD i 0 = nm.getD j 0 -> i = j
  sur : ∀ j, j < n -> ∃ i, i < n /\ nm.getD i 0 = (j : Int)
theorem NmOk.of {n : Nat} {nm : List Int} (h : nm.Perm (upto n)) : NmOk n nm := by
  have hl : nm.length = n := by rw [h.length_eq]; simp [upto]
  have hnd : nm.Nodup := h.nodup_iff.2 (by
    unfold upto
    rw [List.Nodup, List.pairwise_map]
    exact List.nodup_range.imp fun hne e => hne (by omega))
  have hmem : ∀ x, x ∈ nm ↔ ∃ j, j < n /\ x = (j : Int) := fun x => by
    rw [h.mem_iff]
    unfold upto
    rw [List.mem_map]
    constructor
    · rintro ⟨j, hj, rfl⟩; exact ⟨j, List.mem_range.1 hj, rfl⟩
    · rintro ⟨j, hj, rfl⟩; exact ⟨j, List.mem_range.2 hj, rfl⟩
  refine ⟨hl, fun i hi => ?_, fun i j hi hj e => ?_, fun j hj => ?_⟩
  · obtain ⟨j, hj, e⟩ := (hmem _).1 (getD_memN nm (by omega : (i : Int) < _) 0)
    omega
  · rw [getD_el nm (by omega) 0, getD_el nm (by omega) 0] at e
    exact (List.getElem_inj hnd).1 e
  · obtain ⟨i, hi, e⟩ := mem_getD ((hmem (j : Int)).2 ⟨j, hj, rfl⟩) 0
    exact ⟨i, by omega, e⟩
theorem sortL_perm (l : List Int) : (sortL l).Perm l := by
  have h := (Sort.insertionSort_holds (lt := Sort.ltInt) Sort.swo_ltInt l.toArray 0 l.length (Nat.zero_le _) (by simp)).1.2.2
  have e1 : (Sort.insertionSort Sort.ltInt l.toArray 0 l.length).extract 0 l.length = Sort.insertionSort Sort.ltInt l.toArray 0 l.length := by
    apply Array.toList_inj.1
    rw [Array.toList_extract]
    simp only [List.extract, List.drop_zero, Nat.sub_zero]
    exact List.take_of_length_le (by rw [Array.length_toList, sortL_len]; exact Nat.le_refl _)
  rw [e1] at h
  unfold sortL
  simpa using h
theorem sortL_asc {l : List Int} (hn : l.Nodup) : (sortL l).Pairwise (· < ·) := by
  have h := (Sort.insertionSort_holds (lt := Sort.ltInt) Sort.swo_ltInt l.toArray 0 l.length (Nat.zero_le _) (by simp)).2
  have hn' : (sortL l).Nodup := (sortL_perm l).nodup_iff.2 hn
  have hl := sortL_len l
  rw [List.pairwise_iff_getElem]
  intro i j hi hj hij
  have hi' : i < (Sort.insertionSort Sort.ltInt l.toArray 0 l.length).size := by simpa [sortL] using hi
  have hj' : j < (Sort.insertionSort Sort.ltInt l.toArray 0 l.length).size := by simpa [sortL] using hj
  have h1 := of_decide_eq_false (h i j (Nat.zero_le _) hij (by omega))
  have hne : (sortL l)[i] ≠ (sortL l)[j] := fun e => by have := (List.getElem_inj hn').1 e; omega
  rw [getElem!_pos (Sort.insertionSort Sort.ltInt l.toArray 0 l.length) i hi', getElem!_pos (Sort.insertionSort Sort.ltInt l.toArray 0 l.length) j hj'] at h1
  have e1 : (sortL l)[i] = (Sort.insertionSort Sort.ltInt l.toArray 0 l.length)[i] := by simp [sortL]
  have e2 : (sortL l)[j] = (Sort.insertionSort Sort.ltInt l.toArray 0 l.length)[j] := by simp [sortL]
  omega
end Go.Nm
namespace Go.Proofs.Ytndobgodeicloaa
open Go Go.Nm
variable {ws : List Work} {nm : List Int}
theorem named_of (hB : Built ws) (hm : NmOk ws.length nm) {s : Nat} (hs : s < ws.length) :
    (M.iter (zal ws nm s) (0, [])).Ends ((ws.getD s default).of.map fun k => nm.getD k.toNat 0, (ws.getD s default).of.map fun k => nm.getD k.toNat 0) := by
  have hb := hB.at_ s hs
  have hn := hB.len
  refine M.i_for (body := zal ws nm s) (fun i => (i, ((ws.getD s default).of.take i).map fun k => nm.getD k.toNat 0)) (ws.getD s default).of.length (fun i hi => ?_) ?_
  · have hk := hb.ahead _ (getD_memN (ws.getD s default).of (by omega : (i : Int) < _) 0)
    have hf := hb.few
    simp only [zal]
    refine M.i_t (by simpa using hi) (M.grdD (by omega) (M.i_grd (gA2 hk.1 (by rw [hm.len]; omega)) (M.grdD (by simp only [List.length_map, List.length_take, List.length_cons, List.length_nil]; omega) ?_)))
    rw [take_succ_getD _ hi 0, List.map_append]
    exact M.i_pure
  · simp only [zal]
    rw [List.take_length]
    exact M.i_f (by simp) M.i_pure
theorem setW_getD {l : List Work} {i x : Nat} {a : Work} (hi : i < l.length) : (l.set i a).getD x default = if x = i then a else l.getD x default := by
  by_cases e : x = i
  · subst e
    rw [if_pos rfl, List.getD_eq_getElem?_getD, List.getElem?_set_self hi]
    rfl
  · rw [if_neg e, List.getD_eq_getElem?_getD, List.getElem?_set_ne (fun e' => e e'.symm), ← List.getD_eq_getElem?_getD]
theorem named_works (hB : Built ws) (hm : NmOk ws.length nm) :
    (M.iter (zaz ws nm) (List.replicate ws.length (default : Work), 0)).Out (fun q => q.1 = q.2 /\ Rnm ws q.2 nm) := by
  refine M.o_for ws.length (fun i st => st.2 = i /\ st.1.length = ws.length /\ ∀ j, j < i -> st.1.getD (nm.getD j 0).toNat default = ⟨(ws.getD j default).of.map fun k => nm.getD k.toNat 0, (ws.getD j default).base, (ws.getD j default).minutes⟩) ?_ ?_
    (s := (List.replicate ws.length (default : Work), 0)) ⟨rfl, by simp, fun j hj => by omega⟩
  · rintro i ⟨l, s⟩ hi ⟨rfl, hl, hd⟩
    dsimp only at hi hl hd ⊢
    have hr := hm.rng s hi
    simp only [zaz]
    refine M.o_t (by simpa using hi) (M.o_grdD (by omega) (M.o_bindE (named_of hB hm hi) (M.o_grdD (by rw [hm.len]; omega) (M.o_grd (gA2 hr.1 (by omega)) (M.o_pure ⟨rfl, by rw [List.length_set]; exact hl, fun j hj => ?_⟩)))))
    dsimp only
    rw [setW_getD (by omega)]
    by_cases e : j = s
    · subst e; rw [if_pos rfl]
    · have hrj := hm.rng j (by omega)
      rw [if_neg (fun e' => e (hm.inj j s (by omega) hi (by omega)))]
      exact hd j (by omega)
  · rintro ⟨l, s⟩ ⟨rfl, hl, hd⟩
    dsimp only at hl hd ⊢
    simp only [zaz]
    exact M.o_f (by simp) (M.o_pure ⟨rfl, hl, hm.rng, hm.inj, hm.sur, hd⟩)
theorem named_revised (hm : NmOk ws.length nm) {rv : List Int} (hr : ∀ x ∈ rv, 0 <= x /\ x < (ws.length : Int)) (hl : rv.length <= 1000) :
    (M.iter (zao rv nm) (0, [])).Ends (rv.map fun k => nm.getD k.toNat 0, rv.map fun k => nm.getD k.toNat 0) := by
  refine M.i_for (body := zao rv nm) (fun i => (i, (rv.take i).map fun k => nm.getD k.toNat 0)) rv.length (fun i hi => ?_) ?_
  · have hk := hr _ (getD_memN rv (by omega : (i : Int) < _) 0)
    simp only [zao]
    refine M.i_t (by simpa using hi) (M.grdD (by omega) (M.i_grd (gA2 hk.1 (by rw [hm.len]; omega)) (M.grdD (by simp only [List.length_map, List.length_take, List.length_cons, List.length_nil]; omega) ?_)))
    rw [take_succ_getD _ hi 0, List.map_append]
    exact M.i_pure
  · simp only [zao]
    rw [List.take_length]
    exact M.i_f (by simp) M.i_pure
theorem getD_memD {α : Type} [Inhabited α] (l : List α) {i : Nat} (hi : i < l.length) : l.getD i default ∈ l := by rw [getD_el l hi default]; exact List.getElem_mem hi
theorem upd_get (l : List Note) (f : Note -> Note) {i : Nat} (hi : i < l.length) : ((l.take i).map f ++ l.drop i).getD i default = l.getD i default := by
  rw [List.getD_eq_getElem?_getD, List.getElem?_append_right (by simp; omega), List.getElem?_drop, List.getD_eq_getElem?_getD]
  congr 2
  simp
  omega
theorem upd_set (l : List Note) (f : Note -> Note) {i : Nat} (hi : i < l.length) : ((l.take i).map f ++ l.drop i).set i (f (l.getD i default)) = (l.take (i + 1)).map f ++ l.drop (i + 1) := by
  have hlen : ((l.take i).map f).length = i := by simp; omega
  rw [List.set_append, if_neg (by omega), hlen, Nat.sub_self, List.drop_eq_getElem_cons hi, List.set_cons_zero, take_succ_getD l hi default, List.map_append, List.append_assoc]
  rfl
theorem named_notes (hm : NmOk ws.length nm) {l : List Note} (hw : ∀ n ∈ l, 0 <= n.work /\ n.work < (ws.length : Int)) :
    (M.iter (zak l nm) (l, 0)).Ends (l.map (renN nm), l.map (renN nm)) := by
  have h := M.i_for (body := zak l nm) (r := (l.map (renN nm), l.map (renN nm))) (fun i => ((l.take i).map (renN nm) ++ l.drop i, i)) l.length (fun i hi => ?_) ?_
  · simpa using h
  · have hk := hw _ (getD_memD l hi)
    simp only [zak]
    rw [upd_get l (renN nm) hi]
    refine M.i_t (by simpa using hi) (M.grdD (by simp; omega) (M.i_grd (gA2 hk.1 (by rw [hm.len]; omega)) ?_))
    rw [show ({ (l.getD i default) with work := nm.getD (Int.toNat ((l.getD i default).work)) 0 } : Note) = renN nm (l.getD i default) from rfl, upd_set l (renN nm) hi]
    exact M.i_pure
  · simp only [zak]
    rw [List.take_length, List.drop_length, List.append_nil]
    exact M.i_f (by simp) M.i_pure
end Go.Proofs.Ytndobgodeicloaa
namespace Go.Proofs.Ytndobgodeicloaa
open Go Go.Nm
theorem zby (p q : List UInt8) (which : Int) (w0 : 0 <= which) (w1 : which < 256) : (zaY p q which).Out (fun r => r = true) := by
  unfold zaY
  have s0 : SOk 0 0 0 := ⟨Int.le_refl _, Int.le_refl _, Int.le_refl _, by omega⟩
  refine M.o_bindE M.i_pure (M.o_bind (made_out s0 (by omega) (by omega) (by omega)) ?_)
  rintro ⟨ws, u1, x1⟩ ⟨hW, ok1⟩
  dsimp only at hW ok1 ⊢
  have hB := hW.built
  have hO := hB.opened
  have h2 := hW.two
  have h12 := hW.most
  refine M.o_bind (noted_out ok1 (by omega) (by omega)) ?_
  rintro ⟨l, u2, x2⟩ ⟨⟨l6, l7, hl, hN⟩, ok2⟩
  dsimp only at hl hN ok2 ⊢
  have hG : NG ws l := by rw [hl]; exact hN.ng (by omega)
  refine M.o_bind (revised_out ok2 (by omega) (by omega) (by omega)) ?_
  rintro ⟨rv, u3, x3⟩ ⟨hR, _⟩
  dsimp only at hR ⊢
  refine M.o_bindE M.i_pure (M.o_bind (mixed_out s0 (by omega) (n := ws.length) (by omega)) ?_)
  rintro ⟨nm, u4, x4⟩ ⟨hP, _⟩
  dsimp only at hP ⊢
  have hm := NmOk.of hP
  refine M.o_grd (gA3 (by omega) (by omega) (by omega)) (M.o_bind (named_works hB hm) ?_)
  rintro ⟨wa, ws'⟩ ⟨_, hRn⟩
  dsimp only at hRn ⊢
  have hO' := hRn.opened hB
  have hlw := hRn.len
  have hw : ∀ n ∈ l, 0 <= n.work /\ n.work < (ws.length : Int) := fun n hn => ⟨(hG.src n hn).1, (hG.src n hn).2.1⟩
  have hfew := hG.few
  have hrf := hR.few
  have hG' := hRn.ng hG
  have hA : askedE ws rv = 0 := hR.asked hO
  have hlr := (sortL_perm (rv.map fun k => nm.getD k.toNat 0)).length_eq
  rw [List.length_map] at hlr
  have hnd : (rv.map fun k => nm.getD k.toNat 0).Nodup := by
    rw [List.Nodup, List.pairwise_map]
    refine List.Pairwise.imp_of_mem (fun {a b} ha hb hlt e => ?_) hR.asc
    have h1 := hR.lt a ha
    have h3 := hR.lt b hb
    have := hRn.inj a.toNat b.toNat (by omega) (by omega) e
    omega
  have hmem : ∀ x, x ∈ sortL (rv.map fun k => nm.getD k.toNat 0) ↔ ∃ y ∈ rv, nm.getD y.toNat 0 = x := fun x => by
    rw [(sortL_perm _).mem_iff, List.mem_map]
  have hA' : askedE ws' (sortL (rv.map fun k => nm.getD k.toNat 0)) = 0 := by
    rw [asked_list hO']
    refine listed_of (fun x hx => ?_) (sortL_asc hnd)
    obtain ⟨y, hy, rfl⟩ := (hmem x).1 hx
    have h1 := hR.lt y hy
    have h3 := hRn.rng y.toNat (by omega)
    omega
  refine M.o_grdD (by omega) (M.o_bindE (named_notes hm hw) ?_)
  dsimp only
  refine M.o_bindE (named_revised hm hR.lt (by omega)) ?_
  dsimp only
  refine M.o_grd (gA2 (by rw [List.length_map]; exact List.length_pos_iff.2 hR.some) (by rw [List.length_map]; omega)) ?_
  refine M.o_bindE M.i_pure (M.o_bindE M.i_pure (M.o_bindE M.i_pure (M.o_bindE M.i_pure ?_)))
  rw [hG.err hO, hG.vals hO, hG'.err hO', hG'.vals hO', hA, hA']
  dsimp only
  rw [← readyR_ok hA, ← readyR_ok hA']
  refine M.o_f (by simp [valL_len, readyL_len, hlw]) ?_
  have hst := hRn.stale hB hO (hRn.con hR.lt hmem)
  have hv := hRn.vals hB hO hw
  have hy := hRn.ready hB hO hst
  have hlv := valL_len ws l
  have hlv' := valL_len ws' (l.map (renN nm))
  have hlr1 := readyL_len ws (orderP ws) (staleL ws rv)
  have hlr2 := readyL_len ws' (orderP ws') (staleL ws' (sortL (rv.map fun k => nm.getD k.toNat 0)))
  have h5 := M.i_scan (b := zax ws nm (valL ws l) (valL ws' (l.map (renN nm))) (readyL ws (orderP ws) (staleL ws rv)) (readyL ws' (orderP ws') (staleL ws' (sortL (rv.map fun k => nm.getD k.toNat 0))))) ws.length (fun _ => false) (fun i hi _ => ?_) (fun _ => ?_)
  · have e0 := Int.emod_nonneg which (show (ws.length : Int) ≠ 0 by omega)
    have e1 := Int.emod_lt_of_pos which (show (0 : Int) < ws.length by omega)
    obtain ⟨t, ht⟩ := Int.eq_ofNat_of_zero_le e0
    obtain ⟨F, F', e, f1, f2, f3⟩ := freeze_named hRn hB hA hA' hR.lt hmem (t := t) (by omega)
    have hml := hm.len
    rw [List.any_eq_false.2 (fun _ _ => by simp)] at h5
    refine M.o_bindE h5 (M.o_grd (gA2 w0 w1) (M.o_grd (gA2 w0 (by omega)) ?_))
    rw [ht]
    refine M.o_bindE f1 (M.o_grd (gA2 (by omega) (by omega)) (M.o_bindE (by rw [Int.toNat_natCast]; exact f2) ?_))
    dsimp only
    rw [f3]
    simp only [beq_self_eq_true, Bool.and_self, Bool.true_and]
    exact M.o_bindE awake_ends (M.o_pure rfl)
  · have hr := hRn.rng i hi
    have hml := hm.len
    simp only [zax]
    rw [hv i hi, hy i hi]
    simp only [bne_self_eq_false, Bool.or_self, Bool.not_false]
    exact M.i_t (by simpa using hi) (M.grdD (by omega) (M.grdD (by omega) (M.i_grd (gA2 hr.1 (by omega)) (M.i_grd (by rw [Bool.or_eq_true]; exact .inr (decide_eq_true (by omega))) (M.i_grd (by rw [Bool.or_eq_true]; exact .inr (gA2 hr.1 (by omega))) (M.i_f rfl M.i_pure))))))
  · simp only [zax]
    exact M.i_f (by simp) M.i_pure
theorem zbp (p q : List UInt8) (which : UInt8) : (zaY p q (which.toNat : Int)).Ends true := by
  have hw := which.toNat_lt
  obtain ⟨r, h, rfl⟩ := zby p q (which.toNat : Int) (by omega) (by omega)
  exact h
end Go.Proofs.Ytndobgodeicloaa
