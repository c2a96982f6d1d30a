/- Part 6 of the texts on which the proof rests. Conditions: none. -/
import Derived.Test.YtclhljenjphofaaZU5
set_option linter.unusedVariables false
set_option linter.unusedSimpArgs false
set_option linter.unusedSectionVars false
namespace Go.Nm
variable {ls ms : List Line} {n : Int} {f g : Int → Int}
/-- A line whose marks are named otherwise, and that may be levelled the other way. -/
def tn (f : Int → Int) (r : Bool) (l : Line) : Line := match r with
  | true => { l with src := f l.dst, dst := f l.src, rise := -l.rise }
  | false => { l with src := f l.src, dst := f l.dst }
structure Ren (n : Int) (f g : Int → Int) (ls ms : List Line) : Prop where
  fr : ∀ v, 0 ≤ v → v < n → (0 ≤ f v ∧ f v < n) ∧ g (f v) = v
  gr : ∀ v, 0 ≤ v → v < n → (0 ≤ g v ∧ g v < n) ∧ f (g v) = v
  lo : NetOk n ls
  mo : NetOk n ms
  fw : ∀ l, l ∈ ls → ∃ r, tn f r l ∈ ms
  bw : ∀ l, l ∈ ms → ∃ r, tn g r l ∈ ls
theorem Ren.symm (h : Ren n f g ls ms) : Ren n g f ms ls := ⟨h.gr, h.fr, h.mo, h.lo, h.bw, h.fw⟩
theorem Ren.ed (h : Ren n f g ls ms) : ∀ a b c, Ed ls a b c → Ed ms (f a) (f b) c := by
  rintro a b c ⟨l, hl, hh⟩
  obtain ⟨r, hr⟩ := h.fw l hl
  refine ⟨tn f r l, hr, ?_⟩
  cases r with
  | true =>
    rcases hh with ⟨rfl, rfl, rfl⟩ | ⟨rfl, rfl, rfl⟩
    · exact .inr ⟨rfl, rfl, by unfold tn; dsimp only; omega⟩
    · exact .inl ⟨rfl, rfl, by unfold tn; dsimp only; omega⟩
  | false =>
    rcases hh with ⟨rfl, rfl, rfl⟩ | ⟨rfl, rfl, rfl⟩
    · exact .inl ⟨rfl, rfl, rfl⟩
    · exact .inr ⟨rfl, rfl, rfl⟩
theorem Ren.tied (h : Ren n f g ls ms) {a b : Int} (t : Tied ls a b) : Tied ms (f a) (f b) := by
  obtain ⟨vs, c, w⟩ := t
  exact ⟨vs.map f, c, w.map h.ed⟩
theorem Ren.tied' (h : Ren n f g ls ms) {a b : Int} (ha : 0 ≤ a ∧ a < n) (hb : 0 ≤ b ∧ b < n) (t : Tied ms (f a) (f b)) : Tied ls a b := by
  have := h.symm.tied t
  rwa [(h.fr a ha.1 ha.2).2, (h.fr b hb.1 hb.2).2] at this
theorem Ren.agr (h : Ren n f g ls ms) (hA : Agr ms) : Agr ls := by
  obtain ⟨H, hF⟩ := hA
  exact ⟨fun v => H (f v), feas_of fun a b c he => hF.ed (h.ed a b c he)⟩
theorem Ren.dist (h : Ren n f g ls ms) {a b d : Int} (ha : 0 ≤ a ∧ a < n) (hb : 0 ≤ b ∧ b < n) (hD : IsDist ls a b d) : IsDist ms (f a) (f b) d := by
  obtain ⟨vs, w⟩ := hD.has
  refine ⟨⟨vs.map f, w.map h.ed⟩, fun us c w2 => ?_⟩
  have w3 := w2.map h.symm.ed
  rw [(h.fr a ha.1 ha.2).2, List.map_cons, (h.fr b hb.1 hb.2).2] at w3
  exact hD.le _ _ w3
theorem btw_ren (h : Ren n f g ls ms) {a b : Int} (ha : 0 ≤ a ∧ a < n) (hb : 0 ≤ b ∧ b < n) {r s : Int × Int × Int} (hr : Btw ls a b r) (hs : Btw ms (f a) (f b) s) : r = s := by
  by_cases hA : Agr ls
  · have hB := h.symm.agr hA
    by_cases t : Tied ls a b
    · obtain ⟨e1, d1, d2⟩ := hr.yes hA t
      obtain ⟨e2, d3, d4⟩ := hs.yes hB (h.tied t)
      have h1 := d3.uniq (h.dist ha hb d1)
      have h2 := d4.uniq (h.dist hb ha d2)
      obtain ⟨r1, r2, r3⟩ := r
      obtain ⟨s1, s2, s3⟩ := s
      dsimp only at *
      rw [e1, e2, h1, show r1 = s1 by omega]
    · rw [hr.far hA t, hs.far hB fun k => t (h.tied' ha hb k)]
  · rw [hr.no hA, hs.no fun k => hA (h.agr k)]
def ext (n : Int) (f : Int → Int) (v : Int) : Int := if v = n then n else f v
theorem ren_pt (h : Ren n f g ls ms) {mk d : Int} (hm : 0 ≤ mk ∧ mk < n) : ∀ l, l ∈ ptL n ⟨mk, d⟩ ls → ∃ r, tn (ext n f) r l ∈ ptL n ⟨f mk, d⟩ ms := by
  intro l hl
  obtain ⟨k, hk, rfl⟩ := List.mem_map.1 hl
  obtain ⟨r, hr⟩ := h.fw k hk
  refine ⟨r, List.mem_map.2 ⟨_, hr, ?_⟩⟩
  have hR := h.lo.rng k hk
  have key : ∀ x, 0 ≤ x → x < n → ext n f (if x = mk then n else x) = if f x = f mk then n else f x := by
    intro x h0 h1
    unfold ext
    by_cases e : x = mk
    · rw [if_pos e, if_pos rfl, if_pos (by rw [e])]
    · rw [if_neg e, if_neg (by omega), if_neg]
      intro e2
      have h2 := (h.fr x h0 h1).2
      rw [e2, (h.fr mk hm.1 hm.2).2] at h2
      exact e h2.symm
  have plain : ∀ x, x < n → ext n f x = f x := fun x h1 => by unfold ext; rw [if_neg (by omega)]
  have k1 := key k.src hR.1.1 hR.1.2
  have k2 := key k.dst hR.2.1 hR.2.2
  have p1 := plain k.src hR.1.2
  have p2 := plain k.dst hR.2.2
  dsimp only
  unfold pt1
  by_cases hd : k.day < d
  · rw [if_pos hd, if_pos (by cases r <;> exact hd)]
    cases r <;> unfold tn <;> dsimp only <;> rw [p1, p2]
  · rw [if_neg hd, if_neg (by cases r <;> exact hd)]
    cases r <;> unfold tn <;> dsimp only <;> rw [k1, k2]
theorem Ren.part (h : Ren n f g ls ms) (hn : n < 12) {mk d : Int} (hm : 0 ≤ mk ∧ mk < n) : Ren (n + 1) (ext n f) (ext n g) (ptL n ⟨mk, d⟩ ls) (ptL n ⟨f mk, d⟩ ms) := by
  have fm := h.fr mk hm.1 hm.2
  refine ⟨fun v h0 h1 => ?_, fun v h0 h1 => ?_, ptL_ok h.lo hn hm, ptL_ok h.mo hn fm.1, ren_pt h hm, fun l hl => ?_⟩
  · unfold ext
    by_cases e : v = n
    · rw [if_pos e, if_pos rfl]; omega
    · have := h.fr v h0 (by omega)
      rw [if_neg e, if_neg (by omega)]
      exact ⟨by omega, this.2⟩
  · unfold ext
    by_cases e : v = n
    · rw [if_pos e, if_pos rfl]; omega
    · have := h.gr v h0 (by omega)
      rw [if_neg e, if_neg (by omega)]
      exact ⟨by omega, this.2⟩
  · have := ren_pt h.symm (mk := f mk) (d := d) fm.1 l hl
    rwa [fm.2] at this
theorem Ren.dy (h : Ren n f g ls ms) {mk d : Int} (hd : Dy ls mk d) : Dy ms (f mk) d := by
  refine ⟨?_, hd.2⟩
  rcases hd.1 with rfl | ⟨l, hl, hm, rfl⟩
  · exact .inl rfl
  · obtain ⟨r, hr⟩ := h.fw l hl
    refine .inr ⟨_, hr, ?_, by cases r <;> rfl⟩
    cases r with
    | true =>
      rcases hm with rfl | rfl
      · exact .inr rfl
      · exact .inl rfl
    | false =>
      rcases hm with rfl | rfl
      · exact .inl rfl
      · exact .inr rfl
theorem asc_one {l : List Mv} (h : l.Pairwise (fun a b => a.mark < b.mark)) {x y : Mv} (hx : x ∈ l) (hy : y ∈ l) (e : x.mark = y.mark) : x = y := by
  induction l with
  | nil => cases hx
  | cons a l ih =>
    rw [List.pairwise_cons] at h
    rcases List.mem_cons.1 hx with e1 | hx2 <;> rcases List.mem_cons.1 hy with e2 | hy2
    · rw [e1, e2]
    · have := h.1 y hy2; rw [e1] at e; omega
    · have := h.1 x hx2; rw [e2] at e; omega
    · exact ih h.2 hx2 hy2
theorem len_sub : ∀ {l m : List Int}, l.Nodup → (∀ x, x ∈ l → x ∈ m) → l.length ≤ m.length
  | [], _, _, _ => Nat.zero_le _
  | x :: l, m, hn, hs => by
    rw [List.nodup_cons] at hn
    have hx := hs x (List.mem_cons_self ..)
    have h1 := List.length_erase_of_mem hx
    have h2 := List.length_pos_of_mem hx
    have := len_sub (l := l) (m := m.erase x) hn.2 fun y hy => (List.mem_erase_of_ne (fun e => hn.1 (by rw [← e]; exact hy))).2 (hs y (List.mem_cons_of_mem _ hy))
    rw [List.length_cons]
    omega
theorem Ren.mv1 (h : Ren n f g ls ms) (hn : n < 12) {la lb : List Mv} (hA : MvOk n ls n la) (hB : MvOk n ms n lb) {x : Mv} (hx : x ∈ la) : ∃ y, y ∈ lb ∧ y.mark = f x.mark ∧ y.day ≤ x.day := by
  obtain ⟨h1, h2, h3⟩ := hA.each x hx
  have fm := h.fr x.mark h1.1 h1.2
  exact hB.all (f x.mark) x.day fm.1.1 fm.1.2 (h.dy h2) ((h.part hn h1).symm.agr h3)
theorem Ren.mv (h : Ren n f g ls ms) (hn : n < 12) {la lb : List Mv} (hA : MvOk n ls n la) (hB : MvOk n ms n lb) {x : Mv} (hx : x ∈ la) : (⟨f x.mark, x.day⟩ : Mv) ∈ lb := by
  obtain ⟨y, hy, e1, e2⟩ := h.mv1 hn hA hB hx
  obtain ⟨z, hz, e3, e4⟩ := h.symm.mv1 hn hB hA hy
  have h1 := (hA.each x hx).1
  rw [e1, (h.fr x.mark h1.1 h1.2).2] at e3
  obtain rfl := asc_one hA.asc hz hx e3
  have : y.day = z.day := by omega
  rw [← e1, ← this]
  exact hy
theorem Ren.mvlen (h : Ren n f g ls ms) (hn : n < 12) {la lb : List Mv} (hA : MvOk n ls n la) (hB : MvOk n ms n lb) : la.length ≤ lb.length := by
  have := len_sub (l := la.map fun x => f x.mark) (m := lb.map (·.mark)) ?_ ?_
  · rwa [List.length_map, List.length_map] at this
  · unfold List.Nodup
    rw [List.pairwise_map]
    refine List.Pairwise.imp_of_mem (R := fun a b => a.mark < b.mark) ?_ hA.asc
    intro a b ha hb hlt e
    have h1 := (hA.each a ha).1
    have h2 := (hA.each b hb).1
    have h3 := (h.fr a.mark h1.1 h1.2).2
    rw [e, (h.fr b.mark h2.1 h2.2).2] at h3
    omega
  · intro x hx
    obtain ⟨a, ha, rfl⟩ := List.mem_map.1 hx
    exact List.mem_map.2 ⟨_, h.mv hn hA hB ha, rfl⟩
/-! ### Names by a list -/
def upto (n : Nat) : List Int := (List.range n).map fun j : Nat => (j : Int)
theorem upto_succ (n : Nat) : upto (n + 1) = upto n ++ [(n : Int)] := by
  unfold upto
  rw [List.range_succ, List.map_append]
  rfl
theorem mem_upto {n : Nat} {x : Int} : x ∈ upto n ↔ 0 ≤ x ∧ x < n := by
  unfold upto
  rw [List.mem_map]
  constructor
  · rintro ⟨j, hj, rfl⟩
    have := List.mem_range.1 hj
    omega
  · rintro ⟨h0, h1⟩
    exact ⟨x.toNat, List.mem_range.2 (by omega), by omega⟩
theorem upto_nodup : ∀ n, (upto n).Nodup
  | 0 => .nil
  | n + 1 => by
    rw [upto_succ, List.nodup_append]
    refine ⟨upto_nodup n, by simp, fun a ha b hb e => ?_⟩
    have := mem_upto.1 ha
    obtain rfl : b = n := by simpa using hb
    omega
theorem set_perm (l : List Int) {i j : Nat} (hi : i < l.length) (hj : j < l.length) : ((l.set i (l.getD j 0)).set j (l.getD i 0)).Perm l := by
  rw [getD_el l hi 0, getD_el l hj 0]
  exact List.set_set_perm hi hj
theorem perm_rng {l : List Int} {n : Nat} (h : l.Perm (upto n)) : l.length = n ∧ ∀ x, x ∈ l ↔ 0 ≤ x ∧ x < (n : Int) :=
  ⟨by rw [h.length_eq]; simp [upto], fun x => by rw [h.mem_iff]; exact mem_upto⟩
theorem perm_inv {l : List Int} {n : Nat} (h : l.Perm (upto n)) : ∃ g : Int → Int, (∀ v, 0 ≤ v → v < (n : Int) → (0 ≤ l.getD v.toNat 0 ∧ l.getD v.toNat 0 < n) ∧ g (l.getD v.toNat 0) = v) ∧ ∀ v, 0 ≤ v → v < (n : Int) → (0 ≤ g v ∧ g v < n) ∧ l.getD (g v).toNat 0 = v := by
  obtain ⟨hl, hm⟩ := perm_rng h
  have hn : l.Nodup := h.symm.nodup (upto_nodup n)
  have ex : ∀ v, 0 ≤ v → v < (n : Int) → ∃ i, i < l.length ∧ l.getD i 0 = v := fun v h0 h1 => mem_getD ((hm v).2 ⟨h0, h1⟩) 0
  haveI := fun v => Classical.propDecidable (∃ i, i < l.length ∧ l.getD i 0 = v)
  refine ⟨fun v => if h : ∃ i, i < l.length ∧ l.getD i 0 = v then (h.choose : Int) else 0, fun v h0 h1 => ?_, fun v h0 h1 => ?_⟩
  · have hv : v.toNat < l.length := by omega
    have hr := (hm _).1 (show l.getD v.toNat 0 ∈ l by rw [getD_el l hv]; exact List.getElem_mem hv)
    refine ⟨hr, ?_⟩
    have e : ∃ i, i < l.length ∧ l.getD i 0 = l.getD v.toNat 0 := ⟨_, hv, rfl⟩
    dsimp only
    rw [dif_pos e]
    obtain ⟨c1, c2⟩ := e.choose_spec
    generalize e.choose = i at c1 c2
    rw [getD_el l c1, getD_el l hv] at c2
    have : i = v.toNat := by
      rcases Nat.lt_trichotomy i v.toNat with h2 | h2 | h2
      · exact absurd c2 (List.pairwise_iff_getElem.1 hn _ _ c1 hv h2)
      · exact h2
      · exact absurd c2.symm (List.pairwise_iff_getElem.1 hn _ _ hv c1 h2)
    omega
  · have e := ex v h0 h1
    dsimp only
    rw [dif_pos e]
    obtain ⟨c1, c2⟩ := e.choose_spec
    exact ⟨by omega, by rw [Int.toNat_natCast]; exact c2⟩
/-- Lines that may be misread. -/
structure LnM (n k : Int) (l : Line) : Prop where
  src : 0 ≤ l.src ∧ l.src < n
  dst : 0 ≤ l.dst ∧ l.dst < n
  ne : l.src ≠ l.dst
  day : 0 ≤ l.day ∧ l.day ≤ 40000
  err : 0 ≤ l.err ∧ l.err ≤ 10000
  rise : -k ≤ l.rise ∧ l.rise ≤ k
theorem lnm_ok {k : Int} (hm : 1 ≤ n ∧ n ≤ 12) (hk : k ≤ 1000000) (hl : ls.length ≤ 30) (h : ∀ l, l ∈ ls → LnM n k l) : NetOk n ls :=
  ⟨hm, hl, fun l hl => ⟨(h l hl).src, (h l hl).dst⟩, fun l hl => (h l hl).ne, fun l hl => (h l hl).day, fun l hl => by have := (h l hl).rise; omega, fun l hl => (h l hl).err⟩
end Go.Nm
namespace Go.Proofs.Ytclhljenjphofaa
open Go Go.Nm
variable {ls ms : List Line} {n : Int} {f g : Int → Int}
theorem mixed_out {b : List UInt8} {c u x : Int} (h : SOk c u x) (hc : c ≤ 100000000) {n : Nat} (hn : n ≤ 10000) :
    (m_nilometerkit_Mixed b u x (n : Int)).Out (fun y => y.1.Perm (upto n) ∧ SOk (c + n) y.2.1 y.2.2) := by
  unfold m_nilometerkit_Mixed
  refine M.o_bind (P := fun y => y.2.1.Perm (upto n) ∧ SOk (c + n) y.2.2.1 y.2.2.2) ?_ (fun y hy => M.o_pure hy)
  refine M.o_for n (fun i st => st.2.2.1 = i ∧ SOk (c + (i : Int)) st.1 st.2.1 ∧ st.2.2.2.Perm (upto i)) ?_ ?_ (s := (u, x, 0, [])) ⟨rfl, h.mono (by omega), List.Perm.refl _⟩
  · rintro i ⟨u, x, j, l⟩ hi ⟨rfl, ok, hp⟩
    dsimp only at hi ok hp ⊢
    have hl := (perm_rng hp).1
    simp only [m_nilometerkit_Mixed_b0]
    refine M.o_t (by simpa using hi) (M.o_grd (gA2 (by omega) (by omega)) (M.o_bind (next_out ok (by omega) (by omega)) ?_))
    rintro ⟨r, u', x'⟩ ⟨ok', lt, _⟩
    dsimp only at ok' lt ⊢
    have lt := lt (by omega)
    have hl2 : (l ++ [(j : Int)]).length = j + 1 := by simp [hl]
    refine M.o_grdD (by simp only [List.length_cons, List.length_nil]; omega) (M.o_grd (gA2 lt.1 (by omega)) (M.o_grdD (by omega) (M.o_grd (gA2 lt.1 (by rw [List.length_set]; omega)) (M.o_pure ⟨rfl, ok'.mono (by omega), ?_⟩))))
    dsimp only
    rw [upto_succ]
    exact (set_perm _ (by omega) (by omega)).trans (List.Perm.append_right _ hp)
  · rintro ⟨u, x, j, l⟩ ⟨rfl, ok, hp⟩
    dsimp only at ok hp ⊢
    simp only [m_nilometerkit_Mixed_b0]
    exact M.o_f (by simp) (M.o_pure ⟨hp, ok⟩)
theorem idx_mv {l : List Mv} {v : Mv} (h : v ∈ l) : (m_slices_Contains_level_Move l v).Ends true := by
  have out : (m_slices_Contains_level_Move l v).Out (fun r => r = true) := by
    unfold m_slices_Contains_level_Move m_slices_Index_level_Move
    refine M.o_bind (P := fun r => 0 ≤ r) ?_ (fun r hr => M.o_pure (decide_eq_true hr))
    refine M.o_bind (P := fun y => match y with | .inl r => 0 ≤ r | .inr _ => False) ?_ (fun y hy => by
      rcases y with y | y
      · exact M.o_pure hy
      · exact hy.elim)
    refine M.o_for l.length (fun i s => s = i ∧ ¬ v ∈ l.take i) ?_ ?_ (s := 0) ⟨rfl, by simp⟩
    · rintro i s hi ⟨rfl, hJ⟩
      simp only [m_slices_Index_level_Move_b0]
      refine M.o_t (by simpa using hi) (M.o_grd (by simpa using hi) (M.o_if (fun hb => M.o_pure (by dsimp only; omega)) (fun hb => M.o_pure ⟨rfl, ?_⟩)))
      rw [← take_succ_D l s hi default]
      have := of_decide_eq_false hb
      intro hm
      rcases List.mem_append.1 hm with hm | hm
      · exact hJ hm
      · exact this (by simpa using hm)
    · rintro s ⟨rfl, hJ⟩
      rw [List.take_length] at hJ
      exact absurd h hJ
  obtain ⟨r, h, rfl⟩ := out
  exact h
theorem misread {b : List UInt8} {c u x r3 : Int} (h : SOk c u x) (hc : c ≤ 10000000) (h3 : 0 ≤ r3 ∧ r3 < 3) (hl : 1 ≤ ls.length ∧ ls.length ≤ 14) (hh : ∀ l, l ∈ ls → LnM n 700 l) :
    (M.iter (m_nilometerlaw01_LevelTurned_b0 b r3) (ls, u, x, 0)).Out (fun y => y.2.2.2.length = ls.length ∧ ∀ l, l ∈ y.2.2.2 → LnM n 1000 l) := by
  refine M.o_for (Int.toNat r3) (fun i st => st.2.2.2 = i ∧ SOk (c + 2 * i) st.2.1 st.2.2.1 ∧ st.1.length = ls.length ∧ ∀ l, l ∈ st.1 → LnM n (700 + 60 * i) l) ?_ ?_ (s := (ls, u, x, 0)) ⟨rfl, h.mono (by omega), rfl, fun l hl => by simpa using hh l hl⟩
  · rintro i ⟨l, u, x, s⟩ hi ⟨rfl, ok, hlen, hJ⟩
    dsimp only at hi ok hlen hJ
    simp only [m_nilometerlaw01_LevelTurned_b0]
    refine M.o_t (decide_eq_true (by omega)) (M.o_bind (next_out ok (by omega) (by omega)) ?_)
    rintro ⟨r4, u1, x1⟩ ⟨ok1, lt1, _⟩
    dsimp only at ok1 lt1 ⊢
    have lt1 := lt1 (by omega)
    have hk : r4.toNat < l.length := by omega
    have hr := hJ (l.getD r4.toNat default) (by rw [getD_el l hk]; exact List.getElem_mem hk)
    refine M.o_grd (gA2 (by omega) (by omega)) (M.o_bind (within_out ok1 (by omega) (by omega) (by omega) (by omega)) ?_)
    rintro ⟨r5, u2, x2⟩ ⟨ok2, w1, w2⟩
    dsimp only at ok2 w1 w2 ⊢
    have hr1 := hr.rise
    refine M.o_grd (gA2 (by omega) (by omega)) (M.o_grd (gA2 (by omega) (by omega)) (M.o_pure ⟨rfl, ok2.mono (by omega), by simpa using hlen, fun l' hl' => ?_⟩))
    rcases List.mem_or_eq_of_mem_set hl' with hl' | rfl
    · have := hJ l' hl'
      have h6 := this.rise
      exact ⟨this.src, this.dst, this.ne, this.day, this.err, by omega⟩
    · exact ⟨hr.src, hr.dst, hr.ne, hr.day, hr.err, by dsimp only; omega⟩
  · rintro ⟨l, u, x, s⟩ ⟨rfl, ok, hlen, hJ⟩
    dsimp only at ok hlen hJ
    simp only [m_nilometerlaw01_LevelTurned_b0]
    refine M.o_f (decide_eq_false (by omega)) (M.o_pure ⟨hlen, fun l hl => ?_⟩)
    have := hJ l hl
    have h6 := this.rise
    exact ⟨this.src, this.dst, this.ne, this.day, this.err, by omega⟩
theorem turned {b : List UInt8} {c u x : Int} (h : SOk c u x) (hc : c ≤ 10000000) {r6 r7 : List Int} {N : Nat} (h6 : r6.Perm (upto N)) (h7 : r7.Perm (upto ls.length)) (hl : ls.length ≤ 14) (hh : ∀ l, l ∈ ls → LnM N 1000 l) :
    (M.iter (m_nilometerlaw01_LevelTurned_b4 b ls r6 r7) (u, x, 0, [])).Out (fun y => y.2.1.length = r7.length ∧ ∀ j : Nat, j < r7.length → ∃ r, y.2.1.getD j default = tn (fun v => r6.getD v.toNat 0) r (ls.getD (r7.getD j 0).toNat default)) := by
  obtain ⟨l6, m6⟩ := perm_rng h6
  obtain ⟨l7, m7⟩ := perm_rng h7
  refine M.o_for r7.length (fun i st => st.2.2.1 = i ∧ SOk (c + i) st.1 st.2.1 ∧ st.2.2.2.length = i ∧ ∀ j : Nat, j < i → ∃ r, st.2.2.2.getD j default = tn (fun v => r6.getD v.toNat 0) r (ls.getD (r7.getD j 0).toNat default)) ?_ ?_ (s := (u, x, 0, [])) ⟨rfl, h.mono (by omega), rfl, fun j hj => by omega⟩
  · rintro i ⟨u, x, s, l⟩ hi ⟨rfl, ok, hlen, hJ⟩
    dsimp only at hi ok hlen hJ
    simp only [m_nilometerlaw01_LevelTurned_b4]
    have hk := (m7 (r7.getD s 0)).1 (by rw [getD_el r7 hi]; exact List.getElem_mem hi)
    have hk2 : (r7.getD s 0).toNat < ls.length := by omega
    have hn := hh (ls.getD (r7.getD s 0).toNat default) (by rw [getD_el ls hk2]; exact List.getElem_mem hk2)
    have s1 := hn.src
    have s2 := hn.dst
    have s3 := hn.rise
    refine M.o_t (by simpa using hi) (M.o_grd (by simpa using hi) (M.o_grd (gA2 (by omega) (by omega)) (M.o_grd (gA2 (by omega) (by omega)) (M.o_grd (gA2 (by omega) (by omega)) (M.o_bind (next_out ok (by omega) (by omega)) ?_)))))
    rintro ⟨r8, u1, x1⟩ ⟨ok1, _, _⟩
    dsimp only at ok1 ⊢
    have put : ∀ (y : Line) (r : Bool), y = tn (fun v => r6.getD v.toNat 0) r (ls.getD (r7.getD s 0).toNat default) → ∀ j : Nat, j < s + 1 → ∃ r, (l ++ [y]).getD j default = tn (fun v => r6.getD v.toNat 0) r (ls.getD (r7.getD j 0).toNat default) := by
      intro y r hy j hj
      by_cases e : j = s
      · subst e
        refine ⟨r, ?_⟩
        rw [← hy, ← hlen]
        simp [List.getD_eq_getElem?_getD]
      · obtain ⟨r', hr'⟩ := hJ j (by omega)
        refine ⟨r', ?_⟩
        rw [← hr', List.getD_eq_getElem?_getD, List.getElem?_append_left (by omega), ← List.getD_eq_getElem?_getD]
    unfold m_nilometerlaw01_LevelTurned_j3
    refine M.o_if (fun hb => ?_) (fun hb => ?_)
    · exact M.o_grd (gA2 (by omega) (by omega)) (M.o_grdD (by simp only [List.length_cons, List.length_nil]; omega) (M.o_pure ⟨rfl, ok1.mono (by omega), by simp [hlen], put _ true rfl⟩))
    · exact M.o_grdD (by simp only [List.length_cons, List.length_nil]; omega) (M.o_pure ⟨rfl, ok1.mono (by omega), by simp [hlen], put _ false rfl⟩)
  · rintro ⟨u, x, s, l⟩ ⟨rfl, ok, hlen, hJ⟩
    dsimp only at hlen hJ
    simp only [m_nilometerlaw01_LevelTurned_b4]
    exact M.o_f (by simp) (M.o_pure ⟨hlen, hJ⟩)
theorem ren_of {N : Nat} {r6 r7 : List Int} (hN : 1 ≤ N ∧ N ≤ 12) (h6 : r6.Perm (upto N)) (h7 : r7.Perm (upto ls.length)) (hl : ls.length ≤ 14) (hh : ∀ l, l ∈ ls → LnM N 1000 l) (e1 : ms.length = r7.length)
    (e2 : ∀ j : Nat, j < r7.length → ∃ r, ms.getD j default = tn (fun v => r6.getD v.toNat 0) r (ls.getD (r7.getD j 0).toNat default)) : ∃ g, Ren N (fun v => r6.getD v.toNat 0) g ls ms := by
  obtain ⟨g, h1, h2⟩ := perm_inv h6
  obtain ⟨l7, m7⟩ := perm_rng h7
  have from_ : ∀ l, l ∈ ms → ∃ r k, k ∈ ls ∧ l = tn (fun v => r6.getD v.toNat 0) r k := by
    intro l hm
    obtain ⟨j, hj, rfl⟩ := mem_getD hm default
    obtain ⟨r, hr⟩ := e2 j (by omega)
    have hi : j < r7.length := by omega
    have hk := (m7 (r7.getD j 0)).1 (by rw [getD_el r7 hi]; exact List.getElem_mem hi)
    have hk2 : (r7.getD j 0).toNat < ls.length := by omega
    exact ⟨r, _, by rw [getD_el ls hk2]; exact List.getElem_mem hk2, hr⟩
  refine ⟨g, h1, h2, lnm_ok (by omega) (by omega) (by omega) hh, lnm_ok (k := 1000) (by omega) (by omega) (by omega) fun l hm => ?_, fun l hm => ?_, fun l hm => ?_⟩
  · obtain ⟨r, k, hk, rfl⟩ := from_ l hm
    have q := hh k hk
    have q1 := h1 k.src q.src.1 q.src.2
    have q2 := h1 k.dst q.dst.1 q.dst.2
    have q3 := q.rise
    have ne : r6.getD k.src.toNat 0 ≠ r6.getD k.dst.toNat 0 := fun e => by
      have := q1.2
      rw [e, q2.2] at this
      exact q.ne this.symm
    cases r with
    | true => exact ⟨q2.1, q1.1, fun e => ne e.symm, q.day, q.err, by unfold tn; dsimp only; omega⟩
    | false => exact ⟨q1.1, q2.1, ne, q.day, q.err, q3⟩
  · obtain ⟨i, hi, rfl⟩ := mem_getD hm default
    obtain ⟨j, hj, e⟩ := mem_getD ((m7 (i : Int)).2 ⟨by omega, by omega⟩) 0
    obtain ⟨r, hr⟩ := e2 j hj
    rw [e, Int.toNat_natCast] at hr
    refine ⟨r, ?_⟩
    rw [← hr, getD_el ms (show j < ms.length by omega)]
    exact List.getElem_mem _
  · obtain ⟨r, k, hk, rfl⟩ := from_ l hm
    have q := hh k hk
    have q1 := (h1 k.src q.src.1 q.src.2).2
    have q2 := (h1 k.dst q.dst.1 q.dst.2).2
    refine ⟨r, ?_⟩
    have : tn g r (tn (fun v => r6.getD v.toNat 0) r k) = k := by
      cases r <;> unfold tn <;> dsimp only <;> rw [q1, q2] <;> (try rw [Int.neg_neg])
    rw [this]
    exact hk
theorem levelTurned_ends (p q o : List UInt8) : (m_nilometerlaw01_LevelTurned p q o).Ends true := by
  have out : (m_nilometerlaw01_LevelTurned p q o).Out (fun r => r = true) := by
    unfold m_nilometerlaw01_LevelTurned
    refine M.o_bindE (new_ends p) (M.o_bind (made_out sok0 (by omega) (by omega) (by omega)) ?_)
    rintro ⟨n, ls, hs, q1, q2⟩ ⟨hA, _⟩
    dsimp only at hA ⊢
    have n2 := hA.two
    have l1 := hA.one
    refine M.o_bindE (new_ends q) (M.o_bindE (new_ends o) (M.o_bind (next_out sok0 (by omega) (by omega)) ?_))
    rintro ⟨r3, u1, x1⟩ ⟨k1, h1, _⟩
    dsimp only at k1 h1 ⊢
    have h1 := h1 (by omega)
    refine M.o_bind (misread (n := n) k1 (by omega) h1 l1 (fun l hl => by
      have := hA.ln l hl
      have h2 := this.day
      have h3 := this.err
      exact ⟨this.src, this.dst, this.ne, by omega, by omega, this.rise hA.hh⟩)) ?_
    rintro ⟨l2, s4, s5, l3⟩ ⟨e1, e2⟩
    dsimp only at e1 e2 ⊢
    obtain ⟨N, rfl⟩ : ∃ N : Nat, n = N := ⟨n.toNat, by omega⟩
    refine M.o_bind (mixed_out sok0 (by omega) (by omega)) ?_
    rintro ⟨r6, u2, x2⟩ ⟨hp6, k2⟩
    dsimp only at hp6 k2 ⊢
    refine M.o_bind (mixed_out k2 (by omega) (by omega)) ?_
    rintro ⟨r7, u3, x3⟩ ⟨hp7, k3⟩
    dsimp only at hp7 k3 ⊢
    refine M.o_bind (turned k3 (by omega) hp6 hp7 (by omega) e2) ?_
    rintro ⟨l5, l6, s12, s13⟩ ⟨e3, e4⟩
    dsimp only at e3 e4 ⊢
    obtain ⟨g, hR⟩ := ren_of (by omega) hp6 hp7 (by omega) e2 e3 e4
    have o1 := hR.lo
    have o2 := hR.mo
    have l6' := (perm_rng hp6).1
    refine M.o_bind (P := fun y => y = .inr ()) ?_ ?_
    · refine M.o_for N (fun i st => st = i) ?_ ?_ rfl
      · rintro i s hi rfl
        simp only [m_nilometerlaw01_LevelTurned_b11]
        refine M.o_t (decide_eq_true (by omega)) (M.o_bind (P := fun y => y = .inr ()) ?_ (fun y hy => by subst hy; exact M.o_grd (gA2 (by omega) (by omega)) (M.o_pure rfl)))
        refine M.o_for N (fun i st => st = i) ?_ ?_ rfl
        · rintro i k hk rfl
          simp only [m_nilometerlaw01_LevelTurned_b10]
          have f1 := (hR.fr (s : Int) (by omega) (by omega)).1
          have f2 := (hR.fr (k : Int) (by omega) (by omega)).1
          try dsimp only at f1 f2
          rw [Int.toNat_natCast] at f1 f2
          refine M.o_t (decide_eq_true (by omega)) (M.o_bind (between_out o1 (f := (s : Int)) (t := (k : Int)) (by omega) (by omega)) ?_)
          intro x hx
          refine M.o_grdD (by omega) (M.o_grdD (by omega) (M.o_bind (between_out o2 f1 f2) ?_))
          intro y hy
          have : x = y := btw_ren hR (a := (s : Int)) (b := (k : Int)) (by omega) (by omega) hx (by rw [Int.toNat_natCast, Int.toNat_natCast]; exact hy)
          subst this
          obtain ⟨x1, x2, x3⟩ := x
          dsimp only
          unfold m_nilometerlaw01_LevelTurned_j9
          exact M.o_f (by simp) (M.o_grd (gA2 (by omega) (by omega)) (M.o_pure rfl))
        · rintro k rfl
          simp only [m_nilometerlaw01_LevelTurned_b10]
          exact M.o_f (decide_eq_false (by omega)) (M.o_pure rfl)
      · rintro k rfl
        simp only [m_nilometerlaw01_LevelTurned_b11]
        exact M.o_f (decide_eq_false (by omega)) (M.o_pure rfl)
    · intro y hy
      subst hy
      dsimp only
      refine M.o_bind (moves_out o1) ?_
      rintro ⟨la, ea⟩ ⟨a1, a2, a3⟩
      refine M.o_bind (moves_out o2) ?_
      rintro ⟨lb, eb⟩ ⟨b1, b2, b3⟩
      dsimp only at a1 a2 a3 b1 b2 b3 ⊢
      have both : ea = eb ∧ la.length = lb.length ∧ ∀ x, x ∈ la → (0 ≤ x.mark ∧ x.mark < (N : Int)) ∧ (⟨r6.getD x.mark.toNat 0, x.day⟩ : Mv) ∈ lb := by
        by_cases hAg : Agr l3
        · have c1 := a1 hAg
          have c2 := b1 (hR.symm.agr hAg)
          simp only [Prod.mk.injEq] at c1 c2
          obtain ⟨rfl, rfl⟩ := c1
          obtain ⟨rfl, rfl⟩ := c2
          exact ⟨rfl, rfl, fun x hx => by cases hx⟩
        · obtain ⟨rfl, mA⟩ := a3 hAg (by omega)
          obtain ⟨rfl, mB⟩ := b3 (fun h => hAg (hR.agr h)) (by omega)
          exact ⟨rfl, Nat.le_antisymm (hR.mvlen (by omega) mA mB) (hR.symm.mvlen (by omega) mB mA), fun x hx => ⟨(mA.each x hx).1, hR.mv (by omega) mA mB hx⟩⟩
      obtain ⟨rfl, hlen, hall⟩ := both
      refine M.o_f (by rw [hlen]; simp) ?_
      refine M.o_bind (P := fun y => y = .inr ()) ?_ (fun y hy => by subst hy; exact M.o_bindE awake_ends (M.o_pure rfl))
      refine M.o_for la.length (fun i st => st = i) ?_ ?_ rfl
      · rintro i s hi rfl
        simp only [m_nilometerlaw01_LevelTurned_b12]
        obtain ⟨x1, x2⟩ := hall (la.getD s default) (by rw [getD_el la hi]; exact List.getElem_mem hi)
        refine M.o_t (by simpa using hi) (M.o_grd (by simpa using hi) (M.o_grd (gOr2 (by omega) (by omega)) ?_))
        have e : ((decide (((la.getD s default).mark) < 0)) || (decide ((r6.length : Int) ≤ ((la.getD s default).mark)))) = false := by
          rw [decide_eq_false (by omega), decide_eq_false (by omega)]; rfl
        rw [e]
        refine M.o_bindE (a := true) (M.i_opt (fun _ => idx_mv x2) (fun h => by cases h)) (M.o_f rfl (M.o_pure rfl))
      · rintro k rfl
        simp only [m_nilometerlaw01_LevelTurned_b12]
        exact M.o_f (by simp) (M.o_pure rfl)
  obtain ⟨r, h, rfl⟩ := out
  exact h
end Go.Proofs.Ytclhljenjphofaa
