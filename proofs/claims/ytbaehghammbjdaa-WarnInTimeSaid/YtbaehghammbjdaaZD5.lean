/- Part 5 of the texts on which the proof rests. Conditions: none. -/
import Derived.Test.YtbaehghammbjdaaZD4
set_option linter.unusedVariables false
set_option linter.unusedSimpArgs false
set_option linter.unusedSectionVars false
namespace Go.Nm
namespace Wn
/-- A river that is right. -/
structure Rv (dn : List Int) (tr : List Span) (sp : List Int) (tw : List Town) (dl dh : Int) (fl : List Flood) : Prop where
  n1 : 1 <= dn.length
  n12 : dn.length <= 12
  nx : Dn dn
  tl : tr.length = dn.length
  hr : ∀ i, i < tr.length -> 0 <= (tr.getD i default).lo /\ (tr.getD i default).lo <= (tr.getD i default).hi /\ (tr.getD i default).hi <= 1000
  s1 : 1 <= sp.length
  s8 : sp.length <= 8
  sr : sp.Pairwise (· < ·)
  si : ∀ x ∈ sp, 0 <= x /\ x < dn.length
  t8 : tw.length <= 8
  tok : ∀ t ∈ tw, (0 <= t.station /\ t.station < dn.length) /\ (0 <= t.lead /\ t.lead <= 1000) /\ 0 <= t.alarm /\ t.alarm <= 2000
  d0 : 0 <= dl
  d1 : dl <= dh
  d2 : dh <= 1000
  f20 : fl.length <= 20
  fok : ∀ f ∈ fl, f.spring ∈ sp /\ f.stages.length = (P dn f.spring).length /\ ∀ x ∈ f.stages, 0 <= x /\ x <= 2000
theorem sum_step {α : Type} (f : α -> Int) (l : List α) {i : Nat} (h : i < l.length) (d : α) : ((l.take (i + 1)).map f).sum = ((l.take i).map f).sum + f (l.getD i d) := by
  rw [List.take_succ_eq_append_getElem h, List.map_append, List.sum_append, List.map_cons, List.map_nil, List.sum_cons, List.sum_nil, Int.add_zero]
  congr 1
  rw [List.getD_eq_getElem?_getD, List.getElem?_eq_getElem h, Option.getD_some]
theorem sum_in {α : Type} (f : α -> Int) (l : List α) (hb : ∀ s ∈ l, -100000 <= f s /\ f s <= 100000) : -100000 * (l.length : Int) <= (l.map f).sum /\ (l.map f).sum <= 100000 * (l.length : Int) := by
  induction l with
  | nil => simp
  | cons a l ih =>
    have h1 := ih fun s hs => hb s (by simp [hs])
    have h2 := hb a (by simp)
    rw [List.map_cons, List.sum_cons, List.length_cons]
    omega
end Wn
end Go.Nm
namespace Go.Proofs.Ytbaehghammbjdaa
open Go Go.Nm
theorem added_ends (l : List Span) (hl : l.length <= 100) (hb : ∀ s ∈ l, (-100000 <= s.lo /\ s.lo <= 100000) /\ -100000 <= s.hi /\ s.hi <= 100000) : (zbE l).Ends ((l.map (·.lo)).sum, (l.map (·.hi)).sum) := by
  unfold zbE
  refine M.i_bind (a := ((l.map (·.lo)).sum, (l.map (·.hi)).sum)) ?_ M.i_pure
  refine M.Out.ends ?_
  refine M.o_for l.length (fun i (s : Int × Int × Nat) => s = (((l.take i).map (·.lo)).sum, ((l.take i).map (·.hi)).sum, i)) ?_ ?_ (by simp)
  · rintro i _ hi rfl
    simp only [zbD]
    have a1 := Wn.sum_in (fun s : Span => s.lo) (l.take i) fun s hs => (hb s (List.mem_of_mem_take hs)).1
    have a2 := Wn.sum_in (fun s : Span => s.hi) (l.take i) fun s hs => (hb s (List.mem_of_mem_take hs)).2
    rw [List.length_take] at a1 a2
    have hm : l.getD i default ∈ l := by rw [List.getD_eq_getElem?_getD, List.getElem?_eq_getElem hi, Option.getD_some]; exact List.getElem_mem hi
    have a3 := hb _ hm
    refine M.o_t (decide_eq_true (by omega)) (M.o_grdD (by omega) (M.o_grd (gA2 (by omega) (by omega)) (M.o_grd (gA2 (by omega) (by omega)) (M.o_pure ?_))))
    rw [Wn.sum_step (fun s : Span => s.lo) l hi default, Wn.sum_step (fun s : Span => s.hi) l hi default]
  · rintro _ rfl
    simp only [zbD]
    refine M.o_f (decide_eq_false (by omega)) (M.o_pure ?_)
    rw [List.take_length]
variable {dn : List Int} {tr : List Span} {sp : List Int} {tw : List Town} {dl dh : Int} {fl : List Flood}
/-- A round over a path. -/
theorem path_out {S X : Type} {bd : S -> Int × Int -> M (S ⊕ X)} {Q : S ⊕ X -> Prop} (h : Wn.Dn dn) (h12 : dn.length <= 12) {s : Int} (hs : Wn.Stn dn s) {s0 : S} (J : Nat -> S -> Prop) (h0 : J 0 s0)
    (hr : ∀ k (hk : k < (Wn.P dn s).length) t, J k t -> (bd t ((k : Int), (Wn.P dn s)[k])).Out (fun x => match x with | .inl t' => J (k + 1) t' | .inr x => Q (.inr x))) (hl : ∀ t, J (Wn.P dn s).length t -> Q (.inl t))
    (k11 : List Span) (k12 : List Int) (k13 : List Town) (k14 k15 : Int) (k16 : List Flood) : (zaj (M.yl bd) (.inl s0) s dn k11 k12 k13 k14 k15 k16).Out (fun y => Q y.1) := by
  unfold zaj
  refine M.o_bind (P := fun y => match y with | .inl t => Q t.1 | .inr t => Q t.1) ?_ (fun y hy => by
    cases y with
    | inl t => exact M.o_pure hy
    | inr t => exact M.o_pure hy)
  have hsh := Wn.P_short h hs
  refine M.o_for (Wn.P dn s).length (fun i (t : Int × Nat × (S ⊕ X)) => t.2.1 = i /\ (Wn.P dn t.1 = (Wn.P dn s).drop i /\ Wn.Stn dn t.1) /\ ∃ t', t.2.2 = .inl t' /\ J i t') ?_ ?_ ⟨rfl, ⟨by rw [List.drop_zero], hs⟩, s0, rfl, h0⟩
  · rintro i ⟨c, q, t⟩ hi ⟨e1, ⟨e2, e3⟩, t', e4, hj⟩
    dsimp only at e1 e2 e3 e4
    subst e1 e4
    simp only [zaV]
    have hd : (Wn.P dn s).drop q = (Wn.P dn s)[q] :: (Wn.P dn s).drop (q + 1) := List.drop_eq_getElem_cons hi
    have hc : 0 <= c /\ c < dn.length := by
      rcases e3 with rfl | e3
      · rw [Wn.P_none, hd] at e2
        cases e2
      · exact e3
    rw [Wn.P_cons h hc.1 hc.2, hd] at e2
    obtain ⟨g1, g2⟩ := List.cons.inj e2
    have hx := h.next hc.1 hc.2
    refine M.o_t (by rw [decide_eq_true hc.2]; simp; omega) ?_
    obtain ⟨x, y1, y2⟩ := hr q hi t' hj
    rw [← g1] at y1
    cases x with
    | inl s2 => exact M.o_bindE (a := (true, .inl s2)) (M.i_bind y1 M.i_pure) (M.o_f rfl (M.o_grd (gA2 hc.1 hc.2) (M.o_grd (gA2 (by omega) (by omega)) (M.o_pure ⟨rfl, ⟨g2, h.next_st hc.1 hc.2⟩, s2, rfl, y2⟩))))
    | inr x2 => exact M.o_bindE (a := (false, .inr x2)) (M.i_bind y1 M.i_pure) (M.o_t rfl (M.o_pure y2))
  · rintro ⟨c, q, t⟩ ⟨e1, ⟨e2, e3⟩, t', e4, hj⟩
    dsimp only at e1 e2 e3 e4
    subst e1 e4
    simp only [zaV]
    rw [List.drop_length] at e2
    have hc : c = -1 := by
      rcases e3 with e3 | e3
      · exact e3
      · rw [Wn.P_cons h e3.1 e3.2] at e2
        cases e2
    subst hc
    exact M.o_f (by simp) (M.o_pure (hl t' hj))
theorem travels_ends (R : Wn.Rv dn tr sp tw dl dh fl) {s : Int} (hs : Wn.Stn dn s) (y : Int) :
    (zaF dn tr sp tw dl dh fl s y).Ends (if y ∈ Wn.P dn s then (Wn.sm (Wn.lo tr) (Wn.upto (Wn.P dn s) y), Wn.sm (Wn.hi tr) (Wn.upto (Wn.P dn s) y), true) else (0, 0, false)) := by
  refine M.Out.ends ?_
  unfold zaF
  have hp : (zai dn tr sp tw dl dh fl s).Ends (s, dl, dh) := M.i_pure
  refine M.o_bindE hp ?_
  dsimp only
  have h12 := R.n12
  have hsh := Wn.P_short R.nx hs
  refine M.o_bind (path_out (Q := fun x => match x with | .inl _ => y ∉ Wn.P dn s | .inr (_, _, a, b) => y ∈ Wn.P dn s /\ a = Wn.sm (Wn.lo tr) (Wn.upto (Wn.P dn s) y) /\ b = Wn.sm (Wn.hi tr) (Wn.upto (Wn.P dn s) y)) R.nx R.n12 hs
    (fun k (l : List Span) => l = ((Wn.P dn s).take k).map (fun x => tr.getD (Int.toNat x) default) /\ y ∉ (Wn.P dn s).take k) ⟨by simp, by simp⟩ ?_ ?_ _ _ _ _ _ _) ?_
  · rintro k hk l ⟨rfl, hn⟩
    have hin := Wn.P_mem R.nx s hs _ (List.getElem_mem hk)
    have htl := R.tl
    simp only [zaL]
    refine M.o_if (fun hb => ?_) (fun hb => ?_)
    · have hb : (Wn.P dn s)[k] = y := by simpa using hb
      refine M.o_bindE (added_ends _ (by rw [List.length_map, List.length_take]; omega) fun sp_ hsp => ?_) (M.o_pure ?_)
      · obtain ⟨x, hx, rfl⟩ := List.mem_map.1 hsp
        have h1 := Wn.P_mem R.nx s hs x (List.mem_of_mem_take hx)
        have h2 := R.hr (Int.toNat x) (by omega)
        omega
      · have hu : Wn.upto (Wn.P dn s) y = (Wn.P dn s).take k := Wn.upto_take (by rw [List.getElem?_eq_getElem hk, hb]) fun z hz e => hn (by rw [← e]; exact hz)
        dsimp only
        rw [hu]
        refine ⟨by rw [← hb]; exact List.getElem_mem hk, ?_, ?_⟩
        · unfold Wn.sm
          rw [List.map_map]
          rfl
        · unfold Wn.sm
          rw [List.map_map]
          rfl
    · have hb : (Wn.P dn s)[k] ≠ y := by simpa using hb
      refine M.o_grd (gA2 (by omega) (by omega)) (M.o_grdD (by simp; omega) (M.o_pure ⟨?_, ?_⟩))
      · rw [List.take_succ_eq_append_getElem hk, List.map_append]
        rfl
      · rw [List.take_succ_eq_append_getElem hk, List.mem_append]
        rintro (h1 | h1)
        · exact hn h1
        · exact hb (List.mem_singleton.1 h1).symm
  · rintro l ⟨_, hn⟩
    rw [List.take_length] at hn
    exact hn
  · rintro ⟨x, q⟩ hq
    cases x with
    | inl l =>
      dsimp only at hq ⊢
      refine M.o_pure ?_
      rw [if_neg hq]
    | inr z =>
      obtain ⟨l2, l3, a, b⟩ := z
      dsimp only at hq ⊢
      refine M.o_pure ?_
      rw [if_pos hq.1, hq.2.1, hq.2.2]
theorem in_ends (n a b : Int) : (zac n a b).Ends (decide (a <= n) && decide (n <= b)) := M.i_pure
theorem in_true {n a b : Int} (h1 : a <= n) (h2 : n <= b) : (zac n a b).Ends true := by
  have := in_ends n a b
  rwa [gA2 h1 h2] at this
theorem hours_true {s : Span} (h0 : 0 <= s.lo) (h1 : s.lo <= s.hi) (h2 : s.hi <= 1000) : (zbt s).Ends true := by
  unfold zbt
  exact M.i_bind (in_true h0 h1) (M.i_bind (M.i_opt (fun _ => in_true (by omega) h2) (fun h => by cases h)) M.i_pure)
theorem stage_true {n : Int} (h0 : 0 <= n) (h1 : n <= 2000) : (zba n).Ends true := by
  unfold zba
  exact M.i_bind (in_true h0 h1) M.i_pure
theorem every_town (l : List Town) (so : Town -> M Bool) (h : ∀ t ∈ l, (so t).Ends true) : (zbx l so).Ends true := by
  unfold zbx zaq zbT
  refine M.i_bind (a := false) (M.i_bind (a := -1) (M.i_bind (a := (.inr () : Int ⊕ Unit)) ?_ M.i_pure) M.i_pure) M.i_pure
  refine M.i_for (fun i => i) l.length (fun i hi => ?_) ?_
  · simp only [zaB]
    have hm : l.getD i default ∈ l := by rw [List.getD_eq_getElem?_getD, List.getElem?_eq_getElem hi, Option.getD_some]; exact List.getElem_mem hi
    refine M.i_t (decide_eq_true (by omega)) (M.i_grd (decide_eq_true (by omega)) (M.i_bind (a := false) ?_ (M.i_f rfl M.i_pure)))
    unfold zb8
    exact M.i_bind (h _ hm) M.i_pure
  · simp only [zaB]
    exact M.i_f (decide_eq_false (by omega)) M.i_pure
theorem every_int (l : List Int) (so : Int -> M Bool) (h : ∀ t ∈ l, (so t).Ends true) : (zbF l so).Ends true := by
  unfold zbF zaQ zbM
  refine M.i_bind (a := false) (M.i_bind (a := -1) (M.i_bind (a := (.inr () : Int ⊕ Unit)) ?_ M.i_pure) M.i_pure) M.i_pure
  refine M.i_for (fun i => i) l.length (fun i hi => ?_) ?_
  · simp only [zaK]
    have hm : l.getD i 0 ∈ l := by rw [List.getD_eq_getElem?_getD, List.getElem?_eq_getElem hi, Option.getD_some]; exact List.getElem_mem hi
    refine M.i_t (decide_eq_true (by omega)) (M.i_grd (decide_eq_true (by omega)) (M.i_bind (a := false) ?_ (M.i_f rfl M.i_pure)))
    unfold zcb
    exact M.i_bind (h _ hm) M.i_pure
  · simp only [zaK]
    exact M.i_f (decide_eq_false (by omega)) M.i_pure
theorem contains_true {s : List Int} {v : Int} (h : v ∈ s) : (zbU s v).Ends true := by
  unfold zbU zbh
  have key : (M.iter (zbq s v) 0).Out (fun r => match r with | .inl i => 0 <= i | .inr (_ : Unit) => False) := by
    refine M.o_for s.length (fun i (k : Nat) => k = i /\ ∀ j, j < i -> s.getD j 0 ≠ v) ?_ ?_ ⟨rfl, fun j hj => by omega⟩
    · rintro i _ hi ⟨rfl, hp⟩
      simp only [zbq]
      refine M.o_t (decide_eq_true (by omega)) (M.o_grdD (by omega) (M.o_if (fun hb => M.o_pure (by omega)) (fun hb => M.o_pure ⟨rfl, fun j hj => ?_⟩)))
      rcases Nat.lt_or_eq_of_le (Nat.le_of_lt_succ hj) with e | e
      · exact hp j e
      · subst e
        exact fun e => (beq_eq_false_iff_ne.1 hb) e.symm
    · rintro _ ⟨rfl, hp⟩
      exfalso
      obtain ⟨i, hi, e⟩ := List.getElem_of_mem h
      have := hp i hi
      rw [List.getD_eq_getElem?_getD, List.getElem?_eq_getElem hi, Option.getD_some] at this
      exact this e
  obtain ⟨r, h1, h2⟩ := key
  cases r with
  | inl i => exact M.i_bind (M.i_bind h1 M.i_pure) (by rw [decide_eq_true h2]; exact M.i_pure)
  | inr u => exact h2.elim
theorem rising_true {l : List Int} {n : Int} (hn : 0 <= n /\ n <= 1000) (hu : l.Pairwise (· < ·)) (hb : ∀ x ∈ l, 0 <= x /\ x < n) : (za7 l n).Ends true := by
  unfold za7
  refine M.i_bind (a := (.inr () : Unit ⊕ Unit)) ?_ M.i_pure
  refine M.Out.ends ?_
  refine M.o_for l.length (fun i (s : Int × Nat) => s.2 = i /\ -1 <= s.1 /\ s.1 < 1000 /\ ∀ j, i <= j -> j < l.length -> s.1 < l.getD j 0) ?_ ?_ ⟨rfl, by decide, by decide, fun j _ hj => ?_⟩
  · rintro i ⟨a, q⟩ hi ⟨e1, e2, e3, e4⟩
    dsimp only at e1 e2 e3 e4
    subst e1
    simp only [zbf]
    have hm : l.getD q 0 ∈ l := by rw [List.getD_eq_getElem?_getD, List.getElem?_eq_getElem hi, Option.getD_some]; exact List.getElem_mem hi
    have h1 := hb _ hm
    have h2 := e4 q (Nat.le_refl _) hi
    refine M.o_t (decide_eq_true (by omega)) (M.o_grdD (by omega) (M.o_grd (gA2 (by omega) (by omega)) (M.o_grd (gA2 (by omega) (by omega)) (M.o_bindE (in_true (by omega) (by omega)) (M.o_f rfl (M.o_pure ⟨rfl, by dsimp only; omega, by dsimp only; omega, fun j h3 h4 => ?_⟩))))))
    have := List.pairwise_iff_getElem.1 hu q j hi h4 (by omega)
    dsimp only
    rw [List.getD_eq_getElem?_getD, List.getElem?_eq_getElem hi, Option.getD_some, List.getD_eq_getElem?_getD, List.getElem?_eq_getElem h4, Option.getD_some]
    exact this
  · rintro ⟨a, q⟩ ⟨e1, _⟩
    dsimp only at e1
    subst e1
    simp only [zbf]
    exact M.o_f (decide_eq_false (by omega)) (M.o_pure rfl)
  · have hm : l.getD j 0 ∈ l := by rw [List.getD_eq_getElem?_getD, List.getElem?_eq_getElem hj, Option.getD_some]; exact List.getElem_mem hj
    have := hb _ hm
    dsimp only
    omega
theorem check_ends (R : Wn.Rv dn tr sp tw dl dh fl) : (zbl dn tr sp tw dl dh fl).Ends 0 := by
  have n1 := R.n1
  have n12 := R.n12
  have tl := R.tl
  have s1 := R.s1
  have s8 := R.s8
  have t8 := R.t8
  have f20 := R.f20
  unfold zbl
  refine M.i_bind (in_true (by omega) (by omega)) (M.i_bind (M.i_opt (fun _ => in_true (by omega) (by omega)) (fun h => by simp [tl] at h)) (M.i_f ?_ ?_))
  · rw [decide_eq_false (by omega), decide_eq_false (by omega), tl]
    simp
  refine M.i_bind (a := (.inr () : Int ⊕ Unit)) ?_ ?_
  · refine M.i_for (fun i => i) dn.length (fun i hi => ?_) ?_
    · simp only [zbw]
      have h1 := R.nx i hi
      have h2 := R.hr i (by omega)
      refine M.i_t (decide_eq_true (by omega)) (M.i_grd (decide_eq_true (by omega)) ?_)
      by_cases e : dn.getD i 0 = -1
      · refine M.i_bind (a := false) (M.i_opt (fun h => by rw [e] at h; cases h) (fun _ => rfl)) (M.i_f (by rw [e]; rfl) (M.i_grd (decide_eq_true (by omega)) (M.i_bind (hours_true h2.1 h2.2.1 h2.2.2) (M.i_f rfl M.i_pure))))
      · refine M.i_bind (a := true) (M.i_opt (fun _ => in_true (by omega) (by omega)) (fun h => absurd (bne_eq_false_iff_eq.1 h) e)) (M.i_f (by simp) (M.i_grd (decide_eq_true (by omega)) (M.i_bind (hours_true h2.1 h2.2.1 h2.2.2) (M.i_f rfl M.i_pure))))
    · simp only [zbw]
      exact M.i_f (decide_eq_false (by omega)) M.i_pure
  dsimp only
  refine M.i_bind (rising_true (by omega) R.sr R.si) (M.i_f rfl ?_)
  refine M.i_bind (every_town tw _ fun t ht => ?_) (M.i_bind (a := true) (M.i_opt (fun _ => every_town tw _ fun t ht => ?_) (fun h => by cases h)) (M.i_bind (a := true) (M.i_opt (fun _ => hours_true R.d0 R.d1 R.d2) (fun h => by cases h)) (M.i_f rfl ?_)))
  · have k := R.tok t ht
    unfold zb4
    exact M.i_bind (in_true k.2.1.1 k.2.1.2) (M.i_bind (M.i_opt (fun _ => stage_true k.2.2.1 k.2.2.2) (fun h => by cases h)) M.i_pure)
  · have k := R.tok t ht
    unfold zbJ
    exact M.i_grd (gA2 (by omega) (by omega)) (M.i_bind (in_true k.1.1 (by omega)) M.i_pure)
  refine M.i_bind (a := (.inr () : Int ⊕ Unit)) ?_ M.i_pure
  refine M.Out.ends ?_
  refine M.o_for fl.length (fun i (k : Nat) => k = i) ?_ ?_ rfl
  · rintro _ i hi rfl
    simp only [zbn]
    have hm : fl.getD i default ∈ fl := by rw [List.getD_eq_getElem?_getD, List.getElem?_eq_getElem hi, Option.getD_some]; exact List.getElem_mem hi
    obtain ⟨k1, k2, k3⟩ := R.fok _ hm
    have hs := R.si _ k1
    have hst : Wn.Stn dn (fl.getD i default).spring := .inr hs
    have hsh := Wn.P_short R.nx hst
    have hp : (zai dn tr sp tw dl dh fl (max 0 (fl.getD i default).spring)).Ends ((fl.getD i default).spring, dl, dh) := by
      rw [show max 0 (fl.getD i default).spring = (fl.getD i default).spring by omega]
      exact M.i_pure
    refine M.o_t (decide_eq_true (by omega)) (M.o_grdD (by omega) (M.o_bindE hp ?_))
    dsimp only
    refine M.o_bind (path_out (Q := fun x => x = (.inl ((Wn.P dn (fl.getD i default).spring).length : Int) : Int ⊕ Unit)) R.nx R.n12 hst (fun k (c : Int) => c = (k : Int)) rfl ?_ ?_ _ _ _ _ _ _) ?_
    · rintro k hk _ rfl
      simp only [zax]
      exact M.o_grd (gA2 (by omega) (by omega)) (M.o_pure (by omega))
    · rintro _ rfl
      rfl
    · rintro ⟨x, q⟩ hq
      dsimp only at hq
      subst hq
      dsimp only
      refine M.o_bindE (contains_true k1) (M.o_f (by rw [k2]; simp) (M.o_bindE (every_int _ _ fun x hx => stage_true (k3 x hx).1 (k3 x hx).2) (M.o_f rfl (M.o_pure rfl))))
  · rintro _ rfl
    simp only [zbn]
    exact M.o_f (decide_eq_false (by omega)) (M.o_pure rfl)
theorem opened_ends (R : Wn.Rv dn tr sp tw dl dh fl) : (zao dn tr sp tw dl dh fl).Ends (.inr (dl, dh, 0)) := by
  unfold zao
  exact M.i_bind (check_ends R) (M.i_f rfl M.i_pure)
theorem station_true (R : Wn.Rv dn tr sp tw dl dh fl) {s : Int} (h0 : 0 <= s) (h1 : s < dn.length) : (zbm dn tr sp tw dl dh fl s).Ends true := by
  unfold zbm
  exact M.i_bind (in_true h0 (by omega)) M.i_pure
end Go.Proofs.Ytbaehghammbjdaa
namespace Go.Nm
namespace Wn
def stn (tw : List Town) (d : Dem) : Int := (tw.getD (Int.toNat d.town) default).station
def led (tw : List Town) (d : Dem) : Int := (tw.getD (Int.toNat d.town) default).lead
def meetB (dn : List Int) (tr : List Span) (tw : List Town) (dh : Int) (d : Dem) (s : Int) : Bool := decide (stn tw d ∈ P dn s) && decide (led tw d + dh <= sm (lo tr) (upto (P dn s) (stn tw d)))
/-- The stretch of a demand. -/
def Sd (dn : List Int) (tr : List Span) (tw : List Town) (dh : Int) (d : Dem) : List Int := (P dn d.spring).filter (meetB dn tr tw dh d)
def OkD (dn : List Int) (tw : List Town) (d : Dem) : Prop := (0 <= d.spring /\ d.spring < dn.length) /\ 0 <= d.town /\ d.town < tw.length
def lst (dn : List Int) (tr : List Span) (tw : List Town) (dh : Int) (d : Dem) : Int := (Sd dn tr tw dh d).getD ((Sd dn tr tw dh d).length - 1) 0
def deepD (dn : List Int) (tr : List Span) (tw : List Town) (dh : Int) (d : Dem) : Int := ((P dn (lst dn tr tw dh d)).length : Int)
variable {dn : List Int} {tr : List Span} {tw : List Town} {dh : Int}
theorem mem_Sd {d : Dem} {s : Int} : s ∈ Sd dn tr tw dh d ↔ s ∈ P dn d.spring /\ stn tw d ∈ P dn s /\ led tw d + dh <= sm (lo tr) (upto (P dn s) (stn tw d)) := by
  unfold Sd meetB
  rw [List.mem_filter, Bool.and_eq_true, decide_eq_true_eq, decide_eq_true_eq]
theorem lst_mem {d : Dem} (h : Sd dn tr tw dh d ≠ []) : lst dn tr tw dh d ∈ Sd dn tr tw dh d := by
  have : 0 < (Sd dn tr tw dh d).length := List.length_pos_iff.2 h
  unfold lst
  rw [getD_el _ (by omega)]
  exact List.getElem_mem _
theorem lst_max (hD : Dn dn) {d : Dem} (hs : Stn dn d.spring) {x : Int} (hx : x ∈ Sd dn tr tw dh d) : x <= lst dn tr tw dh d := by
  have hu : (Sd dn tr tw dh d).Pairwise (· < ·) := (P_up hD _ hs).sublist List.filter_sublist
  obtain ⟨i, hi, rfl⟩ := List.getElem_of_mem hx
  unfold lst
  rw [getD_el _ (by omega)]
  rcases Nat.lt_or_eq_of_le (show i <= (Sd dn tr tw dh d).length - 1 by omega) with g | g
  · exact Int.le_of_lt (List.pairwise_iff_getElem.1 hu i _ hi (by omega) g)
  · simp only [← g]
    exact Int.le_refl _
/-- Of two stations of a path the further one is on the path of the other. -/
theorem P_fwd (hD : Dn dn) {x a b : Int} (hx : Stn dn x) (ha : a ∈ P dn x) (hb : b ∈ P dn x) (hab : a <= b) : b ∈ P dn a := by
  have e := P_split hD hx ha
  have hu := P_up hD x hx
  rw [e] at hb hu
  rw [List.pairwise_append] at hu
  rcases List.mem_append.1 hb with h | h
  · have hA := P_mem hD x hx a ha
    have := hu.2.2 b h a (P_self hD hA.2.1 hA.2.2)
    omega
  · exact h
theorem P_len_lt (hD : Dn dn) {a b : Int} (ha : 0 <= a /\ a < dn.length) (hb : b ∈ P dn a) (hne : a ≠ b) : (P dn b).length < (P dn a).length := by
  have e := P_split hD (.inr ha) hb
  have : upto (P dn a) b ≠ [] := by
    rw [P_cons hD ha.1 ha.2]
    unfold upto
    rw [List.takeWhile_cons, if_pos (by simp [hne])]
    simp
  have := List.length_pos_iff.2 this
  have := congrArg List.length e
  rw [List.length_append] at this
  omega
/-- A stretch that leads down to a later demand's meets it. -/
theorem cross (hD : Dn dn) (hlo : ∀ x : Int, 0 <= x -> x < (dn.length : Int) -> 0 <= lo tr x /\ lo tr x <= 1000) {a b : Dem} (ha : OkD dn tw a) (hb : OkD dn tw b) (na : Sd dn tr tw dh a ≠ []) (nb : Sd dn tr tw dh b ≠ []) (hd : deepD dn tr tw dh b <= deepD dn tr tw dh a)
    {x : Int} (xa : x ∈ Sd dn tr tw dh a) (xb : x ∈ Sd dn tr tw dh b) : lst dn tr tw dh a ∈ Sd dn tr tw dh b := by
  have la := lst_mem na
  have lb := lst_mem nb
  have ma := lst_max hD (.inr ha.1) xa
  have mb := lst_max hD (.inr hb.1) xb
  obtain ⟨xa1, _, _⟩ := mem_Sd.1 xa
  obtain ⟨xb1, _, _⟩ := mem_Sd.1 xb
  obtain ⟨la1, _, _⟩ := mem_Sd.1 la
  obtain ⟨lb1, lb2, lb3⟩ := mem_Sd.1 lb
  have xr := P_mem hD _ (.inr ha.1) x xa1
  have hA : lst dn tr tw dh a ∈ P dn x := P_fwd hD (.inr ha.1) xa1 la1 ma
  have hB : lst dn tr tw dh b ∈ P dn x := P_fwd hD (.inr hb.1) xb1 lb1 mb
  have rA := P_mem hD _ (.inr xr.2) _ hA
  have rB := P_mem hD _ (.inr xr.2) _ hB
  have hAB : lst dn tr tw dh a <= lst dn tr tw dh b := by
    rcases Int.lt_or_le (lst dn tr tw dh b) (lst dn tr tw dh a) with g | g
    · have h1 := P_fwd hD (.inr xr.2) hB hA (by omega)
      have h2 := P_len_lt hD rB.2 h1 (by omega)
      unfold deepD at hd
      omega
    · exact g
  have hC := P_fwd hD (.inr xr.2) hA hB hAB
  obtain ⟨c1, c2⟩ := upto_trans hD (.inr rA.2) hC lb2
  refine mem_Sd.2 ⟨(upto_trans hD (.inr hb.1) xb1 hA).1, c1, ?_⟩
  rw [c2, sm_app]
  have := sm_bound (lo tr) (upto (P dn (lst dn tr tw dh a)) (lst dn tr tw dh b)) fun w hw => by
    have h1 := P_mem hD _ (.inr rA.2) w (upto_mem hw).1
    exact hlo w h1.2.1 h1.2.2
  omega
/-- Demands whose stretches have no station in common. -/
def Dj (dn : List Int) (tr : List Span) (tw : List Town) (dh : Int) (a b : Dem) : Prop := ∀ x ∈ Sd dn tr tw dh a, x ∉ Sd dn tr tw dh b
/-- The fewest watches, and demands that prove it. -/
structure Few (dn : List Int) (tr : List Span) (tw : List Town) (dh : Int) (D : List Dem) (ws : List Int) (ap : List Dem) : Prop where
  up : ws.Pairwise (· < ·)
  bd : ∀ x ∈ ws, 0 <= x /\ x < (dn.length : Int)
  ln : ap.length = ws.length
  sub : ∀ a ∈ ap, a ∈ D
  mem : ∀ x, x ∈ ws ↔ ∃ a ∈ ap, x = lst dn tr tw dh a
  dj : ap.Pairwise (Dj dn tr tw dh)
  cov : ∀ d ∈ D, ∃ s ∈ Sd dn tr tw dh d, s ∈ ws
end Wn
end Go.Nm
namespace Go.Proofs.Ytbaehghammbjdaa
open Go Go.Nm
variable {dn : List Int} {tr : List Span} {sp : List Int} {tw : List Town} {dl dh : Int} {fl : List Flood}
theorem dem_town (R : Wn.Rv dn tr sp tw dl dh fl) {d : Dem} (hd : Wn.OkD dn tw d) : (0 <= Wn.stn tw d /\ Wn.stn tw d < (dn.length : Int)) /\ 0 <= Wn.led tw d /\ Wn.led tw d <= 1000 := by
  have h2 := hd.2
  have hm : tw.getD (Int.toNat d.town) default ∈ tw := by rw [getD_el tw (by omega)]; exact List.getElem_mem _
  have := R.tok _ hm
  unfold Wn.stn Wn.led
  omega
theorem lo_small (R : Wn.Rv dn tr sp tw dl dh fl) : ∀ x : Int, 0 <= x -> x < (dn.length : Int) -> 0 <= Wn.lo tr x /\ Wn.lo tr x <= 1000 := fun x h0 h1 => by
  have := R.hr (Int.toNat x) (by have := R.tl; omega)
  unfold Wn.lo
  omega
theorem stretch_ends (R : Wn.Rv dn tr sp tw dl dh fl) {d : Dem} (hd : Wn.OkD dn tw d) : (zaa dn tr sp tw dl dh fl d).Ends (Wn.Sd dn tr tw dh d) := by
  refine M.Out.ends ?_
  unfold zaa
  have hp : (zai dn tr sp tw dl dh fl d.spring).Ends (d.spring, dl, dh) := M.i_pure
  have hst : Wn.Stn dn d.spring := .inr hd.1
  have h12 := R.n12
  have hsh := Wn.P_short R.nx hst
  have ht := dem_town R hd
  have d0 := R.d0
  have d1 := R.d1
  have d2 := R.d2
  refine M.o_grd (gA2 hd.2.1 hd.2.2) (M.o_bindE hp ?_)
  dsimp only
  refine M.o_bind (path_out (Q := fun x => x = (.inl (Wn.Sd dn tr tw dh d) : List Int ⊕ Unit)) R.nx R.n12 hst (fun k (l : List Int) => l = ((Wn.P dn d.spring).take k).filter (Wn.meetB dn tr tw dh d)) (by simp) ?_ ?_ _ _ _ _ _ _) ?_
  · rintro k hk _ rfl
    have hm := Wn.P_mem R.nx _ hst _ (List.getElem_mem hk)
    have A := travels_ends R (.inr hm.2) (Wn.stn tw d)
    have hl : (((Wn.P dn d.spring).take k).filter (Wn.meetB dn tr tw dh d)).length <= 12 := by
      have := List.length_filter_le (Wn.meetB dn tr tw dh d) ((Wn.P dn d.spring).take k)
      rw [List.length_take] at this
      omega
    have hn : ((Wn.P dn d.spring).take (k + 1)).filter (Wn.meetB dn tr tw dh d) = ((Wn.P dn d.spring).take k).filter (Wn.meetB dn tr tw dh d) ++ if Wn.meetB dn tr tw dh d (Wn.P dn d.spring)[k] = true then [(Wn.P dn d.spring)[k]] else [] := by
      rw [List.take_succ_eq_append_getElem hk, List.filter_append]
      congr 1
      by_cases e : Wn.meetB dn tr tw dh d (Wn.P dn d.spring)[k] = true
      · rw [if_pos e, List.filter_cons_of_pos e]; rfl
      · rw [if_neg e, List.filter_cons_of_neg e]; rfl
    simp only [zaE]
    rw [hn]
    unfold Wn.stn at A
    by_cases hy : (tw.getD (Int.toNat d.town) default).station ∈ Wn.P dn (Wn.P dn d.spring)[k]
    · rw [if_pos hy] at A
      refine M.o_bindE A ?_
      dsimp only
      refine M.o_grd (gOr2 (by unfold Wn.led at ht; omega) (by unfold Wn.led at ht; omega)) (M.o_if (fun hb => M.o_grdD (by simp; omega) (M.o_pure ?_)) (fun hb => M.o_pure ?_))
      · dsimp only
        rw [if_pos]
        unfold Wn.meetB Wn.stn Wn.led
        rw [decide_eq_true hy]
        exact hb
      · dsimp only
        rw [if_neg, List.append_nil]
        unfold Wn.meetB Wn.stn Wn.led
        rw [decide_eq_true hy]
        rw [hb]
        exact Bool.false_ne_true
    · rw [if_neg hy] at A
      refine M.o_bindE A ?_
      dsimp only
      refine M.o_grd rfl (M.o_f rfl (M.o_pure ?_))
      dsimp only
      rw [if_neg, List.append_nil]
      unfold Wn.meetB Wn.stn
      rw [decide_eq_false hy]
      exact Bool.false_ne_true
  · rintro _ rfl
    rw [List.take_length]
    rfl
  · rintro ⟨x, q⟩ hq
    dsimp only at hq
    subst hq
    exact M.o_pure rfl
theorem demands_is (R : Wn.Rv dn tr sp tw dl dh fl) : ∃ D, (zah dn tr sp tw dl dh fl).Ends D /\ D.length <= 64 /\ ∀ d, d ∈ D ↔ d.spring ∈ sp /\ (0 <= d.town /\ d.town < (tw.length : Int)) /\ Wn.stn tw d ∈ Wn.P dn d.spring := by
  have t8 := R.t8
  have s8 := R.s8
  suffices h : (zah dn tr sp tw dl dh fl).Out (fun l => l.length <= 64 /\ ∀ d, d ∈ l ↔ d.spring ∈ sp /\ (0 <= d.town /\ d.town < (tw.length : Int)) /\ Wn.stn tw d ∈ Wn.P dn d.spring) by
    obtain ⟨D, h1, h2⟩ := h
    exact ⟨D, h1, h2⟩
  unfold zah
  refine M.o_bind (P := fun y => y.2.length <= 64 /\ ∀ d, d ∈ y.2 ↔ d.spring ∈ sp /\ (0 <= d.town /\ d.town < (tw.length : Int)) /\ Wn.stn tw d ∈ Wn.P dn d.spring) ?_ (fun y hy => M.o_pure hy)
  refine M.o_for sp.length (fun i (t : Nat × List Dem) => t.1 = i /\ t.2.length <= 8 * i /\ ∀ d, d ∈ t.2 ↔ d.spring ∈ sp.take i /\ (0 <= d.town /\ d.town < (tw.length : Int)) /\ Wn.stn tw d ∈ Wn.P dn d.spring) ?_ ?_ ⟨rfl, by simp, fun d => by simp⟩
  · rintro _ ⟨i, l⟩ hi ⟨rfl, h1, h2⟩
    dsimp only at hi h1 h2
    simp only [zbd]
    have hsp := R.si (sp.getD i 0) (by rw [getD_el sp hi]; exact List.getElem_mem hi)
    refine M.o_t (decide_eq_true (by omega)) (M.o_grdD (by omega) (M.o_bind (P := fun y => y.2.length <= 8 * i + 8 /\ ∀ d, d ∈ y.2 ↔ d ∈ l ∨ d.spring = sp.getD i 0 /\ (0 <= d.town /\ d.town < (tw.length : Int)) /\ Wn.stn tw d ∈ Wn.P dn d.spring) ?_ (fun y hy => M.o_pure ⟨rfl, by dsimp only; omega, fun d => ?_⟩)))
    · refine M.o_for tw.length (fun k (t : Nat × List Dem) => t.1 = k /\ t.2.length <= 8 * i + k /\ ∀ d, d ∈ t.2 ↔ d ∈ l ∨ d.spring = sp.getD i 0 /\ (0 <= d.town /\ d.town < (k : Int)) /\ Wn.stn tw d ∈ Wn.P dn d.spring) ?_ ?_ ⟨rfl, h1, fun d => ⟨fun h => .inl h, fun h => h.resolve_right fun h => by omega⟩⟩
      · rintro _ ⟨k, l4⟩ hk ⟨rfl, g1, g2⟩
        dsimp only at hk g1 g2
        simp only [zbu]
        refine M.o_t (decide_eq_true (by omega)) (M.o_grdD (by omega) (M.o_bindE (travels_ends R (.inr hsp) _) ?_))
        have ek : Wn.stn tw ⟨sp.getD i 0, (k : Int)⟩ = (tw.getD k default).station := rfl
        have key : ∀ d : Dem, d.spring = sp.getD i 0 -> d.town = (k : Int) -> d = ⟨sp.getD i 0, (k : Int)⟩ := fun d e1 e2 => by
          cases d
          dsimp only at e1 e2
          rw [e1, e2]
        by_cases hy : (tw.getD k default).station ∈ Wn.P dn (sp.getD i 0)
        · rw [if_pos hy]
          dsimp only
          refine M.o_t rfl (M.o_grdD (by simp; omega) (M.o_pure ⟨rfl, by dsimp only; simp; omega, fun d => ?_⟩))
          dsimp only
          rw [List.mem_append, List.mem_singleton, g2 d]
          constructor
          · rintro ((h | h) | rfl)
            · exact .inl h
            · exact .inr ⟨h.1, by omega, h.2.2⟩
            · exact .inr ⟨rfl, by dsimp only; omega, by rw [ek]; exact hy⟩
          · rintro (h | ⟨e1, e2, e3⟩)
            · exact .inl (.inl h)
            · by_cases c : d.town = (k : Int)
              · exact .inr (key d e1 c)
              · exact .inl (.inr ⟨e1, by omega, e3⟩)
        · rw [if_neg hy]
          dsimp only
          refine M.o_f rfl (M.o_pure ⟨rfl, by dsimp only; omega, fun d => ?_⟩)
          dsimp only
          rw [g2 d]
          constructor
          · rintro (h | h)
            · exact .inl h
            · exact .inr ⟨h.1, by omega, h.2.2⟩
          · rintro (h | ⟨e1, e2, e3⟩)
            · exact .inl h
            · by_cases c : d.town = (k : Int)
              · rw [key d e1 c] at e3
                exact absurd e3 hy
              · exact .inr ⟨e1, by omega, e3⟩
      · rintro ⟨k, l4⟩ ⟨e, g1, g2⟩
        dsimp only at e g1 g2
        subst e
        simp only [zbu]
        exact M.o_f (decide_eq_false (by omega)) (M.o_pure ⟨by dsimp only; omega, g2⟩)
    · dsimp only
      rw [hy.2 d, h2 d, List.take_succ_eq_append_getElem hi, List.mem_append, List.mem_singleton, ← getD_el sp hi 0]
      constructor
      · rintro (h | h)
        · exact ⟨.inl h.1, h.2⟩
        · exact ⟨.inr h.1, h.2⟩
      · rintro ⟨h | h, h'⟩
        · exact .inl ⟨h, h'⟩
        · exact .inr ⟨h, h'⟩
  · rintro ⟨i, l⟩ ⟨e, h1, h2⟩
    dsimp only at e h1 h2
    subst e
    rw [List.take_length] at h2
    simp only [zbd]
    exact M.o_f (decide_eq_false (by omega)) (M.o_pure ⟨by dsimp only; omega, h2⟩)
theorem deep_ends (R : Wn.Rv dn tr sp tw dl dh fl) {d : Dem} (hd : Wn.OkD dn tw d) (hn : Wn.Sd dn tr tw dh d ≠ []) : (zaS d dn tr sp tw dl dh fl dn tr sp tw dl dh fl).Ends (Wn.deepD dn tr tw dh d) := by
  refine M.Out.ends ?_
  unfold zaS
  have hlen : 0 < (Wn.Sd dn tr tw dh d).length := List.length_pos_iff.2 hn
  have e : (Wn.Sd dn tr tw dh d).getD (Int.toNat (((Wn.Sd dn tr tw dh d).length : Int) - 1)) 0 = Wn.lst dn tr tw dh d := by
    unfold Wn.lst
    congr 1
    omega
  have hl := Wn.lst_mem hn
  have hm := Wn.P_mem R.nx _ (.inr hd.1) _ (Wn.mem_Sd.1 hl).1
  have hst : Wn.Stn dn (Wn.lst dn tr tw dh d) := .inr hm.2
  have hsh := Wn.P_short R.nx hst
  have h12 := R.n12
  have hp : (zai dn tr sp tw dl dh fl (Wn.lst dn tr tw dh d)).Ends (Wn.lst dn tr tw dh d, dl, dh) := M.i_pure
  refine M.o_bindE (stretch_ends R hd) (M.o_grd (gA2 (by omega) (by omega)) ?_)
  rw [e]
  refine M.o_bindE hp ?_
  dsimp only
  refine M.o_bind (path_out (Q := fun x => x = (.inl ((Wn.P dn (Wn.lst dn tr tw dh d)).length : Int) : Int ⊕ Unit)) R.nx R.n12 hst (fun k (c : Int) => c = (k : Int)) rfl ?_ ?_ _ _ _ _ _ _) ?_
  · rintro k hk _ rfl
    simp only [zav]
    exact M.o_grd (gA2 (by omega) (by omega)) (M.o_pure (by omega))
  · rintro _ rfl
    rfl
  · rintro ⟨x, q⟩ hq
    dsimp only at hq
    subst hq
    exact M.o_pure rfl
theorem comp_ends (a b : Int) : (m_cmp_Compare_int a b).Ends (cv a b) := by
  unfold m_cmp_Compare_int m_cmp_isNaN_int cv
  refine M.i_bind M.i_pure (M.i_bind M.i_pure (M.i_f (by simp) (M.i_f (by simp) ?_)))
  by_cases h : a < b
  · rw [if_pos h]
    exact M.i_t (decide_eq_true h) M.i_pure
  · rw [if_neg h]
    refine M.i_f (decide_eq_false h) ?_
    by_cases h2 : b < a
    · rw [if_pos h2]
      exact M.i_t (decide_eq_true h2) M.i_pure
    · rw [if_neg h2]
      exact M.i_f (decide_eq_false h2) M.i_pure
theorem cmp_ends (R : Wn.Rv dn tr sp tw dl dh fl) (x y : Dem) (hx : Wn.OkD dn tw x /\ Wn.Sd dn tr tw dh x ≠ []) (hy : Wn.OkD dn tw y /\ Wn.Sd dn tr tw dh y ≠ []) :
    (zau x y dn tr sp tw dl dh fl dn tr sp tw dl dh fl).Ends (cv (Wn.deepD dn tr tw dh y) (Wn.deepD dn tr tw dh x)) := by
  unfold zau
  exact M.i_bind (deep_ends R hy.1 hy.2) (M.i_bind (deep_ends R hx.1 hx.2) (M.i_bind (comp_ends _ _) M.i_pure))
end Go.Proofs.Ytbaehghammbjdaa
namespace Go.Nm
namespace Wn
variable {m : Nat} {q q' : Nat -> Bool}
end Wn
end Go.Nm
namespace Go.Proofs.Ytbaehghammbjdaa
open Go Go.Nm
variable {dn : List Int} {tr : List Span} {sp : List Int} {tw : List Town} {dl dh : Int} {fl : List Flood} {ws : List Int}
theorem posted_iff (R : Wn.Rv dn tr sp tw dl dh fl) (hu : ws.Pairwise (· < ·)) (hb : ∀ x ∈ ws, 0 <= x /\ x < (dn.length : Int)) :
    (zap dn tr sp tw dl dh fl ws).Out (fun y => ∃ ar : List Bool, y = .inr (dl, dh, ar, 0) /\ ∀ j : Nat, ar.getD j false = true ↔ (j : Int) ∈ ws) := by
  have h12 := R.n12
  unfold zap
  refine M.o_bindE (opened_ends R) ?_
  dsimp only
  refine M.o_bindE (M.i_opt (fun _ => rising_true (by omega) hu hb) (fun h => by cases h)) (M.o_f rfl ?_)
  unfold zbg
  refine M.o_f rfl (M.o_bind (P := fun ar : List Bool => ∀ j : Nat, ar.getD j false = true ↔ (j : Int) ∈ ws) ?_ fun ar h => M.o_pure ⟨ar, rfl, h⟩)
  refine M.o_for ws.length (fun i (t : List Bool × Nat) => t.2 = i /\ t.1.length = 12 /\ ∀ j : Nat, t.1.getD j false = true ↔ (j : Int) ∈ ws.take i) ?_ ?_ ⟨rfl, by simp, fun j => ?_⟩
  · rintro _ ⟨ar, i⟩ hi ⟨rfl, h0, h⟩
    dsimp only at hi h0 h
    simp only [zbA]
    have hm : ws.getD i 0 ∈ ws := by rw [getD_el ws hi]; exact List.getElem_mem hi
    have hx := hb _ hm
    refine M.o_t (decide_eq_true (by omega)) (M.o_grdD (by omega) (M.o_grd (gA2 (by omega) (by omega)) (M.o_pure ⟨rfl, by dsimp only; rw [List.length_set, h0], fun j => ?_⟩)))
    dsimp only
    rw [List.take_succ_eq_append_getElem hi, List.mem_append, List.mem_singleton, ← getD_el ws hi 0, gset _ _ _ _ _ (by omega)]
    by_cases e : j = Int.toNat (ws.getD i 0)
    · rw [if_pos e]
      exact ⟨fun _ => .inr (by omega), fun _ => rfl⟩
    · rw [if_neg e, h j]
      exact ⟨fun g => .inl g, fun g => by
        rcases g with g | g
        · exact g
        · omega⟩
  · rintro ⟨ar, i⟩ ⟨e, _, h⟩
    dsimp only at e h
    subst e
    rw [List.take_length] at h
    simp only [zbA]
    exact M.o_f (decide_eq_false (by omega)) (M.o_pure h)
  · dsimp only
    rw [List.getD_eq_getElem?_getD, List.getElem?_replicate]
    constructor
    · intro hj
      split at hj <;> cases hj
    · intro hj
      simp at hj
theorem stretch_in (R : Wn.Rv dn tr sp tw dl dh fl) {d : Dem} (hd : Wn.OkD dn tw d) : ∀ s ∈ Wn.Sd dn tr tw dh d, 0 <= s /\ s < (dn.length : Int) := fun s hs => (Wn.P_mem R.nx _ (.inr hd.1) s (Wn.mem_Sd.1 hs).1).2
theorem every_68 (R : Wn.Rv dn tr sp tw dl dh fl) {D : List Dem} (ho : ∀ d ∈ D, Wn.OkD dn tw d) : (zch D dn tr sp tw dl dh fl).Ends (D.all fun d => decide (0 < ((Wn.Sd dn tr tw dh d).length : Int))) := by
  refine M.Out.ends ?_
  unfold zch zcI zcH
  refine M.o_bind (P := fun b => b = !D.all fun d => decide (0 < ((Wn.Sd dn tr tw dh d).length : Int))) (M.o_bind (P := fun r => decide (0 <= r) = !D.all fun d => decide (0 < ((Wn.Sd dn tr tw dh d).length : Int))) (M.o_bind (P := fun r => match r with | .inl r => (0 : Int) <= r /\ (D.all fun d => decide (0 < ((Wn.Sd dn tr tw dh d).length : Int))) = false | .inr (_ : Unit) => (D.all fun d => decide (0 < ((Wn.Sd dn tr tw dh d).length : Int))) = true) ?_ ?_) (fun r h => M.o_pure h)) (fun r h => M.o_pure (by rw [h]; simp))
  · refine M.o_for D.length (fun i (k : Nat) => k = i /\ ∀ j, j < i -> decide (0 < ((Wn.Sd dn tr tw dh (D.getD j default)).length : Int)) = true) ?_ ?_ ⟨rfl, fun j hj => by omega⟩
    · rintro _ i hi ⟨rfl, hp⟩
      simp only [zbB]
      have hm : D.getD i default ∈ D := by rw [getD_el D hi]; exact List.getElem_mem hi
      refine M.o_t (decide_eq_true (by omega)) (M.o_grdD (by omega) (M.o_bindE (a := !decide (0 < ((Wn.Sd dn tr tw dh (D.getD i default)).length : Int))) ?_ (M.o_if (fun hb => M.o_pure ⟨by omega, ?_⟩) (fun hb => M.o_pure ⟨rfl, fun j hj => ?_⟩))))
      · unfold zcw zcr
        exact M.i_bind (M.i_bind (stretch_ends R (ho _ hm)) M.i_pure) M.i_pure
      · rw [List.all_eq_false]
        exact ⟨_, hm, by simpa using hb⟩
      · rcases Nat.lt_or_eq_of_le (Nat.le_of_lt_succ hj) with e | e
        · exact hp j e
        · subst e
          simpa using hb
    · rintro _ ⟨rfl, hp⟩
      simp only [zbB]
      refine M.o_f (decide_eq_false (by omega)) (M.o_pure ?_)
      rw [List.all_eq_true]
      intro x hx
      obtain ⟨i, hi, e⟩ := mem_getD hx default
      rw [← e]
      exact hp i hi
  · rintro (r | r) h
    · exact M.o_pure (by rw [h.2, decide_eq_true h.1]; rfl)
    · exact M.o_pure (by dsimp only at h; rw [h]; rfl)
theorem few_b2 {ar : List Bool} {r4 : List Int} (hr : ∀ s ∈ r4, 0 <= s /\ s < 12) : (M.iter (za4 ar r4) 0).Out (fun x => match x with | .inl (_ : Unit) => ∃ s ∈ r4, ar.getD (Int.toNat s) false = true | .inr (_ : Unit) => ∀ s ∈ r4, ar.getD (Int.toNat s) false = false) := by
  refine M.o_for r4.length (fun i (k : Nat) => k = i /\ ∀ j, j < i -> ar.getD (Int.toNat (r4.getD j 0)) false = false) ?_ ?_ ⟨rfl, fun j hj => by omega⟩
  · rintro _ i hi ⟨rfl, hp⟩
    simp only [za4]
    have hm : r4.getD i 0 ∈ r4 := by rw [getD_el r4 hi]; exact List.getElem_mem hi
    have := hr _ hm
    refine M.o_t (decide_eq_true (by omega)) (M.o_grdD (by omega) (M.o_grd (gA2 (by omega) (by omega)) (M.o_if (fun hb => M.o_pure ⟨_, hm, hb⟩) (fun hb => M.o_pure ⟨rfl, fun j hj => ?_⟩))))
    rcases Nat.lt_or_eq_of_le (Nat.le_of_lt_succ hj) with e | e
    · exact hp j e
    · subst e
      exact hb
  · rintro _ ⟨rfl, hp⟩
    simp only [za4]
    refine M.o_f (decide_eq_false (by omega)) (M.o_pure fun s hs => ?_)
    obtain ⟨j, hj, rfl⟩ := mem_getD hs 0
    exact hp j hj
/-- The choice of watches. -/
theorem few_b3 (R : Wn.Rv dn tr sp tw dl dh fl) {X : List Dem} (hX : X.length <= 64) (ho : ∀ d ∈ X, Wn.OkD dn tw d /\ Wn.Sd dn tr tw dh d ≠ []) (hs : Srt (Wn.deepD dn tr tw dh) X 0 X.length) :
    (M.iter (zaO dn tr sp tw dl dh fl X) (0, List.replicate 12 false, [], [])).Out (fun y => y.2.2.1 = y.2.2.2.1.map (Wn.lst dn tr tw dh) /\ y.2.2.2.1.length <= 64 /\ (∀ a ∈ y.2.2.2.1, a ∈ X) /\ y.2.2.2.1.Pairwise (Wn.Dj dn tr tw dh) /\ ∀ d ∈ X, ∃ s ∈ Wn.Sd dn tr tw dh d, s ∈ y.2.2.1) := by
  have h12 := R.n12
  refine M.o_for X.length (fun i (t : Nat × List Bool × List Int × List Dem) => t.1 = i /\ (t.2.1.length = 12 /\ ∀ j : Nat, t.2.1.getD j false = true ↔ (j : Int) ∈ t.2.2.1) /\ t.2.2.1 = t.2.2.2.map (Wn.lst dn tr tw dh) /\ t.2.2.2.length <= i /\ (∀ a ∈ t.2.2.2, ∃ k, k < i /\ X.getD k default = a) /\ t.2.2.2.Pairwise (Wn.Dj dn tr tw dh) /\ ∀ k, k < i -> ∃ s ∈ Wn.Sd dn tr tw dh (X.getD k default), s ∈ t.2.2.1) ?_ ?_ ⟨rfl, ⟨by simp, fun j => ?_⟩, rfl, Nat.le_refl _, fun a ha => (by cases ha), List.Pairwise.nil, fun k hk => by omega⟩
  · rintro _ ⟨i, ar, l, l2⟩ hi ⟨rfl, ⟨a1, a2⟩, e, h1, h2, h3, h4⟩
    dsimp only at hi a1 a2 e h1 h2 h3 h4
    simp only [zaO]
    have hm : X.getD i default ∈ X := by rw [getD_el X hi]; exact List.getElem_mem hi
    have hok := ho _ hm
    have hin := stretch_in R hok.1
    have hlen : 0 < (Wn.Sd dn tr tw dh (X.getD i default)).length := List.length_pos_iff.2 hok.2
    have hl := Wn.lst_mem hok.2
    have el : (Wn.Sd dn tr tw dh (X.getD i default)).getD (Int.toNat (((Wn.Sd dn tr tw dh (X.getD i default)).length : Int) - 1)) 0 = Wn.lst dn tr tw dh (X.getD i default) := by
      unfold Wn.lst
      congr 1
      omega
    have hll : l.length <= i := by rw [e, List.length_map]; exact h1
    refine M.o_t (decide_eq_true (by omega)) (M.o_grdD (by omega) (M.o_bindE (stretch_ends R hok.1) (M.o_bind (few_b2 fun s hs => by have := hin s hs; omega) ?_)))
    rintro (u | u) hu
    · obtain ⟨s, s1, s2⟩ := hu
      refine M.o_pure ⟨rfl, ⟨a1, a2⟩, e, by dsimp only; omega, fun a ha => ?_, h3, fun k hk => ?_⟩
      · obtain ⟨k, k1, k2⟩ := h2 a ha
        exact ⟨k, by omega, k2⟩
      · rcases Nat.lt_or_eq_of_le (Nat.le_of_lt_succ hk) with g | g
        · exact h4 k g
        · subst g
          refine ⟨s, s1, ?_⟩
          have := (a2 _).1 s2
          rwa [Int.toNat_of_nonneg (hin s s1).1] at this
    · dsimp only at hu ⊢
      have hlr := hin _ hl
      have hfree : ∀ s ∈ Wn.Sd dn tr tw dh (X.getD i default), s ∉ l := fun s hs hsl => by
        have h5 := hu s hs
        have := (a2 (Int.toNat s)).2 (by rw [Int.toNat_of_nonneg (hin s hs).1]; exact hsl)
        rw [h5] at this
        cases this
      rw [el]
      refine M.o_grd (gA2 (by omega) (by omega)) (M.o_grd (gA2 (by omega) (by omega)) (M.o_grdD (by simp; omega) (M.o_grdD (by simp; omega) (M.o_pure ⟨rfl, ⟨by dsimp only; rw [List.length_set, a1], fun j => ?_⟩, ?_, by dsimp only; simp; omega, fun a ha => ?_, ?_, fun k hk => ?_⟩))))
      · dsimp only
        rw [gset _ _ _ _ _ (by omega), List.mem_append, List.mem_singleton]
        by_cases c : j = Int.toNat (Wn.lst dn tr tw dh (X.getD i default))
        · rw [if_pos c]
          exact ⟨fun _ => .inr (by omega), fun _ => rfl⟩
        · rw [if_neg c, a2 j]
          exact ⟨fun g => .inl g, fun g => g.resolve_right (by omega)⟩
      · dsimp only
        rw [List.map_append, e]
        rfl
      · rcases List.mem_append.1 ha with ha | ha
        · obtain ⟨k, k1, k2⟩ := h2 a ha
          exact ⟨k, by omega, k2⟩
        · exact ⟨i, Nat.lt_succ_self _, (List.mem_singleton.1 ha).symm⟩
      · dsimp only
        rw [List.pairwise_append]
        refine ⟨h3, List.pairwise_singleton _ _, fun a ha b hb => ?_⟩
        rw [List.mem_singleton] at hb
        subst hb
        intro x xa xb
        obtain ⟨k, k1, k2⟩ := h2 a ha
        have ham : a ∈ X := by rw [← k2, getD_el X (by omega)]; exact List.getElem_mem _
        have hoa := ho a ham
        have hdeep : Wn.deepD dn tr tw dh (X.getD i default) <= Wn.deepD dn tr tw dh a := by
          have := hs (k : Int) (i : Int) (by omega) (by omega) (by omega)
          unfold G at this
          rw [show Int.toNat (k : Int) = k from rfl, show Int.toNat (i : Int) = i from rfl, k2] at this
          exact this
        have hc := Wn.cross R.nx (lo_small R) hoa.1 hok.1 hoa.2 hok.2 hdeep xa xb
        refine hfree _ hc ?_
        rw [e]
        exact List.mem_map.2 ⟨a, ha, rfl⟩
      · dsimp only
        rcases Nat.lt_or_eq_of_le (Nat.le_of_lt_succ hk) with g | g
        · obtain ⟨s, s1, s2⟩ := h4 k g
          exact ⟨s, s1, List.mem_append_left _ s2⟩
        · subst g
          exact ⟨_, hl, List.mem_append_right _ (List.mem_singleton.2 rfl)⟩
  · rintro ⟨i, ar, l, l2⟩ ⟨e0, ⟨a1, a2⟩, e, h1, h2, h3, h4⟩
    dsimp only at e0 a1 a2 e h1 h2 h3 h4
    subst e0
    simp only [zaO]
    refine M.o_f (decide_eq_false (by omega)) (M.o_pure ⟨e, by dsimp only; omega, fun a ha => ?_, h3, fun d hd => ?_⟩)
    · obtain ⟨k, k1, k2⟩ := h2 a ha
      rw [← k2, getD_el X k1]
      exact List.getElem_mem _
    · obtain ⟨k, hk, e2⟩ := mem_getD hd default
      obtain ⟨s, s1, s2⟩ := h4 k hk
      rw [e2] at s1
      exact ⟨s, s1, s2⟩
  · dsimp only
    rw [List.getD_eq_getElem?_getD, List.getElem?_replicate]
    constructor
    · intro hj
      split at hj <;> cases hj
    · intro hj
      cases hj
theorem fewest_is (R : Wn.Rv dn tr sp tw dl dh fl) {D : List Dem} (hD : (zah dn tr sp tw dl dh fl).Ends D) (hl : D.length <= 64) (ho : ∀ d ∈ D, Wn.OkD dn tw d /\ Wn.Sd dn tr tw dh d ≠ []) :
    ∃ ws ap, (zaX dn tr sp tw dl dh fl).Ends (ws, ap, true) /\ Wn.Few dn tr tw dh D ws ap := by
  suffices h : (zaX dn tr sp tw dl dh fl).Out (fun y => y.2.2 = true /\ Wn.Few dn tr tw dh D y.1 y.2.1) by
    obtain ⟨⟨ws, ap, b⟩, h1, h2, h3⟩ := h
    dsimp only at h2 h3
    subst h2
    exact ⟨ws, ap, h1, h3⟩
  unfold zaX
  have hall : (D.all fun d => decide (0 < ((Wn.Sd dn tr tw dh d).length : Int))) = true := by
    rw [List.all_eq_true]
    intro d hd
    have := List.length_pos_iff.2 (ho d hd).2
    exact decide_eq_true (by omega)
  have hev := every_68 R (fun d hd => (ho d hd).1)
  rw [hall] at hev
  refine M.o_bindE hD (M.o_bindE hev (M.o_f rfl (M.o_bind (sort_out (ok := fun d => Wn.OkD dn tw d /\ Wn.Sd dn tr tw dh d ≠ []) (dp := Wn.deepD dn tr tw dh) (cmp_ends R) (by omega) ho) ?_)))
  rintro X ⟨hp, hs⟩
  have hoX : ∀ d ∈ X, Wn.OkD dn tw d /\ Wn.Sd dn tr tw dh d ≠ [] := fun d hd => ho d (hp.mem_iff.1 hd)
  have hlen := hp.length_eq
  refine M.o_bind (few_b3 R (by omega) hoX (by rw [hlen]; exact hs)) ?_
  rintro ⟨x1, x2, l, ap, ar⟩ ⟨e, h1, h2, h3, h4⟩
  dsimp only at e h1 h2 h3 h4 ⊢
  subst e
  have hnd : (ap.map (Wn.lst dn tr tw dh)).Nodup := by
    unfold List.Nodup
    rw [List.pairwise_map, List.pairwise_iff_getElem]
    intro i j hi hj hij he
    have := List.pairwise_iff_getElem.1 h3 i j hi hj hij
    have a1 := Wn.lst_mem (hoX _ (h2 _ (List.getElem_mem hi))).2
    have a2 := Wn.lst_mem (hoX _ (h2 _ (List.getElem_mem hj))).2
    rw [← he] at a2
    exact this _ a1 a2
  have hmem : ∀ x, x ∈ isort (ap.map (Wn.lst dn tr tw dh)) ↔ ∃ a ∈ ap, x = Wn.lst dn tr tw dh a := fun x => by
    rw [(isort_perm _).mem_iff, List.mem_map]
    exact ⟨fun ⟨a, h, e⟩ => ⟨a, h, e.symm⟩, fun ⟨a, h, e⟩ => ⟨a, h, e.symm⟩⟩
  refine M.o_grdD (by rw [List.length_map]; omega) (M.o_pure ⟨rfl, ?_⟩)
  refine ⟨?_, fun x hx => ?_, ?_, fun a ha => hp.mem_iff.1 (h2 a ha), hmem, h3, fun d hd => ?_⟩
  · have n1 : (isort (ap.map (Wn.lst dn tr tw dh))).Nodup := (isort_perm _).nodup_iff.2 hnd
    exact ((isort_asc _).and n1).imp fun h => by omega
  · obtain ⟨a, ha, rfl⟩ := (hmem x).1 hx
    have := hoX _ (h2 a ha)
    exact stretch_in R this.1 _ (Wn.lst_mem this.2)
  · dsimp only
    rw [(isort_perm _).length_eq, List.length_map]
  · obtain ⟨s, s1, s2⟩ := h4 d (hp.mem_iff.2 hd)
    exact ⟨s, s1, (isort_perm _).mem_iff.2 s2⟩
end Go.Proofs.Ytbaehghammbjdaa
section
set_option maxRecDepth 100000
set_option maxHeartbeats 16000000
namespace Go.Proofs.Ytbaehghammbjdaa
open Go Go.Nm
def zca (bytes : List UInt8) : M (Int × Int) :=
  M.pure (0, 0)
theorem zcJ {R : List Chunk} {ab : Cells} {aa : Value} (bytes : List UInt8) (aj : Reads R ab) (ah : Sl ab aa bytes) {r : (Int × Int)} (hM : (zca bytes).Ends r) (w : World) (H : St w w [] R) : Ret Try.prog 9 #[aa] w fun v w' => ∃ (y0 : Int) (y1 : Int) (ac : Nat), (y0, y1) = r /\ v = Pq ac /\ St w w' [cBlk ac [aa, I y0, I y1] 71] R := by
 refine ret_of_W Try.func9 rfl rfl rfl ?_
 refine W.seq ?_
 refine W.region rfl ?_
 refine zA (.pointer none) rfl ?_
 refine s_nil ?_
 refine W.seq ?_
 refine W.region rfl ?_
 refine zM aa rfl ?_
 refine s_val (x_bld (ps := [(0, aa)]) (zs := [.slice none 0 0, I 0, I 0]) (L' := [aa, I 0, I 0]) rfl Try.underlying71 Al71 rfl (Bd71 Try.underlying71) (.cons (cs := [aa]) (Sl.cells ah) rfl rfl rfl rfl <| .nil)) ?_
 refine t_box (v := .agg #[aa, I 0, I 0]) (cs := [aa, I 0, I 0]) H rfl rfl ?_
 intro ae ak H
 refine zA (Pq ae) rfl ?_
 refine s_nil ?_
 refine W.ret ?_
 have ai := M.e_pure hM
 exact ⟨_, resE_tmp rfl, ⟨0, 0, ae, ai, rfl, H⟩⟩

def zb7 (s_used : Int) (s_mix : Int) (n : Int) (b : Int) : M (Int × Int × Int) :=
  M.grd (decide ((-9223372036854775808 : Int) <= (5 * s_mix)) && decide ((5 * s_mix) <= (9223372036854775807 : Int))) <|
  M.grd (decide ((-9223372036854775808 : Int) <= ((5 * s_mix) + b)) && decide (((5 * s_mix) + b) <= (9223372036854775807 : Int))) <|
  M.grd (decide ((-9223372036854775808 : Int) <= (((5 * s_mix) + b) + 1)) && decide ((((5 * s_mix) + b) + 1) <= (9223372036854775807 : Int))) <|
  M.grd (decide ((0 : Int) <= (((5 * s_mix) + b) + 1)) && decide ((0 : Int) < 251)) <|
  M.grd (decide ((-9223372036854775808 : Int) <= (s_used + 1)) && decide ((s_used + 1) <= (9223372036854775807 : Int))) <|
  bif decide (256 < n) then (
  M.grd (decide ((-9223372036854775808 : Int) <= (256 * b)) && decide ((256 * b) <= (9223372036854775807 : Int))) <|
  M.grd (decide ((-9223372036854775808 : Int) <= ((256 * b) + ((((5 * s_mix) + b) + 1) % 251))) && decide (((256 * b) + ((((5 * s_mix) + b) + 1) % 251)) <= (9223372036854775807 : Int))) <|
  M.grd (decide ((0 : Int) <= ((256 * b) + ((((5 * s_mix) + b) + 1) % 251))) && decide ((0 : Int) < n)) <|
  M.pure ((((256 * b) + ((((5 * s_mix) + b) + 1) % 251)) % n), (s_used + 1), ((((5 * s_mix) + b) + 1) % 251)))
  else (
  M.grd (decide ((0 : Int) <= b) && decide ((0 : Int) < n)) <|
  M.pure ((b % n), (s_used + 1), ((((5 * s_mix) + b) + 1) % 251)))
def zad (s_bytes : List UInt8) (s_used : Int) (s_mix : Int) (n : Int) : M (Int × Int × Int) :=
  bif ((decide (n < 2)) || ((s_bytes.length : Int) == 0)) then (
  M.pure (0, s_used, s_mix))
  else (
  M.grd (decide ((0 : Int) <= s_used) && decide ((0 : Int) < (s_bytes.length : Int))) <|
  M.grd (decide ((0 : Int) <= (s_used % (s_bytes.length : Int))) && decide ((s_used % (s_bytes.length : Int)) < (s_bytes.length : Int))) <|
  M.grd (decide ((0 : Int) <= ((s_bytes.getD (Int.toNat (s_used % (s_bytes.length : Int))) 0).toNat : Int)) && decide (((s_bytes.getD (Int.toNat (s_used % (s_bytes.length : Int))) 0).toNat : Int) < (256 : Int))) <|
  bif decide ((s_bytes.length : Int) <= s_used) then (
  M.grd (decide ((-9223372036854775808 : Int) <= (11 * s_mix)) && decide ((11 * s_mix) <= (9223372036854775807 : Int))) <|
  M.grd (decide (0 <= s_used) && decide (s_used <= (9223372036854775807 : Int)) && decide ((0 : Int) < (s_bytes.length : Int))) <|
  M.grd (decide ((-9223372036854775808 : Int) <= ((11 * s_mix) + (s_used / (s_bytes.length : Int)))) && decide (((11 * s_mix) + (s_used / (s_bytes.length : Int))) <= (9223372036854775807 : Int))) <|
  M.grd (decide ((-9223372036854775808 : Int) <= (((s_bytes.getD (Int.toNat (s_used % (s_bytes.length : Int))) 0).toNat : Int) + ((11 * s_mix) + (s_used / (s_bytes.length : Int))))) && decide ((((s_bytes.getD (Int.toNat (s_used % (s_bytes.length : Int))) 0).toNat : Int) + ((11 * s_mix) + (s_used / (s_bytes.length : Int)))) <= (9223372036854775807 : Int))) <|
  zb7 s_used s_mix n (((s_bytes.getD (Int.toNat (s_used % (s_bytes.length : Int))) 0).toNat : Int) + ((11 * s_mix) + (s_used / (s_bytes.length : Int)))))
  else (
  zb7 s_used s_mix n ((s_bytes.getD (Int.toNat (s_used % (s_bytes.length : Int))) 0).toNat : Int)))
theorem zab {R : List Chunk} {aa : Nat} {al : Cells} {ab : Value} (s_bytes : List UInt8) (s_used : Int) (s_mix : Int) (n : Int) (am : Reads R al) (ac : Sl al ab s_bytes) {r : (Int × Int × Int)} (hM : (zad s_bytes s_used s_mix n).Ends r) (w : World) (H : St w w [cBlk aa [ab, I s_used, I s_mix] 71] R) : Ret Try.prog 10 #[Pq aa, I n] w fun v w' => ∃ (y0 : Int) (y1 : Int) (y2 : Int), (y0, y1, y2) = r /\ v = I y0 /\ St w w' [cBlk aa [ab, I y1, I y2] 71] R := by
 refine ret_of_W Try.func10 rfl rfl rfl ?_
 refine W.seq ?_
 refine W.region rfl ?_
 refine zA (I 0) rfl ?_
 refine s_nil ?_
 refine W.seq ?_
 refine W.seq ?_
 refine W.region rfl ?_
 refine zM (I n) rfl ?_
 refine zC n 2 (decide (n < 2)) rfl rfl rfl ?_
 refine zM (B (decide (n < 2))) rfl ?_
 refine g_val (!(decide (n < 2))) (gy_f rfl) (fun hg => x_mv (v := Pq aa) rfl) ?_
 refine g_val (!(decide (n < 2))) (gy_f rfl) (fun hg => x_nc (a := ⟨aa, 0, none⟩) (gd_of (c := !(decide (n < 2))) hg (Pq aa))) ?_
 refine g_val (!(decide (n < 2))) (gy_f rfl) (fun hg => x_fa (a := Pq aa) (v := Pq aa) (gd_of (c := !(decide (n < 2))) hg (Pq aa)) (fa_blk (o := 0) Fd71_0 Sz22)) ?_
 refine g_val (!(decide (n < 2))) (gy_f rfl) (fun hg => x_ld (p := Pq aa) (v := ab) (gd_of (c := !(decide (n < 2))) hg (Pq aa)) (ldb_sc Sc22 (H.bl 0) rfl)) ?_
 have aI := (ac).len_le
 refine g_val (!(decide (n < 2))) (gy_f rfl) (fun hg => x_lenS T22.und (gd_of (c := !(decide (n < 2))) hg (ab)) ac) ?_
 refine g_val (!(decide (n < 2))) (gy_f rfl) (fun hg => x_cmp (kd := .i64) (a := (s_bytes.length : Int)) (b := 0) (r := (s_bytes.length : Int) == 0) (gd_of (c := !(decide (n < 2))) hg (I (s_bytes.length : Int))) rfl rfl) ?_
 refine s_val (x_por (b := decide (n < 2)) (r := (s_bytes.length : Int) == 0) rfl rfl (fun hb => gd_of (c := !(decide (n < 2))) (by first | exact hb | (rw [hb]; rfl) | simp_all) (B ((s_bytes.length : Int) == 0)))) ?_
 refine s_nil ?_
 refine W.cond ((decide (n < 2)) || ((s_bytes.length : Int) == 0)) rfl (fun ak => ?_) (fun ak => ?_)
 ·replace hM := M.e_t hM ak
  refine W.seq ?_
  refine W.region rfl ?_
  refine zA (I 0) rfl ?_
  refine s_nil ?_
  refine W.ret ?_
  have ah := M.e_pure hM
  exact ⟨_, resE_tmp rfl, ⟨0, s_used, s_mix, ah, rfl, H⟩⟩
 replace hM := M.e_f hM ak
 refine W.skip ?_
 refine W.seq ?_
 refine W.draw (fun W => St w W [cBlk aa [ab, I s_used, I s_mix] 71] R) [(0, true), (1, true), (2, true), (3, true), (4, true), (5, true), (6, true), (7, true), (8, true), (9, true), (10, true), (11, true), (12, true), (13, true), (14, true), (15, true), (16, true), (17, true)] mixed (by decide +kernel) rfl ?_
 intro aJ ae
 replace H := H.ext ae
 clear ae
 refine ⟨(H.pk [0]), ?_⟩
 refine d_q rfl (fun w' H => x_mv (v := Pq aa) rfl) ?_
 refine d_q rfl (fun w' H => x_nc (a := ⟨aa, 0, none⟩) rfl) ?_
 refine d_q rfl (fun w' H => x_fa (a := Pq aa) (v := Pq aa) rfl (fa_blk (o := 0) Fd71_0 Sz22)) ?_
 refine d_q rfl (fun w' H => x_ld (p := Pq aa) (v := ab) rfl (ldb_sc Sc22 (H.bl 0) rfl)) ?_
 refine d_q rfl (fun w' H => x_mv (v := Pq aa) rfl) ?_
 refine d_q rfl (fun w' H => x_nc (a := ⟨aa, 0, none⟩) rfl) ?_
 refine d_q rfl (fun w' H => x_fa (a := Pq aa) (v := Oq aa 1) rfl (fa_blk (o := 0) Fd71_1 Sz3)) ?_
 refine d_q rfl (fun w' H => x_ld (p := Oq aa 1) (v := I s_used) rfl (ldb_sc Sc3 (H.bl 0) rfl)) ?_
 refine d_q rfl (fun w' H => x_mv (v := Pq aa) rfl) ?_
 refine d_q rfl (fun w' H => x_nc (a := ⟨aa, 0, none⟩) rfl) ?_
 refine d_q rfl (fun w' H => x_fa (a := Pq aa) (v := Pq aa) rfl (fa_blk (o := 0) Fd71_0 Sz22)) ?_
 refine d_q rfl (fun w' H => x_ld (p := Pq aa) (v := ab) rfl (ldb_sc Sc22 (H.bl 0) rfl)) ?_
 have aK := (ac).len_le
 refine d_q rfl (fun w' H => x_lenS T22.und rfl ac) ?_
 obtain ⟨ao, hM⟩ := M.e_grd hM
 simp only [Bool.and_eq_true, decide_eq_true_eq] at ao
 refine d_q rfl (fun w' H => x_rem' (a := s_used) (b := (s_bytes.length : Int)) rfl rfl (by omega)) ?_
 obtain ⟨aq, hM⟩ := M.e_grd hM
 simp only [Bool.and_eq_true, decide_eq_true_eq] at aq
 refine d_q rfl (fun w' H => x_ix (a := ab) (b := I (s_used % (s_bytes.length : Int))) (v := vat ab 1 (Int.toNat (s_used % (s_bytes.length : Int)))) rfl rfl (Sl.ix (α := UInt8) T22.und T22.size ac (by omega) (by omega))) ?_
 refine d_q rfl (fun w' H => x_ld (p := vat ab 1 (Int.toNat (s_used % (s_bytes.length : Int)))) (v := .int .u8 (((s_bytes.getD (Int.toNat (s_used % (s_bytes.length : Int))) 0).toNat : Int))) rfl (ld_sc Sc5 (At.mono (UInt8_at ac (i := s_used % (s_bytes.length : Int)) (by omega) (by omega)) (am.at H)))) ?_
 obtain ⟨au, hM⟩ := M.e_grd hM
 simp only [Bool.and_eq_true, decide_eq_true_eq] at au
 refine d_q rfl (fun w' H => x_conv64 (kd := .u8) (a := ((s_bytes.getD (Int.toNat (s_used % (s_bytes.length : Int))) 0).toNat : Int)) Try.underlying5 Try.underlying3 rfl (by omega)) ?_
 refine d_q rfl (fun w' H => x_as (v := I ((s_bytes.getD (Int.toNat (s_used % (s_bytes.length : Int))) 0).toNat : Int)) rfl) ?_
 refine d_nil ?_
 refine W.seqJ (fun σ W => ∃ (b : Int) (ρ : Env), σ = upds ρ [(0, Pq aa), (1, I n), (5, I b)] /\ (zb7 s_used s_mix n b).Ends r /\ St w W [cBlk aa [ab, I s_used, I s_mix] 71] R) ?_ ?_
 ·skip
  refine W.seq ?_
  refine W.draw (fun W => St w W [cBlk aa [ab, I s_used, I s_mix] 71] R) [(0, true), (1, true), (2, true), (3, true), (4, true), (5, true), (6, true), (7, true), (8, true), (9, true)] mixed (by decide +kernel) rfl ?_
  intro aL ae
  replace H := H.ext ae
  clear ae
  refine ⟨(H.pk [0]), ?_⟩
  refine d_q rfl (fun w' H => x_mv (v := Pq aa) rfl) ?_
  refine d_q rfl (fun w' H => x_nc (a := ⟨aa, 0, none⟩) rfl) ?_
  refine d_q rfl (fun w' H => x_fa (a := Pq aa) (v := Oq aa 1) rfl (fa_blk (o := 0) Fd71_1 Sz3)) ?_
  refine d_q rfl (fun w' H => x_ld (p := Oq aa 1) (v := I s_used) rfl (ldb_sc Sc3 (H.bl 0) rfl)) ?_
  refine d_q rfl (fun w' H => x_mv (v := Pq aa) rfl) ?_
  refine d_q rfl (fun w' H => x_nc (a := ⟨aa, 0, none⟩) rfl) ?_
  refine d_q rfl (fun w' H => x_fa (a := Pq aa) (v := Pq aa) rfl (fa_blk (o := 0) Fd71_0 Sz22)) ?_
  refine d_q rfl (fun w' H => x_ld (p := Pq aa) (v := ab) rfl (ldb_sc Sc22 (H.bl 0) rfl)) ?_
  have aM := (ac).len_le
  refine d_q rfl (fun w' H => x_lenS T22.und rfl ac) ?_
  refine d_q rfl (fun w' H => x_cmp (kd := .i64) (a := s_used) (b := (s_bytes.length : Int)) (r := decide ((s_bytes.length : Int) <= s_used)) rfl rfl rfl) ?_
  refine d_nil ?_
  refine W.cond (decide ((s_bytes.length : Int) <= s_used)) rfl (fun ai => ?_) (fun ai => ?_)
  ·replace hM := M.e_t hM ai
   simp only [qy1, qy2, qy3, qy4, qy5, qy6, ne_eq, qy7] at ai
   refine W.draw (fun W => St w W [cBlk aa [ab, I s_used, I s_mix] 71] R) [(0, true), (1, true), (2, true), (3, true), (4, true), (5, true), (6, true), (7, true), (8, true), (9, true), (10, true), (11, true), (12, true), (13, true), (14, true), (15, true), (16, true), (17, true), (18, true)] mixed (by decide +kernel) rfl ?_
   intro aN ae
   replace H := H.ext ae
   clear ae
   refine ⟨(H.pk [0]), ?_⟩
   refine d_q rfl (fun w' H => x_mv (v := I ((s_bytes.getD (Int.toNat (s_used % (s_bytes.length : Int))) 0).toNat : Int)) rfl) ?_
   refine d_q rfl (fun w' H => x_mv (v := Pq aa) rfl) ?_
   refine d_q rfl (fun w' H => x_nc (a := ⟨aa, 0, none⟩) rfl) ?_
   refine d_q rfl (fun w' H => x_fa (a := Pq aa) (v := Oq aa 2) rfl (fa_blk (o := 0) Fd71_2 Sz3)) ?_
   refine d_q rfl (fun w' H => x_ld (p := Oq aa 2) (v := I s_mix) rfl (ldb_sc Sc3 (H.bl 0) rfl)) ?_
   obtain ⟨av, hM⟩ := M.e_grd hM
   simp only [Bool.and_eq_true, decide_eq_true_eq] at av
   refine d_q rfl (fun w' H => x_ari (a := 11) (b := s_mix) (r := 11 * s_mix) rfl rfl rfl (by omega)) ?_
   refine d_q rfl (fun w' H => x_mv (v := Pq aa) rfl) ?_
   refine d_q rfl (fun w' H => x_nc (a := ⟨aa, 0, none⟩) rfl) ?_
   refine d_q rfl (fun w' H => x_fa (a := Pq aa) (v := Oq aa 1) rfl (fa_blk (o := 0) Fd71_1 Sz3)) ?_
   refine d_q rfl (fun w' H => x_ld (p := Oq aa 1) (v := I s_used) rfl (ldb_sc Sc3 (H.bl 0) rfl)) ?_
   refine d_q rfl (fun w' H => x_mv (v := Pq aa) rfl) ?_
   refine d_q rfl (fun w' H => x_nc (a := ⟨aa, 0, none⟩) rfl) ?_
   refine d_q rfl (fun w' H => x_fa (a := Pq aa) (v := Pq aa) rfl (fa_blk (o := 0) Fd71_0 Sz22)) ?_
   refine d_q rfl (fun w' H => x_ld (p := Pq aa) (v := ab) rfl (ldb_sc Sc22 (H.bl 0) rfl)) ?_
   have aO := (ac).len_le
   refine d_q rfl (fun w' H => x_lenS T22.und rfl ac) ?_
   obtain ⟨aw, hM⟩ := M.e_grd hM
   simp only [Bool.and_eq_true, decide_eq_true_eq] at aw
   refine d_q rfl (fun w' H => x_quo (a := s_used) (b := (s_bytes.length : Int)) rfl rfl (by omega)) ?_
   obtain ⟨ax, hM⟩ := M.e_grd hM
   simp only [Bool.and_eq_true, decide_eq_true_eq] at ax
   refine d_q rfl (fun w' H => x_ari (a := 11 * s_mix) (b := s_used / (s_bytes.length : Int)) (r := (11 * s_mix) + (s_used / (s_bytes.length : Int))) rfl rfl rfl (by omega)) ?_
   obtain ⟨ay, hM⟩ := M.e_grd hM
   simp only [Bool.and_eq_true, decide_eq_true_eq] at ay
   refine d_q rfl (fun w' H => x_ari (a := ((s_bytes.getD (Int.toNat (s_used % (s_bytes.length : Int))) 0).toNat : Int)) (b := (11 * s_mix) + (s_used / (s_bytes.length : Int))) (r := ((s_bytes.getD (Int.toNat (s_used % (s_bytes.length : Int))) 0).toNat : Int) + ((11 * s_mix) + (s_used / (s_bytes.length : Int)))) rfl rfl rfl (by omega)) ?_
   refine d_q rfl (fun w' H => x_as (v := I (((s_bytes.getD (Int.toNat (s_used % (s_bytes.length : Int))) 0).toNat : Int) + ((11 * s_mix) + (s_used / (s_bytes.length : Int))))) rfl) ?_
   refine d_nil ?_
   exact ⟨((s_bytes.getD (Int.toNat (s_used % (s_bytes.length : Int))) 0).toNat : Int) + ((11 * s_mix) + (s_used / (s_bytes.length : Int))), _, upds_of _ _ ⟨rfl, rfl, rfl, trivial⟩, hM, H⟩
  replace hM := M.e_f hM ai
  simp only [qy1, qy2, qy3, qy4, qy5, qy6, ne_eq, qy7] at ai
  refine W.skip ?_
  exact ⟨((s_bytes.getD (Int.toNat (s_used % (s_bytes.length : Int))) 0).toNat : Int), _, upds_of _ _ ⟨rfl, rfl, rfl, trivial⟩, hM, H⟩
 rintro _ aP ⟨b, ρ, rfl, hM, H⟩
 unfold zb7 at hM
 refine W.seq ?_
 refine W.region rfl ?_
 refine zM (Pq aa) rfl ?_
 refine zM (Pq aa) rfl ?_
 refine s_val (x_nc (a := ⟨aa, 0, none⟩) rfl) ?_
 refine s_val (x_fa (a := Pq aa) (v := Oq aa 2) rfl (fa_blk (o := 0) Fd71_2 Sz3)) ?_
 refine s_val (x_ld (p := Oq aa 2) (v := I s_mix) rfl (ldb_sc Sc3 (H.bl 0) rfl)) ?_
 obtain ⟨az, hM⟩ := M.e_grd hM
 simp only [Bool.and_eq_true, decide_eq_true_eq] at az
 refine zR 5 s_mix (5 * s_mix) rfl rfl rfl (by omega) ?_
 refine zM (I b) rfl ?_
 obtain ⟨aA, hM⟩ := M.e_grd hM
 simp only [Bool.and_eq_true, decide_eq_true_eq] at aA
 refine zR (5 * s_mix) b ((5 * s_mix) + b) rfl rfl rfl (by omega) ?_
 obtain ⟨aB, hM⟩ := M.e_grd hM
 simp only [Bool.and_eq_true, decide_eq_true_eq] at aB
 refine zR ((5 * s_mix) + b) 1 (((5 * s_mix) + b) + 1) rfl rfl rfl (by omega) ?_
 obtain ⟨aC, hM⟩ := M.e_grd hM
 simp only [Bool.and_eq_true, decide_eq_true_eq] at aC
 refine s_val (x_rem' (a := ((5 * s_mix) + b) + 1) (b := 251) rfl rfl (by omega)) ?_
 refine s_val (x_nc (a := ⟨aa, 0, none⟩) rfl) ?_
 refine s_val (x_fa (a := Pq aa) (v := Oq aa 2) rfl (fa_blk (o := 0) Fd71_2 Sz3)) ?_
 refine t_sw 0 2 [I ((((5 * s_mix) + b) + 1) % 251)] (I ((((5 * s_mix) + b) + 1) % 251)) H rfl rfl Sz3 rfl rfl rfl rfl ?_
 intro aQ H
 refine s_nil ?_
 refine W.seq ?_
 refine W.region rfl ?_
 refine zM (Pq aa) rfl ?_
 refine s_val (x_nc (a := ⟨aa, 0, none⟩) rfl) ?_
 refine s_val (x_fa (a := Pq aa) (v := Oq aa 1) rfl (fa_blk (o := 0) Fd71_1 Sz3)) ?_
 refine s_val (x_ld (p := Oq aa 1) (v := I s_used) rfl (ldb_sc Sc3 (H.bl 0) rfl)) ?_
 obtain ⟨aD, hM⟩ := M.e_grd hM
 simp only [Bool.and_eq_true, decide_eq_true_eq] at aD
 refine zR s_used 1 (s_used + 1) rfl rfl rfl (by omega) ?_
 refine s_val (x_nc (a := ⟨aa, 0, none⟩) rfl) ?_
 refine s_val (x_fa (a := Pq aa) (v := Oq aa 1) rfl (fa_blk (o := 0) Fd71_1 Sz3)) ?_
 refine t_sw 0 1 [I (s_used + 1)] (I (s_used + 1)) H rfl rfl Sz3 rfl rfl rfl rfl ?_
 intro aR H
 refine s_nil ?_
 refine W.seq ?_
 refine W.seq ?_
 refine W.region rfl ?_
 refine zM (I n) rfl ?_
 refine zC n 256 (decide (256 < n)) rfl rfl rfl ?_
 refine s_nil ?_
 refine W.cond (decide (256 < n)) rfl (fun aj => ?_) (fun aj => ?_)
 ·replace hM := M.e_t hM aj
  simp only [qy1, qy2, qy3, qy4, qy5, qy6, ne_eq, qy7] at aj
  refine W.region rfl ?_
  refine zM (I b) rfl ?_
  obtain ⟨aE, hM⟩ := M.e_grd hM
  simp only [Bool.and_eq_true, decide_eq_true_eq] at aE
  refine zR 256 b (256 * b) rfl rfl rfl (by omega) ?_
  refine zM (Pq aa) rfl ?_
  refine s_val (x_nc (a := ⟨aa, 0, none⟩) rfl) ?_
  refine s_val (x_fa (a := Pq aa) (v := Oq aa 2) rfl (fa_blk (o := 0) Fd71_2 Sz3)) ?_
  refine s_val (x_ld (p := Oq aa 2) (v := I ((((5 * s_mix) + b) + 1) % 251)) rfl (ldb_sc Sc3 (H.bl 0) rfl)) ?_
  obtain ⟨aF, hM⟩ := M.e_grd hM
  simp only [Bool.and_eq_true, decide_eq_true_eq] at aF
  refine zR (256 * b) ((((5 * s_mix) + b) + 1) % 251) ((256 * b) + ((((5 * s_mix) + b) + 1) % 251)) rfl rfl rfl (by omega) ?_
  refine zA (I ((256 * b) + ((((5 * s_mix) + b) + 1) % 251))) rfl ?_
  refine s_nil ?_
  refine W.seq ?_
  refine W.region rfl ?_
  refine zM (I ((256 * b) + ((((5 * s_mix) + b) + 1) % 251))) rfl ?_
  refine zM (I n) rfl ?_
  obtain ⟨aG, hM⟩ := M.e_grd hM
  simp only [Bool.and_eq_true, decide_eq_true_eq] at aG
  refine s_val (x_rem' (a := (256 * b) + ((((5 * s_mix) + b) + 1) % 251)) (b := n) rfl rfl (by omega)) ?_
  refine zA (I (((256 * b) + ((((5 * s_mix) + b) + 1) % 251)) % n)) rfl ?_
  refine s_nil ?_
  refine W.ret ?_
  have ah := M.e_pure hM
  exact ⟨_, resE_tmp rfl, ⟨(((256 * b) + ((((5 * s_mix) + b) + 1) % 251)) % n), (s_used + 1), ((((5 * s_mix) + b) + 1) % 251), ah, rfl, H⟩⟩
 replace hM := M.e_f hM aj
 simp only [qy1, qy2, qy3, qy4, qy5, qy6, ne_eq, qy7] at aj
 refine W.skip ?_
 refine W.seq ?_
 refine W.region rfl ?_
 refine zM (I b) rfl ?_
 refine zM (I n) rfl ?_
 obtain ⟨aH, hM⟩ := M.e_grd hM
 simp only [Bool.and_eq_true, decide_eq_true_eq] at aH
 refine s_val (x_rem' (a := b) (b := n) rfl rfl (by omega)) ?_
 refine zA (I (b % n)) rfl ?_
 refine s_nil ?_
 refine W.ret ?_
 have ah := M.e_pure hM
 exact ⟨_, resE_tmp rfl, ⟨(b % n), (s_used + 1), ((((5 * s_mix) + b) + 1) % 251), ah, rfl, H⟩⟩

def zat (s_bytes : List UInt8) (s_used : Int) (s_mix : Int) (lo : Int) (hi : Int) : M (Int × Int × Int) :=
  M.grd (decide ((-9223372036854775808 : Int) <= (hi - lo)) && decide ((hi - lo) <= (9223372036854775807 : Int))) <|
  M.grd (decide ((-9223372036854775808 : Int) <= ((hi - lo) + 1)) && decide (((hi - lo) + 1) <= (9223372036854775807 : Int))) <|
  M.bind (zad s_bytes s_used s_mix ((hi - lo) + 1)) fun (r2, q1, q2) =>
  M.grd (decide ((-9223372036854775808 : Int) <= (lo + r2)) && decide ((lo + r2) <= (9223372036854775807 : Int))) <|
  M.pure ((lo + r2), q1, q2)
theorem zar {R : List Chunk} {aa : Nat} {ac : Cells} {ab : Value} (s_bytes : List UInt8) (s_used : Int) (s_mix : Int) (lo : Int) (hi : Int) (ah : Reads R ac) (ai : Sl ac ab s_bytes) {r : (Int × Int × Int)} (hM : (zat s_bytes s_used s_mix lo hi).Ends r) (w : World) (H : St w w [cBlk aa [ab, I s_used, I s_mix] 71] R) : Ret Try.prog 27 #[Pq aa, I lo, I hi] w fun v w' => ∃ (y0 : Int) (y1 : Int) (y2 : Int), (y0, y1, y2) = r /\ v = I y0 /\ St w w' [cBlk aa [ab, I y1, I y2] 71] R := by
 refine ret_of_W Try.func27 rfl rfl rfl ?_
 refine W.seq ?_
 refine W.region rfl ?_
 refine zA (I 0) rfl ?_
 refine s_nil ?_
 refine W.seq ?_
 refine W.region rfl ?_
 refine zM (I lo) rfl ?_
 refine zM (Pq aa) rfl ?_
 refine zM (I hi) rfl ?_
 refine zM (I lo) rfl ?_
 obtain ⟨aj, hM⟩ := M.e_grd hM
 simp only [Bool.and_eq_true, decide_eq_true_eq] at aj
 refine zR hi lo (hi - lo) rfl rfl rfl (by omega) ?_
 obtain ⟨ak, hM⟩ := M.e_grd hM
 simp only [Bool.and_eq_true, decide_eq_true_eq] at ak
 refine zR (hi - lo) 1 ((hi - lo) + 1) rfl rfl rfl (by omega) ?_
 obtain ⟨au, al, hM⟩ := M.e_bind hM
 refine s_call cf10 [Pq aa, I ((hi - lo) + 1)] rfl (zab s_bytes s_used s_mix ((hi - lo) + 1) (ah.app _) ai al _ (H.gt 0)) ?_
 rintro vq av ⟨r2, q1, q2, am, hvq, ae⟩
 subst am
 subst vq
 try dsimp only at hM
 replace H := H.bk ae
 clear ae
 obtain ⟨ao, hM⟩ := M.e_grd hM
 simp only [Bool.and_eq_true, decide_eq_true_eq] at ao
 refine zR lo r2 (lo + r2) rfl rfl rfl (by omega) ?_
 refine zA (I (lo + r2)) rfl ?_
 refine s_nil ?_
 refine W.ret ?_
 have aq := M.e_pure hM
 exact ⟨_, resE_tmp rfl, ⟨(lo + r2), q1, q2, aq, rfl, H⟩⟩

end Go.Proofs.Ytbaehghammbjdaa
end
section
set_option maxRecDepth 100000
set_option maxHeartbeats 16000000
namespace Go.Proofs.Ytbaehghammbjdaa
open Go Go.Nm
def zb2 (s_bytes : List UInt8) (i : Nat) (l : List Int) (l2 : List Span) (l3 : List Int) (down : Int) (r5 : Int) (r6 : Int) (aa : Int) (ab : Int) : M ((Int × Int × Nat × (List Int) × (List Span) × (List Int)) ⊕ (Int × Int × (List Int) × (List Span) × (List Int) × (List Int) × (List Span) × (List Int))) :=
  bif decide ((l3.length : Int) < 8) then (
  M.bind (zad s_bytes aa ab 3) fun (r7, ac, ae) =>
  bif ((decide ((l3.length : Int) < 8)) && (r7 == 0)) then (
  M.grd (decide ((l3.length + ([(i : Int)]).length) * 8 <= 140737488355328)) <|
  M.grd (decide ((-9223372036854775808 : Int) <= ((i : Int) + 1)) && decide (((i : Int) + 1) <= (9223372036854775807 : Int))) <|
  M.pure (.inl (ac, ae, i + 1, l ++ ([(down : Int)]), l2 ++ ([(⟨(r5 : Int), (r5 + r6 : Int)⟩ : Span)]), l3 ++ ([(i : Int)]))))
  else (
  M.grd (decide ((-9223372036854775808 : Int) <= ((i : Int) + 1)) && decide (((i : Int) + 1) <= (9223372036854775807 : Int))) <|
  M.pure (.inl (ac, ae, i + 1, l ++ ([(down : Int)]), l2 ++ ([(⟨(r5 : Int), (r5 + r6 : Int)⟩ : Span)]), l3))))
  else (
  M.grd (decide ((-9223372036854775808 : Int) <= ((i : Int) + 1)) && decide (((i : Int) + 1) <= (9223372036854775807 : Int))) <|
  M.pure (.inl (aa, ab, i + 1, l ++ ([(down : Int)]), l2 ++ ([(⟨(r5 : Int), (r5 + r6 : Int)⟩ : Span)]), l3)))
def zas (s_bytes : List UInt8) (i : Nat) (l : List Int) (l2 : List Span) (l3 : List Int) (s2 : Int) (s3 : Int) (down : Int) : M ((Int × Int × Nat × (List Int) × (List Span) × (List Int)) ⊕ (Int × Int × (List Int) × (List Span) × (List Int) × (List Int) × (List Span) × (List Int))) :=
  M.bind (zad s_bytes s2 s3 9) fun (r5, aa, ab) =>
  M.grd (decide ((l.length + ([(down : Int)]).length) * 8 <= 140737488355328)) <|
  M.bind (zad s_bytes aa ab 5) fun (r6, ac, ae) =>
  M.grd (decide ((-9223372036854775808 : Int) <= (r5 + r6)) && decide ((r5 + r6) <= (9223372036854775807 : Int))) <|
  M.grd (decide ((l2.length + ([(⟨(r5 : Int), (r5 + r6 : Int)⟩ : Span)]).length) * 16 <= 140737488355328)) <|
  zb2 s_bytes i l l2 l3 down r5 r6 ac ae
def za1 (s_bytes : List UInt8) (r2 : Int) : (Int × Int × Nat × (List Int) × (List Span) × (List Int)) -> M ((Int × Int × Nat × (List Int) × (List Span) × (List Int)) ⊕ (Int × Int × (List Int) × (List Span) × (List Int) × (List Int) × (List Span) × (List Int))) := fun (s4, s5, i, l, l2, l3) =>
  bif decide ((i : Int) < r2) then (
  M.grd (decide ((-9223372036854775808 : Int) <= ((i : Int) + 1)) && decide (((i : Int) + 1) <= (9223372036854775807 : Int))) <|
  bif decide (((i : Int) + 1) < r2) then (
  M.bind (zad s_bytes s4 s5 6) fun (r3, aa, ab) =>
  bif ((decide (((i : Int) + 1) < r2)) && (decide (0 < r3))) then (
  M.grd (decide ((-9223372036854775808 : Int) <= (r2 - 1)) && decide ((r2 - 1) <= (9223372036854775807 : Int))) <|
  M.grd (decide ((-9223372036854775808 : Int) <= ((i : Int) + 3)) && decide (((i : Int) + 3) <= (9223372036854775807 : Int))) <|
  M.bind (zat s_bytes aa ab ((i : Int) + 1) (min (r2 - 1) ((i : Int) + 3))) fun (r4, ac, ae) =>
  zas s_bytes i l l2 l3 ac ae r4)
  else (
  zas s_bytes i l l2 l3 aa ab (-1)))
  else (
  zas s_bytes i l l2 l3 s4 s5 (-1)))
  else (
  M.pure (.inr (s4, s5, l, l2, l3, l3, l2, l)))
def zbC (s_bytes : List UInt8) (r2 : Int) : (Int × Int × Int × (List Town)) -> M ((Int × Int × Int × (List Town)) ⊕ (Int × Int × (List Town) × (List Town))) := fun (s8, s9, k, aa) =>
  bif decide (0 < k) then (
  M.bind (zad s_bytes s8 s9 r2) fun (r9, ae, ah) =>
  M.bind (zad s_bytes ae ah 8) fun (ab, ai, aj) =>
  M.bind (zat s_bytes ai aj 100 300) fun (ac, ak, al) =>
  M.grd (decide ((aa.length + ([(⟨(r9 : Int), (ab : Int), (ac : Int)⟩ : Town)]).length) * 24 <= 140737488355328)) <|
  M.grd (decide ((-9223372036854775808 : Int) <= (k - 1)) && decide ((k - 1) <= (9223372036854775807 : Int))) <|
  M.pure (.inl (ak, al, k - 1, aa ++ ([(⟨(r9 : Int), (ab : Int), (ac : Int)⟩ : Town)]))))
  else (
  M.pure (.inr (s8, s9, aa, aa)))
def za0 (s_bytes : List UInt8) (l9 : List Int) : (Int × Int × Int × (List Int)) -> M ((Int × Int × Int × (List Int)) ⊕ (Int × Int × (List Int) × (List Int))) := fun (ac, ae, aa, ab) =>
  bif aa != (-1) then (
  M.bind (zad s_bytes ac ae 400) fun (ah, ai, aj) =>
  M.grd (decide ((ab.length + ([(ah : Int)]).length) * 8 <= 140737488355328)) <|
  M.grd (decide ((0 : Int) <= aa) && decide (aa < (l9.length : Int))) <|
  M.pure (.inl (ai, aj, l9.getD (Int.toNat aa) 0, ab ++ ([(ah : Int)]))))
  else (
  M.pure (.inr (ac, ae, ab, ab)))
def zb0 (s_bytes : List UInt8) (l9 : List Int) (aa : List Int) (k2 : Int) (ac : List Flood) (ab : Int) (ah : Int) (ai : Int) : M ((Int × Int × Int × (List Flood)) ⊕ ((List Flood) × (List Flood) × Int × Int)) :=
  M.bind (M.iter (za0 s_bytes l9) (ah, ai, aa.getD (Int.toNat ab) 0, [])) fun (aj, ak, al, ae) =>
  M.grd (decide ((ac.length + ([(⟨(aa.getD (Int.toNat ab) 0 : Int), ae⟩ : Flood)]).length) * 32 <= 140737488355328)) <|
  M.grd (decide ((-9223372036854775808 : Int) <= (k2 - 1)) && decide ((k2 - 1) <= (9223372036854775807 : Int))) <|
  M.pure (.inl (aj, ak, k2 - 1, ac ++ ([(⟨(aa.getD (Int.toNat ab) 0 : Int), ae⟩ : Flood)])))
def zbe (s_bytes : List UInt8) (l9 : List Int) (aa : List Int) : (Int × Int × Int × (List Flood)) -> M ((Int × Int × Int × (List Flood)) ⊕ ((List Flood) × (List Flood) × Int × Int)) := fun (ae, ah, k2, ab) =>
  bif decide (0 < k2) then (
  M.bind (zad s_bytes ae ah (aa.length : Int)) fun (ac, ai, aj) =>
  M.grd (decide ((0 : Int) <= ac) && decide (ac < (aa.length : Int))) <|
  zb0 s_bytes l9 aa k2 ab ac ai aj)
  else (
  M.pure (.inr (ab, ab, ae, ah)))
def zbX (s_bytes : List UInt8) (l8 : List Span) (l9 : List Int) (aa : List Int) (ac : List Town) (ab : Int) (ae : Int) (ah : Int) (ai : Int) : M ((List Int) × (List Span) × (List Int) × (List Town) × Int × Int × (List Flood) × Int × Int) :=
  M.bind (zad s_bytes ah ai 10) fun (aj, ak, al) =>
  M.bind (M.iter (zbe s_bytes l9 aa) (ak, al, aj, [])) fun (au, am, ao, aq) =>
  M.pure (l9, l8, aa, ac, ab, (ab + ae), am, ao, aq)
def za9 (s_bytes : List UInt8) (r2 : Int) (s6 : Int) (s7 : Int) (l8 : List Span) (l9 : List Int) (ac : List Int) : M ((List Int) × (List Span) × (List Int) × (List Town) × Int × Int × (List Flood) × Int × Int) :=
  M.bind (zad s_bytes s6 s7 8) fun (r8, ae, ah) =>
  M.bind (M.iter (zbC s_bytes r2) (ae, ah, r8, [])) fun (ai, aj, au, ak) =>
  M.bind (zad s_bytes ai aj 3) fun (aa, al, am) =>
  M.bind (zad s_bytes al am 3) fun (ab, ao, aq) =>
  M.grd (decide ((-9223372036854775808 : Int) <= (aa + ab)) && decide ((aa + ab) <= (9223372036854775807 : Int))) <|
  zbX s_bytes l8 l9 ac ak aa ab ao aq
def zbN (s_bytes : List UInt8) (s_used : Int) (s_mix : Int) (most : Int) : M ((List Int) × (List Span) × (List Int) × (List Town) × Int × Int × (List Flood) × Int × Int) :=
  M.bind (zat s_bytes s_used s_mix 1 most) fun (r2, q1, q2) =>
  M.bind (M.iter (za1 s_bytes r2) (q1, q2, 0, [], [], [])) fun (s6, s7, l4, l5, l6, l7, l8, l9) =>
  bif (l7.length : Int) == 0 then (
  za9 s_bytes r2 s6 s7 l8 l9 ([(0 : Int)]))
  else (
  za9 s_bytes r2 s6 s7 l8 l9 l7)
theorem zdp {R : List Chunk} {ac : Nat} {cp : Cells} {aI : Value} (s_bytes : List UInt8) (s_used : Int) (s_mix : Int) (most : Int) (aq : Reads R cp) (au : Sl cp aI s_bytes) {r : ((List Int) × (List Span) × (List Int) × (List Town) × Int × Int × (List Flood) × Int × Int)} (hM : (zbN s_bytes s_used s_mix most).Ends r) (w : World) (H : St w w [cBlk ac [aI, I s_used, I s_mix] 71] R) : Ret Try.prog 8 #[Pq ac, I most] w fun v w' => ∃ (y0 : List Int) (y1 : List Span) (y2 : List Int) (y3 : List Town) (y4 : Int) (y5 : Int) (y6 : List Flood) (y7 : Int) (y8 : Int) (u0 : Value) (u1 : Value) (u2 : Value) (u3 : Value) (u4 : Value) (rr5 : List (Raw 1)) (cq : Base), (y0, y1, y2, y3, y4, y5, y6, y7, y8) = r /\ v = .agg #[u0, u1, u2, u3, I y4, I y5, u4] /\ St w w' [cOwn (α := Int) 3 u0 y0, cOwn (α := Span) 27 u1 y1, cOwn (α := Int) 3 u2 y2, cOwn (α := Town) 54 u3 y3, cOwn (α := Raw 1) 67 u4 rr5, cRo cq, cBlk ac [aI, I y7, I y8] 71] R /\ RepR (α := Flood) cq.cells rr5 y6 := by
 refine ret_of_W Try.func8 rfl rfl rfl ?_
 refine W.seq ?_
 refine W.region rfl ?_
 refine t_alloc (cs := [.slice none 0 0, .slice none 0 0, .slice none 0 0, .slice none 0 0, I 0, I 0, .slice none 0 0]) H Al30 rfl ?_
 intro aC gq H
 refine s_nil ?_
 refine W.seq ?_
 refine W.region rfl ?_
 refine t_alloc (cs := [.slice none 0 0, .slice none 0 0, .slice none 0 0, .slice none 0 0, I 0, I 0, .slice none 0 0]) H Al30 rfl ?_
 intro aa gr H
 refine s_nil ?_
 refine W.seq ?_
 refine W.region rfl ?_
 refine zM (Pq ac) rfl ?_
 refine zM (I most) rfl ?_
 obtain ⟨gu, c7, hM⟩ := M.e_bind hM
 refine s_call cf27 [Pq ac, I 1, I most] rfl (zar s_bytes s_used s_mix 1 most (aq.app _) au c7 _ ((H.pk [2, 0, 1]).gt 2)) ?_
 rintro vq gv ⟨r2, q1, q2, c8, hvq, ab⟩
 subst c8
 subst vq
 try dsimp only at hM
 replace H := H.pk [2, 0, 1] |>.bk ab
 clear ab
 refine zA (I r2) rfl ?_
 refine s_nil ?_
 refine W.seq ?_
 refine W.seq ?_
 refine W.region rfl ?_
 refine zA (I 0) rfl ?_
 refine s_nil ?_
 refine W.block ?_
 replace H := H.nilOwn (α := Int) 3
 replace H := H.nilOwn (α := Span) 27
 replace H := H.nilOwn (α := Int) 3
 obtain ⟨c9, bE, da⟩ := M.e_bind hM
 obtain ⟨bF, bE⟩ := M.e_iter bE
 refine W.loop (fun m σ W => ∃ (s4 : Int) (s5 : Int) (i : Nat) (l : List Int) (l2 : List Span) (l3 : List Int) (ae : Value) (ak : Value) (aF : Value) (ρ : Env), σ = upds ρ [(0, Pq ac), (4, Pq aC), (5, Pq aa), (6, I r2), (7, I (i : Int))] /\ M.iterN (za1 s_bytes r2) m (s4, s5, i, l, l2, l3) = some c9 /\ St w W [cOwn (α := Int) 3 aF l3, cOwn (α := Span) 27 ak l2, cOwn (α := Int) 3 ae l, cBlk ac [aI, I s4, I s5] 71, cBlk aa [ae, ak, aF, .slice none 0 0, I 0, I 0, .slice none 0 0] 30, cBlk aC [.slice none 0 0, .slice none 0 0, .slice none 0 0, .slice none 0 0, I 0, I 0, .slice none 0 0] 30] R) ?_ ?_
 ·exact ⟨_, q1, q2, 0, [], [], [], (.slice none 0 0), (.slice none 0 0), (.slice none 0 0), _, upds_of _ _ ⟨rfl, rfl, rfl, rfl, rfl, trivial⟩, bE, H⟩
 rintro gw σ gx ⟨s4, s5, i, l, l2, l3, ae, ak, aF, ρ, rfl, ct, H⟩
 obtain ⟨bG, bH, cu, hM, bv⟩ := M.e_iterN ct
 simp only [za1] at hM
 clear ct
 refine W.seq ?_
 refine W.seq ?_
 refine W.region rfl ?_
 refine zM (I (i : Int)) rfl ?_
 refine zM (I r2) rfl ?_
 refine zC (i : Int) r2 (decide ((i : Int) < r2)) rfl rfl rfl ?_
 refine s_nil ?_
 refine W.cond (decide ((i : Int) < r2)) rfl (fun bn => ?_) (fun bn => ?_)
 ·replace hM := M.e_t hM bn
  simp only [qy1, qy2, qy3, qy4, qy5, qy6, ne_eq, qy7] at bn
  refine W.skip ?_
  refine W.seq ?_
  refine W.block ?_
  refine W.seq ?_
  refine W.region rfl ?_
  refine zA (I (-1)) rfl ?_
  refine s_nil ?_
  refine W.seqJ (fun σ W => ∃ (s2 : Int) (s3 : Int) (down : Int) (ρ : Env), σ = upds ρ [(0, Pq ac), (4, Pq aC), (5, Pq aa), (6, I r2), (7, I (i : Int)), (8, I down)] /\ (zas s_bytes i l l2 l3 s2 s3 down).Ends cu /\ St w W [cBlk ac [aI, I s2, I s3] 71, cOwn (α := Int) 3 aF l3, cOwn (α := Span) 27 ak l2, cOwn (α := Int) 3 ae l, cBlk aa [ae, ak, aF, .slice none 0 0, I 0, I 0, .slice none 0 0] 30, cBlk aC [.slice none 0 0, .slice none 0 0, .slice none 0 0, .slice none 0 0, I 0, I 0, .slice none 0 0] 30] R) ?_ ?_
  ·skip
   refine W.seq ?_
   refine W.region rfl ?_
   refine zM (I (i : Int)) rfl ?_
   obtain ⟨db, hM⟩ := M.e_grd hM
   simp only [Bool.and_eq_true, decide_eq_true_eq] at db
   refine zR (i : Int) 1 ((i : Int) + 1) rfl rfl rfl (by omega) ?_
   refine zM (I r2) rfl ?_
   refine zC ((i : Int) + 1) r2 (decide (((i : Int) + 1) < r2)) rfl rfl rfl ?_
   refine zM (B (decide (((i : Int) + 1) < r2))) rfl ?_
   refine g_val (decide (((i : Int) + 1) < r2)) (gy_t rfl) (fun hg => x_mv (v := Pq ac) rfl) ?_
   refine g_splitV (decide (((i : Int) + 1) < r2)) (I 0) (gy_t rfl) (fun aJ => ?_) (fun aJ => ?_)
   ·replace hM := M.e_t hM aJ
    obtain ⟨gy, dc, hM⟩ := M.e_bind hM
    refine s_call cf10 [Pq ac, I 6] (lst2 (gd_of (c := decide (((i : Int) + 1) < r2)) aJ (Pq ac)) rfl) (zab s_bytes s4 s5 6 (aq.app _) au dc _ ((H.pk [3, 0, 1, 2, 4, 5]).gt 5)) ?_
    rintro vq gz ⟨r3, cw, cx, dd, hvq, ab⟩
    subst dd
    subst vq
    try dsimp only at hM
    replace H := H.pk [3, 0, 1, 2, 4, 5] |>.bk ab
    clear ab
    refine g_val (decide (((i : Int) + 1) < r2)) (gy_t rfl) (fun hg => x_cmp (kd := .i64) (a := r3) (b := 0) (r := decide (0 < r3)) rfl rfl rfl) ?_
    refine s_val (x_pand (b := decide (((i : Int) + 1) < r2)) (r := decide (0 < r3)) rfl (fun hb => gd_of (c := decide (((i : Int) + 1) < r2)) (by first | exact hb | (rw [hb]; rfl) | simp_all) (B (decide (0 < r3)))) rfl) ?_
    refine s_nil ?_
    refine W.cond ((decide (((i : Int) + 1) < r2)) && (decide (0 < r3))) rfl (fun bI => ?_) (fun bI => ?_)
    ·replace hM := M.e_t hM bI
     refine W.region rfl ?_
     refine zM (Pq ac) rfl ?_
     refine zM (I (i : Int)) rfl ?_
     refine zR (i : Int) 1 ((i : Int) + 1) rfl rfl rfl (by omega) ?_
     refine zM (I r2) rfl ?_
     obtain ⟨de, hM⟩ := M.e_grd hM
     simp only [Bool.and_eq_true, decide_eq_true_eq] at de
     refine zR r2 1 (r2 - 1) rfl rfl rfl (by omega) ?_
     refine zM (I (i : Int)) rfl ?_
     obtain ⟨dg, hM⟩ := M.e_grd hM
     simp only [Bool.and_eq_true, decide_eq_true_eq] at dg
     refine zR (i : Int) 3 ((i : Int) + 3) rfl rfl rfl (by omega) ?_
     refine s_val (x_min (kd := .i64) (a := r2 - 1) (b := (i : Int) + 3) rfl rfl) ?_
     obtain ⟨gA, di, hM⟩ := M.e_bind hM
     refine s_call cf27 [Pq ac, I ((i : Int) + 1), I (min (r2 - 1) ((i : Int) + 3))] rfl (zar s_bytes cw cx ((i : Int) + 1) (min (r2 - 1) ((i : Int) + 3)) (aq.app _) au di _ (H.gt 5)) ?_
     rintro vq gB ⟨r4, dk, dm, dq, hvq, ab⟩
     subst dq
     subst vq
     try dsimp only at hM
     replace H := H.bk ab
     clear ab
     refine zA (I r4) rfl ?_
     refine s_nil ?_
     exact ⟨dk, dm, r4, _, upds_of _ _ ⟨rfl, rfl, rfl, rfl, rfl, rfl, trivial⟩, hM, H⟩
    replace hM := M.e_f hM bI
    refine W.skip ?_
    exact ⟨cw, cx, -1, _, upds_of _ _ ⟨rfl, rfl, rfl, rfl, rfl, rfl, trivial⟩, hM, H⟩
   replace hM := M.e_f hM aJ
   refine g_val (v := B false) (decide (((i : Int) + 1) < r2)) (gy_t rfl) (fun hg => Bool.noConfusion (aJ.symm.trans hg)) ?_
   refine s_val (x_pand0 (b := decide (((i : Int) + 1) < r2)) rfl (fun hb => gd_of (c := decide (((i : Int) + 1) < r2)) (by first | exact hb | (rw [hb]; rfl) | simp_all) (B false)) rfl) ?_
   refine s_nil ?_
   refine W.cond false rfl (fun cy => ?_) (fun cy => ?_)
   ·skip
    exact absurd cy (by decide)
   skip
   refine W.skip ?_
   exact ⟨s4, s5, -1, _, upds_of _ _ ⟨rfl, rfl, rfl, rfl, rfl, rfl, trivial⟩, hM, (H.pk [3, 0, 1, 2, 4, 5])⟩
  rintro _ gC ⟨s2, s3, down, ρ, rfl, hM, H⟩
  unfold zas at hM
  refine W.seq ?_
  refine W.region rfl ?_
  refine zM (Pq ac) rfl ?_
  obtain ⟨gD, dr, hM⟩ := M.e_bind hM
  refine s_call cf10 [Pq ac, I 9] rfl (zab s_bytes s2 s3 9 (aq.app _) au dr _ (H.gt 5)) ?_
  rintro vq gE ⟨r5, aM, aN, dt, hvq, ab⟩
  subst dt
  subst vq
  try dsimp only at hM
  replace H := H.bk ab
  clear ab
  refine zA (I r5) rfl ?_
  refine s_nil ?_
  refine W.seqJ (fun σ W => ∃ (r6 : Int) (ay : Int) (az : Int) (cz : Value) (cA : Value) (aY : Value) (aZ : Value) (ρ : Env), σ = upds ρ [(0, Pq ac), (4, Pq aC), (5, Pq aa), (6, I r2), (7, I (i : Int))] /\ (zb2 s_bytes i l l2 l3 down r5 r6 ay az).Ends cu /\ St w W [cOwn (α := Span) 27 cz ([(⟨(r5 : Int), (r5 + r6 : Int)⟩ : Span)]), cBlk ac [aI, I ay, I az] 71, cOwn (α := Int) 3 cA ([(down : Int)]), cOwn (α := Int) 3 aF l3, cOwn (α := Span) 27 aY (l2 ++ ([(⟨(r5 : Int), (r5 + r6 : Int)⟩ : Span)])), cOwn (α := Int) 3 aZ (l ++ ([(down : Int)])), cBlk aa [aZ, aY, aF, .slice none 0 0, I 0, I 0, .slice none 0 0] 30, cBlk aC [.slice none 0 0, .slice none 0 0, .slice none 0 0, .slice none 0 0, I 0, I 0, .slice none 0 0] 30] R) ?_ ?_
  ·skip
   refine W.drawT (fun W => St w W [cOwn (α := Int) 3 aF l3, cBlk aC [.slice none 0 0, .slice none 0 0, .slice none 0 0, .slice none 0 0, I 0, I 0, .slice none 0 0] 30] R) (.q 0 (.q 2 (.q 5 (.q 7 (.q 8 (.q 9 (.l3 1 (.l2 3 (.l2 4 (.l2 6 (.q 15 (.l 10 (.q 11 (.q 12 (.l 13 (.l 14 (.l 16 (.q 17 (.l 18 .nil))))))))) 10 (.q 11 (.q 12 (.l2 6 (.q 15 (.l 13 (.l 14 (.l 16 (.q 17 (.l 18 .nil)))))) 13 (.l 6 (.q 15 (.l 14 (.l 16 (.q 17 (.l 18 .nil)))))))))) 6 (.l 4 (.q 15 (.l 10 (.q 11 (.q 12 (.l 13 (.l 14 (.l 16 (.q 17 (.l 18 .nil))))))))))) 6 (.l 3 (.l 4 (.q 15 (.l 10 (.q 11 (.q 12 (.l 13 (.l 14 (.l 16 (.q 17 (.l 18 .nil)))))))))))) 3 (.l2 1 (.l2 4 (.l2 6 (.q 15 (.l 10 (.q 11 (.q 12 (.l 13 (.l 14 (.l 16 (.q 17 (.l 18 .nil))))))))) 10 (.q 11 (.q 12 (.l2 6 (.q 15 (.l 13 (.l 14 (.l 16 (.q 17 (.l 18 .nil)))))) 13 (.l 6 (.q 15 (.l 14 (.l 16 (.q 17 (.l 18 .nil)))))))))) 6 (.l 4 (.q 15 (.l 10 (.q 11 (.q 12 (.l 13 (.l 14 (.l 16 (.q 17 (.l 18 .nil))))))))))) 6 (.l 1 (.l 4 (.q 15 (.l 10 (.q 11 (.q 12 (.l 13 (.l 14 (.l 16 (.q 17 (.l 18 .nil)))))))))))) 6 (.l2 1 (.l 3 (.l 4 (.q 15 (.l 10 (.q 11 (.q 12 (.l 13 (.l 14 (.l 16 (.q 17 (.l 18 .nil))))))))))) 3 (.l 1 (.l 4 (.q 15 (.l 10 (.q 11 (.q 12 (.l 13 (.l 14 (.l 16 (.q 17 (.l 18 .nil))))))))))))))))))) mixed (by decide +kernel) rfl ?_
   intro gF aG
   replace H := H.ext aG
   clear aG
   refine ⟨(H.pk [1, 5]), ?_⟩
   refine t_q rfl (fun w' H => x_fa (a := Pq aa) (v := Pq aa) rfl (fa_blk (o := 0) Fd30_0 Sz23)) ?_
   refine t_q rfl (fun w' H => x_mv (v := I down) rfl) ?_
   refine t_q rfl (fun w' H => x_fa (a := Pq aa) (v := Oq aa 1) rfl (fa_blk (o := 0) Fd30_1 Sz24)) ?_
   refine t_q rfl (fun w' H => x_mv (v := I r5) rfl) ?_
   refine t_q rfl (fun w' H => x_mv (v := I r5) rfl) ?_
   refine t_q rfl (fun w' H => x_mv (v := Pq ac) rfl) ?_
   refine t_l3 rfl rfl rfl ?_ ?_ ?_
   ·skip
    refine s_val (x_ld (p := Pq aa) (v := ae) rfl (ldb_sc Sc23 (H.bl 4) rfl)) ?_
    have gG := Sl.cells (H.os 2)
    have gH := Sl.oc (H.os 2)
    have gI := Sl.cells (H.os 3)
    have gJ := Sl.oc (H.os 3)
    refine s_nil ⟨(H.pk [1, 5]), ?_⟩
    refine t_l2 rfl rfl ?_ ?_
    ·skip
     refine t_bs (α := Int) T23 [I down] [(down : Int)] H rfl (.cons rfl (Flat.rep_enc _ (down : Int)) <| .nil) rfl rfl rfl ?_
     intro a8 gK H
     have gL := Sl.cells (H.os 0)
     have gM := Sl.oc (H.os 0)
     refine s_nil ⟨(H.pk [2, 6]), ?_⟩
     refine t_l2 rfl rfl ?_ ?_
     ·skip
      obtain ⟨du, hM⟩ := M.e_grd hM
      simp only [Bool.and_eq_true, decide_eq_true_eq] at du
      refine t_app (α := Int) (k := 4) (l := l) (l2 := [(down : Int)]) (l' := l ++ ([(down : Int)])) (vy := a8) T23 rfl H rfl rfl rfl (H.os 0) (H.ol 0) (rfl) (by first | omega | (simp only [List.length_nil] at *; omega)) ?_
      intro aO gN H
      replace H := H.nf
      have gO := Sl.cells (H.os 4)
      have gP := Sl.oc (H.os 4)
      refine s_nil ⟨(H.pk [2, 6]), ?_⟩
      refine t_l2 rfl rfl ?_ ?_
      ·skip
       refine s_val (x_ld (p := Oq aa 1) (v := ak) rfl (ldb_sc Sc24 (H.bl 5) rfl)) ?_
       refine s_nil ⟨(H.pk [2, 6]), ?_⟩
       refine t_q rfl (fun w' H => x_fa (a := Pq aa) (v := Pq aa) rfl (fa_blk (o := 0) Fd30_0 Sz23)) ?_
       refine t_l rfl ?_
       obtain ⟨gQ, dv, hM⟩ := M.e_bind hM
       refine s_call cf10 [Pq ac, I 5] rfl (zab s_bytes aM aN 5 (aq.app _) au dv _ ((H.pk [1, 0, 2, 3, 4, 5, 6]).gt 6)) ?_
       rintro vq gR ⟨r6, ay, az, dw, hvq, ab⟩
       subst dw
       subst vq
       try dsimp only at hM
       replace H := H.pk [1, 0, 2, 3, 4, 5, 6] |>.bk ab
       clear ab
       refine s_nil ⟨(H.pk [2, 6]), ?_⟩
       obtain ⟨dx, hM⟩ := M.e_grd hM
       simp only [Bool.and_eq_true, decide_eq_true_eq] at dx
       refine t_q rfl (fun w' H => x_ari (a := r5) (b := r6) (r := r5 + r6) rfl rfl rfl (by omega)) ?_
       refine t_q rfl (fun w' H => x_bld (ps := [(0, I r5), (1, I (r5 + r6))]) (zs := [I 0, I 0]) (L' := [I r5, I (r5 + r6)]) rfl Try.underlying27 Al27 rfl (Bd27 Try.underlying27) (.cons (cs := [I r5]) rfl rfl rfl rfl rfl <| .cons (cs := [I (r5 + r6)]) rfl rfl rfl rfl rfl <| .nil)) ?_
       refine t_l rfl ?_
       refine t_bs (α := Span) T24 [.agg #[I r5, I (r5 + r6)]] [(⟨(r5 : Int), (r5 + r6 : Int)⟩ : Span)] H rfl (.cons rfl (Flat.rep_enc _ (⟨(r5 : Int), (r5 + r6 : Int)⟩ : Span)) <| .nil) rfl rfl rfl ?_
       intro cB gS H
       have gT := Sl.cells (H.os 0)
       have gU := Sl.oc (H.os 0)
       refine s_nil ⟨(H.pk [3, 7]), ?_⟩
       refine t_l rfl ?_
       obtain ⟨dy, hM⟩ := M.e_grd hM
       simp only [Bool.and_eq_true, decide_eq_true_eq] at dy
       refine t_app (α := Span) (k := 4) (l := l2) (l2 := [(⟨(r5 : Int), (r5 + r6 : Int)⟩ : Span)]) (l' := l2 ++ ([(⟨(r5 : Int), (r5 + r6 : Int)⟩ : Span)])) (vy := cB) T24 rfl H rfl rfl rfl (H.os 0) (H.ol 0) (rfl) (by first | omega | (simp only [List.length_nil] at *; omega)) ?_
       intro bJ gV H
       replace H := H.nf
       have gW := Sl.cells (H.os 4)
       have gX := Sl.oc (H.os 4)
       refine s_nil ⟨(H.pk [3, 7]), ?_⟩
       refine t_l rfl ?_
       refine t_sw 6 0 [aO] aO H rfl rfl Sz23 (Sl.cells (H.os 5)) rfl rfl (by simp only [List.all_cons, List.all_nil, Bool.true_and, Bool.and_true, Sl.oc (H.os 5)]; try rfl) ?_
       intro gY H
       refine s_nil ⟨(H.pk [3, 7]), ?_⟩
       refine t_q rfl (fun w' H => x_fa (a := Pq aa) (v := Oq aa 1) rfl (fa_blk (o := 0) Fd30_1 Sz24)) ?_
       refine t_l rfl ?_
       refine t_sw 6 1 [bJ] bJ H rfl rfl Sz24 (Sl.cells (H.os 4)) rfl rfl (by simp only [List.all_cons, List.all_nil, Bool.true_and, Bool.and_true, Sl.oc (H.os 4)]; try rfl) ?_
       intro gZ H
       refine s_nil ⟨(H.pk [3, 7]), ?_⟩
       refine t_nil ?_
       exact ⟨r6, ay, az, cB, a8, bJ, aO, _, upds_of _ _ ⟨rfl, rfl, rfl, rfl, rfl, trivial⟩, hM, H⟩
      skip
      obtain ⟨g0, dz, hM⟩ := M.e_bind hM
      refine s_call cf10 [Pq ac, I 5] rfl (zab s_bytes aM aN 5 (aq.app _) au dz _ ((H.pk [1, 0, 2, 3, 4, 5, 6]).gt 6)) ?_
      rintro vq hG ⟨r6, ay, az, dA, hvq, ab⟩
      subst dA
      subst vq
      try dsimp only at hM
      replace H := H.pk [1, 0, 2, 3, 4, 5, 6] |>.bk ab
      clear ab
      refine s_nil ⟨(H.pk [2, 6]), ?_⟩
      obtain ⟨dB, hM⟩ := M.e_grd hM
      simp only [Bool.and_eq_true, decide_eq_true_eq] at dB
      refine t_q rfl (fun w' H => x_ari (a := r5) (b := r6) (r := r5 + r6) rfl rfl rfl (by omega)) ?_
      refine t_q rfl (fun w' H => x_bld (ps := [(0, I r5), (1, I (r5 + r6))]) (zs := [I 0, I 0]) (L' := [I r5, I (r5 + r6)]) rfl Try.underlying27 Al27 rfl (Bd27 Try.underlying27) (.cons (cs := [I r5]) rfl rfl rfl rfl rfl <| .cons (cs := [I (r5 + r6)]) rfl rfl rfl rfl rfl <| .nil)) ?_
      obtain ⟨dC, hM⟩ := M.e_grd hM
      simp only [Bool.and_eq_true, decide_eq_true_eq] at dC
      refine t_l2 rfl rfl ?_ ?_
      ·skip
       refine s_val (x_ld (p := Oq aa 1) (v := ak) rfl (ldb_sc Sc24 (H.bl 5) rfl)) ?_
       refine s_nil ⟨(H.pk [2, 6]), ?_⟩
       refine t_q rfl (fun w' H => x_fa (a := Pq aa) (v := Pq aa) rfl (fa_blk (o := 0) Fd30_0 Sz23)) ?_
       refine t_l rfl ?_
       refine t_bs (α := Span) T24 [.agg #[I r5, I (r5 + r6)]] [(⟨(r5 : Int), (r5 + r6 : Int)⟩ : Span)] H rfl (.cons rfl (Flat.rep_enc _ (⟨(r5 : Int), (r5 + r6 : Int)⟩ : Span)) <| .nil) rfl rfl rfl ?_
       intro cC hJ H
       have hN := Sl.cells (H.os 0)
       have hO := Sl.oc (H.os 0)
       refine s_nil ⟨(H.pk [3, 7]), ?_⟩
       refine t_l rfl ?_
       refine t_app (α := Span) (k := 4) (l := l2) (l2 := [(⟨(r5 : Int), (r5 + r6 : Int)⟩ : Span)]) (l' := l2 ++ ([(⟨(r5 : Int), (r5 + r6 : Int)⟩ : Span)])) (vy := cC) T24 rfl H rfl rfl rfl (H.os 0) (H.ol 0) (rfl) (by first | omega | (simp only [List.length_nil] at *; omega)) ?_
       intro bK hP H
       replace H := H.nf
       have hZ := Sl.cells (H.os 4)
       have h9 := Sl.oc (H.os 4)
       refine s_nil ⟨(H.pk [3, 7]), ?_⟩
       refine t_l rfl ?_
       refine t_sw 6 0 [aO] aO H rfl rfl Sz23 (Sl.cells (H.os 5)) rfl rfl (by simp only [List.all_cons, List.all_nil, Bool.true_and, Bool.and_true, Sl.oc (H.os 5)]; try rfl) ?_
       intro ia H
       refine s_nil ⟨(H.pk [3, 7]), ?_⟩
       refine t_q rfl (fun w' H => x_fa (a := Pq aa) (v := Oq aa 1) rfl (fa_blk (o := 0) Fd30_1 Sz24)) ?_
       refine t_l rfl ?_
       refine t_sw 6 1 [bK] bK H rfl rfl Sz24 (Sl.cells (H.os 4)) rfl rfl (by simp only [List.all_cons, List.all_nil, Bool.true_and, Bool.and_true, Sl.oc (H.os 4)]; try rfl) ?_
       intro ib H
       refine s_nil ⟨(H.pk [3, 7]), ?_⟩
       refine t_nil ?_
       exact ⟨r6, ay, az, cC, a8, bK, aO, _, upds_of _ _ ⟨rfl, rfl, rfl, rfl, rfl, trivial⟩, hM, H⟩
      skip
      refine t_bs (α := Span) T24 [.agg #[I r5, I (r5 + r6)]] [(⟨(r5 : Int), (r5 + r6 : Int)⟩ : Span)] H rfl (.cons rfl (Flat.rep_enc _ (⟨(r5 : Int), (r5 + r6 : Int)⟩ : Span)) <| .nil) rfl rfl rfl ?_
      intro cD ic H
      have ie := Sl.cells (H.os 0)
      have ig := Sl.oc (H.os 0)
      refine s_nil ⟨(H.pk [3, 7]), ?_⟩
      refine t_l rfl ?_
      refine s_val (x_ld (p := Oq aa 1) (v := ak) rfl (ldb_sc Sc24 (H.bl 6) rfl)) ?_
      refine s_nil ⟨(H.pk [3, 7]), ?_⟩
      refine t_q rfl (fun w' H => x_fa (a := Pq aa) (v := Pq aa) rfl (fa_blk (o := 0) Fd30_0 Sz23)) ?_
      refine t_l rfl ?_
      refine t_app (α := Span) (k := 4) (l := l2) (l2 := [(⟨(r5 : Int), (r5 + r6 : Int)⟩ : Span)]) (l' := l2 ++ ([(⟨(r5 : Int), (r5 + r6 : Int)⟩ : Span)])) (vy := cD) T24 rfl H rfl rfl rfl (H.os 0) (H.ol 0) (rfl) (by first | omega | (simp only [List.length_nil] at *; omega)) ?_
      intro bL ii H
      replace H := H.nf
      have ij := Sl.cells (H.os 4)
      have ik := Sl.oc (H.os 4)
      refine s_nil ⟨(H.pk [3, 7]), ?_⟩
      refine t_l rfl ?_
      refine t_sw 6 0 [aO] aO H rfl rfl Sz23 (Sl.cells (H.os 5)) rfl rfl (by simp only [List.all_cons, List.all_nil, Bool.true_and, Bool.and_true, Sl.oc (H.os 5)]; try rfl) ?_
      intro il H
      refine s_nil ⟨(H.pk [3, 7]), ?_⟩
      refine t_q rfl (fun w' H => x_fa (a := Pq aa) (v := Oq aa 1) rfl (fa_blk (o := 0) Fd30_1 Sz24)) ?_
      refine t_l rfl ?_
      refine t_sw 6 1 [bL] bL H rfl rfl Sz24 (Sl.cells (H.os 4)) rfl rfl (by simp only [List.all_cons, List.all_nil, Bool.true_and, Bool.and_true, Sl.oc (H.os 4)]; try rfl) ?_
      intro im H
      refine s_nil ⟨(H.pk [3, 7]), ?_⟩
      refine t_nil ?_
      exact ⟨r6, ay, az, cD, a8, bL, aO, _, upds_of _ _ ⟨rfl, rfl, rfl, rfl, rfl, trivial⟩, hM, H⟩
     skip
     refine s_val (x_ld (p := Oq aa 1) (v := ak) rfl (ldb_sc Sc24 (H.bl 5) rfl)) ?_
     refine s_nil ⟨(H.pk [2, 6]), ?_⟩
     refine t_l rfl ?_
     obtain ⟨dD, hM⟩ := M.e_grd hM
     simp only [Bool.and_eq_true, decide_eq_true_eq] at dD
     refine t_app (α := Int) (k := 4) (l := l) (l2 := [(down : Int)]) (l' := l ++ ([(down : Int)])) (vy := a8) T23 rfl H rfl rfl rfl (H.os 0) (H.ol 0) (rfl) (by first | omega | (simp only [List.length_nil] at *; omega)) ?_
     intro bM io H
     replace H := H.nf
     have ip := Sl.cells (H.os 4)
     have iq := Sl.oc (H.os 4)
     refine s_nil ⟨(H.pk [2, 6]), ?_⟩
     refine t_q rfl (fun w' H => x_fa (a := Pq aa) (v := Pq aa) rfl (fa_blk (o := 0) Fd30_0 Sz23)) ?_
     refine t_l rfl ?_
     obtain ⟨ir, dE, hM⟩ := M.e_bind hM
     refine s_call cf10 [Pq ac, I 5] rfl (zab s_bytes aM aN 5 (aq.app _) au dE _ ((H.pk [1, 0, 2, 3, 4, 5, 6]).gt 6)) ?_
     rintro vq iu ⟨r6, ay, az, dF, hvq, ab⟩
     subst dF
     subst vq
     try dsimp only at hM
     replace H := H.pk [1, 0, 2, 3, 4, 5, 6] |>.bk ab
     clear ab
     refine s_nil ⟨(H.pk [2, 6]), ?_⟩
     obtain ⟨dG, hM⟩ := M.e_grd hM
     simp only [Bool.and_eq_true, decide_eq_true_eq] at dG
     refine t_q rfl (fun w' H => x_ari (a := r5) (b := r6) (r := r5 + r6) rfl rfl rfl (by omega)) ?_
     refine t_q rfl (fun w' H => x_bld (ps := [(0, I r5), (1, I (r5 + r6))]) (zs := [I 0, I 0]) (L' := [I r5, I (r5 + r6)]) rfl Try.underlying27 Al27 rfl (Bd27 Try.underlying27) (.cons (cs := [I r5]) rfl rfl rfl rfl rfl <| .cons (cs := [I (r5 + r6)]) rfl rfl rfl rfl rfl <| .nil)) ?_
     refine t_l rfl ?_
     refine t_bs (α := Span) T24 [.agg #[I r5, I (r5 + r6)]] [(⟨(r5 : Int), (r5 + r6 : Int)⟩ : Span)] H rfl (.cons rfl (Flat.rep_enc _ (⟨(r5 : Int), (r5 + r6 : Int)⟩ : Span)) <| .nil) rfl rfl rfl ?_
     intro cE iw H
     have iy := Sl.cells (H.os 0)
     have iz := Sl.oc (H.os 0)
     refine s_nil ⟨(H.pk [3, 7]), ?_⟩
     refine t_l rfl ?_
     obtain ⟨dH, hM⟩ := M.e_grd hM
     simp only [Bool.and_eq_true, decide_eq_true_eq] at dH
     refine t_app (α := Span) (k := 4) (l := l2) (l2 := [(⟨(r5 : Int), (r5 + r6 : Int)⟩ : Span)]) (l' := l2 ++ ([(⟨(r5 : Int), (r5 + r6 : Int)⟩ : Span)])) (vy := cE) T24 rfl H rfl rfl rfl (H.os 0) (H.ol 0) (rfl) (by first | omega | (simp only [List.length_nil] at *; omega)) ?_
     intro bN iA H
     replace H := H.nf
     have iB := Sl.cells (H.os 4)
     have iC := Sl.oc (H.os 4)
     refine s_nil ⟨(H.pk [3, 7]), ?_⟩
     refine t_l rfl ?_
     refine t_sw 6 0 [bM] bM H rfl rfl Sz23 (Sl.cells (H.os 5)) rfl rfl (by simp only [List.all_cons, List.all_nil, Bool.true_and, Bool.and_true, Sl.oc (H.os 5)]; try rfl) ?_
     intro iD H
     refine s_nil ⟨(H.pk [3, 7]), ?_⟩
     refine t_q rfl (fun w' H => x_fa (a := Pq aa) (v := Oq aa 1) rfl (fa_blk (o := 0) Fd30_1 Sz24)) ?_
     refine t_l rfl ?_
     refine t_sw 6 1 [bN] bN H rfl rfl Sz24 (Sl.cells (H.os 4)) rfl rfl (by simp only [List.all_cons, List.all_nil, Bool.true_and, Bool.and_true, Sl.oc (H.os 4)]; try rfl) ?_
     intro iE H
     refine s_nil ⟨(H.pk [3, 7]), ?_⟩
     refine t_nil ?_
     exact ⟨r6, ay, az, cE, a8, bN, bM, _, upds_of _ _ ⟨rfl, rfl, rfl, rfl, rfl, trivial⟩, hM, H⟩
    skip
    refine s_val (x_ld (p := Oq aa 1) (v := ak) rfl (ldb_sc Sc24 (H.bl 4) rfl)) ?_
    refine s_nil ⟨(H.pk [1, 5]), ?_⟩
    refine t_l rfl ?_
    refine t_bs (α := Int) T23 [I down] [(down : Int)] H rfl (.cons rfl (Flat.rep_enc _ (down : Int)) <| .nil) rfl rfl rfl ?_
    intro cF iF H
    have iG := Sl.cells (H.os 0)
    have iH := Sl.oc (H.os 0)
    refine s_nil ⟨(H.pk [2, 6]), ?_⟩
    refine t_l rfl ?_
    obtain ⟨dI, hM⟩ := M.e_grd hM
    simp only [Bool.and_eq_true, decide_eq_true_eq] at dI
    refine t_app (α := Int) (k := 4) (l := l) (l2 := [(down : Int)]) (l' := l ++ ([(down : Int)])) (vy := cF) T23 rfl H rfl rfl rfl (H.os 0) (H.ol 0) (rfl) (by first | omega | (simp only [List.length_nil] at *; omega)) ?_
    intro bO iI H
    replace H := H.nf
    have iJ := Sl.cells (H.os 4)
    have iK := Sl.oc (H.os 4)
    refine s_nil ⟨(H.pk [2, 6]), ?_⟩
    refine t_q rfl (fun w' H => x_fa (a := Pq aa) (v := Pq aa) rfl (fa_blk (o := 0) Fd30_0 Sz23)) ?_
    refine t_l rfl ?_
    obtain ⟨iL, dJ, hM⟩ := M.e_bind hM
    refine s_call cf10 [Pq ac, I 5] rfl (zab s_bytes aM aN 5 (aq.app _) au dJ _ ((H.pk [1, 0, 2, 3, 4, 5, 6]).gt 6)) ?_
    rintro vq iM ⟨r6, ay, az, dK, hvq, ab⟩
    subst dK
    subst vq
    try dsimp only at hM
    replace H := H.pk [1, 0, 2, 3, 4, 5, 6] |>.bk ab
    clear ab
    refine s_nil ⟨(H.pk [2, 6]), ?_⟩
    obtain ⟨dL, hM⟩ := M.e_grd hM
    simp only [Bool.and_eq_true, decide_eq_true_eq] at dL
    refine t_q rfl (fun w' H => x_ari (a := r5) (b := r6) (r := r5 + r6) rfl rfl rfl (by omega)) ?_
    refine t_q rfl (fun w' H => x_bld (ps := [(0, I r5), (1, I (r5 + r6))]) (zs := [I 0, I 0]) (L' := [I r5, I (r5 + r6)]) rfl Try.underlying27 Al27 rfl (Bd27 Try.underlying27) (.cons (cs := [I r5]) rfl rfl rfl rfl rfl <| .cons (cs := [I (r5 + r6)]) rfl rfl rfl rfl rfl <| .nil)) ?_
    refine t_l rfl ?_
    refine t_bs (α := Span) T24 [.agg #[I r5, I (r5 + r6)]] [(⟨(r5 : Int), (r5 + r6 : Int)⟩ : Span)] H rfl (.cons rfl (Flat.rep_enc _ (⟨(r5 : Int), (r5 + r6 : Int)⟩ : Span)) <| .nil) rfl rfl rfl ?_
    intro cG iN H
    have iO := Sl.cells (H.os 0)
    have iP := Sl.oc (H.os 0)
    refine s_nil ⟨(H.pk [3, 7]), ?_⟩
    refine t_l rfl ?_
    obtain ⟨dM, hM⟩ := M.e_grd hM
    simp only [Bool.and_eq_true, decide_eq_true_eq] at dM
    refine t_app (α := Span) (k := 4) (l := l2) (l2 := [(⟨(r5 : Int), (r5 + r6 : Int)⟩ : Span)]) (l' := l2 ++ ([(⟨(r5 : Int), (r5 + r6 : Int)⟩ : Span)])) (vy := cG) T24 rfl H rfl rfl rfl (H.os 0) (H.ol 0) (rfl) (by first | omega | (simp only [List.length_nil] at *; omega)) ?_
    intro bP iQ H
    replace H := H.nf
    have iR := Sl.cells (H.os 4)
    have iS := Sl.oc (H.os 4)
    refine s_nil ⟨(H.pk [3, 7]), ?_⟩
    refine t_l rfl ?_
    refine t_sw 6 0 [bO] bO H rfl rfl Sz23 (Sl.cells (H.os 5)) rfl rfl (by simp only [List.all_cons, List.all_nil, Bool.true_and, Bool.and_true, Sl.oc (H.os 5)]; try rfl) ?_
    intro iT H
    refine s_nil ⟨(H.pk [3, 7]), ?_⟩
    refine t_q rfl (fun w' H => x_fa (a := Pq aa) (v := Oq aa 1) rfl (fa_blk (o := 0) Fd30_1 Sz24)) ?_
    refine t_l rfl ?_
    refine t_sw 6 1 [bP] bP H rfl rfl Sz24 (Sl.cells (H.os 4)) rfl rfl (by simp only [List.all_cons, List.all_nil, Bool.true_and, Bool.and_true, Sl.oc (H.os 4)]; try rfl) ?_
    intro iU H
    refine s_nil ⟨(H.pk [3, 7]), ?_⟩
    refine t_nil ?_
    exact ⟨r6, ay, az, cG, cF, bP, bO, _, upds_of _ _ ⟨rfl, rfl, rfl, rfl, rfl, trivial⟩, hM, H⟩
   ·skip
    refine t_bs (α := Int) T23 [I down] [(down : Int)] H rfl (.cons rfl (Flat.rep_enc _ (down : Int)) <| .nil) rfl rfl rfl ?_
    intro aQ iV H
    have iW := Sl.cells (H.os 0)
    have iX := Sl.oc (H.os 0)
    have iY := Sl.cells (H.os 3)
    have iZ := Sl.oc (H.os 3)
    have i5 := Sl.cells (H.os 4)
    have i6 := Sl.oc (H.os 4)
    refine s_nil ⟨(H.pk [2, 6]), ?_⟩
    refine t_l2 rfl rfl ?_ ?_
    ·skip
     refine s_val (x_ld (p := Pq aa) (v := ae) rfl (ldb_sc Sc23 (H.bl 5) rfl)) ?_
     refine s_nil ⟨(H.pk [2, 6]), ?_⟩
     refine t_l2 rfl rfl ?_ ?_
     ·skip
      obtain ⟨dN, hM⟩ := M.e_grd hM
      simp only [Bool.and_eq_true, decide_eq_true_eq] at dN
      refine t_app (α := Int) (k := 4) (l := l) (l2 := [(down : Int)]) (l' := l ++ ([(down : Int)])) (vy := aQ) T23 rfl H rfl rfl rfl (H.os 0) (H.ol 0) (rfl) (by first | omega | (simp only [List.length_nil] at *; omega)) ?_
      intro aP i7 H
      replace H := H.nf
      have i8 := Sl.cells (H.os 4)
      have i9 := Sl.oc (H.os 4)
      refine s_nil ⟨(H.pk [2, 6]), ?_⟩
      refine t_l2 rfl rfl ?_ ?_
      ·skip
       refine s_val (x_ld (p := Oq aa 1) (v := ak) rfl (ldb_sc Sc24 (H.bl 5) rfl)) ?_
       refine s_nil ⟨(H.pk [2, 6]), ?_⟩
       refine t_q rfl (fun w' H => x_fa (a := Pq aa) (v := Pq aa) rfl (fa_blk (o := 0) Fd30_0 Sz23)) ?_
       refine t_l rfl ?_
       obtain ⟨ja, dO, hM⟩ := M.e_bind hM
       refine s_call cf10 [Pq ac, I 5] rfl (zab s_bytes aM aN 5 (aq.app _) au dO _ ((H.pk [1, 0, 2, 3, 4, 5, 6]).gt 6)) ?_
       rintro vq jb ⟨r6, ay, az, dP, hvq, ab⟩
       subst dP
       subst vq
       try dsimp only at hM
       replace H := H.pk [1, 0, 2, 3, 4, 5, 6] |>.bk ab
       clear ab
       refine s_nil ⟨(H.pk [2, 6]), ?_⟩
       obtain ⟨dQ, hM⟩ := M.e_grd hM
       simp only [Bool.and_eq_true, decide_eq_true_eq] at dQ
       refine t_q rfl (fun w' H => x_ari (a := r5) (b := r6) (r := r5 + r6) rfl rfl rfl (by omega)) ?_
       refine t_q rfl (fun w' H => x_bld (ps := [(0, I r5), (1, I (r5 + r6))]) (zs := [I 0, I 0]) (L' := [I r5, I (r5 + r6)]) rfl Try.underlying27 Al27 rfl (Bd27 Try.underlying27) (.cons (cs := [I r5]) rfl rfl rfl rfl rfl <| .cons (cs := [I (r5 + r6)]) rfl rfl rfl rfl rfl <| .nil)) ?_
       refine t_l rfl ?_
       refine t_bs (α := Span) T24 [.agg #[I r5, I (r5 + r6)]] [(⟨(r5 : Int), (r5 + r6 : Int)⟩ : Span)] H rfl (.cons rfl (Flat.rep_enc _ (⟨(r5 : Int), (r5 + r6 : Int)⟩ : Span)) <| .nil) rfl rfl rfl ?_
       intro cH jc H
       have jd := Sl.cells (H.os 0)
       have je := Sl.oc (H.os 0)
       refine s_nil ⟨(H.pk [3, 7]), ?_⟩
       refine t_l rfl ?_
       obtain ⟨dR, hM⟩ := M.e_grd hM
       simp only [Bool.and_eq_true, decide_eq_true_eq] at dR
       refine t_app (α := Span) (k := 4) (l := l2) (l2 := [(⟨(r5 : Int), (r5 + r6 : Int)⟩ : Span)]) (l' := l2 ++ ([(⟨(r5 : Int), (r5 + r6 : Int)⟩ : Span)])) (vy := cH) T24 rfl H rfl rfl rfl (H.os 0) (H.ol 0) (rfl) (by first | omega | (simp only [List.length_nil] at *; omega)) ?_
       intro bQ jf H
       replace H := H.nf
       have jg := Sl.cells (H.os 4)
       have jh := Sl.oc (H.os 4)
       refine s_nil ⟨(H.pk [3, 7]), ?_⟩
       refine t_l rfl ?_
       refine t_sw 6 0 [aP] aP H rfl rfl Sz23 (Sl.cells (H.os 5)) rfl rfl (by simp only [List.all_cons, List.all_nil, Bool.true_and, Bool.and_true, Sl.oc (H.os 5)]; try rfl) ?_
       intro ji H
       refine s_nil ⟨(H.pk [3, 7]), ?_⟩
       refine t_q rfl (fun w' H => x_fa (a := Pq aa) (v := Oq aa 1) rfl (fa_blk (o := 0) Fd30_1 Sz24)) ?_
       refine t_l rfl ?_
       refine t_sw 6 1 [bQ] bQ H rfl rfl Sz24 (Sl.cells (H.os 4)) rfl rfl (by simp only [List.all_cons, List.all_nil, Bool.true_and, Bool.and_true, Sl.oc (H.os 4)]; try rfl) ?_
       intro jj H
       refine s_nil ⟨(H.pk [3, 7]), ?_⟩
       refine t_nil ?_
       exact ⟨r6, ay, az, cH, aQ, bQ, aP, _, upds_of _ _ ⟨rfl, rfl, rfl, rfl, rfl, trivial⟩, hM, H⟩
      skip
      obtain ⟨jk, dS, hM⟩ := M.e_bind hM
      refine s_call cf10 [Pq ac, I 5] rfl (zab s_bytes aM aN 5 (aq.app _) au dS _ ((H.pk [1, 0, 2, 3, 4, 5, 6]).gt 6)) ?_
      rintro vq jl ⟨r6, ay, az, dT, hvq, ab⟩
      subst dT
      subst vq
      try dsimp only at hM
      replace H := H.pk [1, 0, 2, 3, 4, 5, 6] |>.bk ab
      clear ab
      refine s_nil ⟨(H.pk [2, 6]), ?_⟩
      obtain ⟨dU, hM⟩ := M.e_grd hM
      simp only [Bool.and_eq_true, decide_eq_true_eq] at dU
      refine t_q rfl (fun w' H => x_ari (a := r5) (b := r6) (r := r5 + r6) rfl rfl rfl (by omega)) ?_
      refine t_q rfl (fun w' H => x_bld (ps := [(0, I r5), (1, I (r5 + r6))]) (zs := [I 0, I 0]) (L' := [I r5, I (r5 + r6)]) rfl Try.underlying27 Al27 rfl (Bd27 Try.underlying27) (.cons (cs := [I r5]) rfl rfl rfl rfl rfl <| .cons (cs := [I (r5 + r6)]) rfl rfl rfl rfl rfl <| .nil)) ?_
      obtain ⟨dV, hM⟩ := M.e_grd hM
      simp only [Bool.and_eq_true, decide_eq_true_eq] at dV
      refine t_l2 rfl rfl ?_ ?_
      ·skip
       refine s_val (x_ld (p := Oq aa 1) (v := ak) rfl (ldb_sc Sc24 (H.bl 5) rfl)) ?_
       refine s_nil ⟨(H.pk [2, 6]), ?_⟩
       refine t_q rfl (fun w' H => x_fa (a := Pq aa) (v := Pq aa) rfl (fa_blk (o := 0) Fd30_0 Sz23)) ?_
       refine t_l rfl ?_
       refine t_bs (α := Span) T24 [.agg #[I r5, I (r5 + r6)]] [(⟨(r5 : Int), (r5 + r6 : Int)⟩ : Span)] H rfl (.cons rfl (Flat.rep_enc _ (⟨(r5 : Int), (r5 + r6 : Int)⟩ : Span)) <| .nil) rfl rfl rfl ?_
       intro cI jm H
       have jn := Sl.cells (H.os 0)
       have jo := Sl.oc (H.os 0)
       refine s_nil ⟨(H.pk [3, 7]), ?_⟩
       refine t_l rfl ?_
       refine t_app (α := Span) (k := 4) (l := l2) (l2 := [(⟨(r5 : Int), (r5 + r6 : Int)⟩ : Span)]) (l' := l2 ++ ([(⟨(r5 : Int), (r5 + r6 : Int)⟩ : Span)])) (vy := cI) T24 rfl H rfl rfl rfl (H.os 0) (H.ol 0) (rfl) (by first | omega | (simp only [List.length_nil] at *; omega)) ?_
       intro bR jp H
       replace H := H.nf
       have jq := Sl.cells (H.os 4)
       have jr := Sl.oc (H.os 4)
       refine s_nil ⟨(H.pk [3, 7]), ?_⟩
       refine t_l rfl ?_
       refine t_sw 6 0 [aP] aP H rfl rfl Sz23 (Sl.cells (H.os 5)) rfl rfl (by simp only [List.all_cons, List.all_nil, Bool.true_and, Bool.and_true, Sl.oc (H.os 5)]; try rfl) ?_
       intro js H
       refine s_nil ⟨(H.pk [3, 7]), ?_⟩
       refine t_q rfl (fun w' H => x_fa (a := Pq aa) (v := Oq aa 1) rfl (fa_blk (o := 0) Fd30_1 Sz24)) ?_
       refine t_l rfl ?_
       refine t_sw 6 1 [bR] bR H rfl rfl Sz24 (Sl.cells (H.os 4)) rfl rfl (by simp only [List.all_cons, List.all_nil, Bool.true_and, Bool.and_true, Sl.oc (H.os 4)]; try rfl) ?_
       intro jt H
       refine s_nil ⟨(H.pk [3, 7]), ?_⟩
       refine t_nil ?_
       exact ⟨r6, ay, az, cI, aQ, bR, aP, _, upds_of _ _ ⟨rfl, rfl, rfl, rfl, rfl, trivial⟩, hM, H⟩
      skip
      refine t_bs (α := Span) T24 [.agg #[I r5, I (r5 + r6)]] [(⟨(r5 : Int), (r5 + r6 : Int)⟩ : Span)] H rfl (.cons rfl (Flat.rep_enc _ (⟨(r5 : Int), (r5 + r6 : Int)⟩ : Span)) <| .nil) rfl rfl rfl ?_
      intro cJ ju H
      have jv := Sl.cells (H.os 0)
      have jw := Sl.oc (H.os 0)
      refine s_nil ⟨(H.pk [3, 7]), ?_⟩
      refine t_l rfl ?_
      refine s_val (x_ld (p := Oq aa 1) (v := ak) rfl (ldb_sc Sc24 (H.bl 6) rfl)) ?_
      refine s_nil ⟨(H.pk [3, 7]), ?_⟩
      refine t_q rfl (fun w' H => x_fa (a := Pq aa) (v := Pq aa) rfl (fa_blk (o := 0) Fd30_0 Sz23)) ?_
      refine t_l rfl ?_
      refine t_app (α := Span) (k := 4) (l := l2) (l2 := [(⟨(r5 : Int), (r5 + r6 : Int)⟩ : Span)]) (l' := l2 ++ ([(⟨(r5 : Int), (r5 + r6 : Int)⟩ : Span)])) (vy := cJ) T24 rfl H rfl rfl rfl (H.os 0) (H.ol 0) (rfl) (by first | omega | (simp only [List.length_nil] at *; omega)) ?_
      intro bS jx H
      replace H := H.nf
      have jy := Sl.cells (H.os 4)
      have jz := Sl.oc (H.os 4)
      refine s_nil ⟨(H.pk [3, 7]), ?_⟩
      refine t_l rfl ?_
      refine t_sw 6 0 [aP] aP H rfl rfl Sz23 (Sl.cells (H.os 5)) rfl rfl (by simp only [List.all_cons, List.all_nil, Bool.true_and, Bool.and_true, Sl.oc (H.os 5)]; try rfl) ?_
      intro jA H
      refine s_nil ⟨(H.pk [3, 7]), ?_⟩
      refine t_q rfl (fun w' H => x_fa (a := Pq aa) (v := Oq aa 1) rfl (fa_blk (o := 0) Fd30_1 Sz24)) ?_
      refine t_l rfl ?_
      refine t_sw 6 1 [bS] bS H rfl rfl Sz24 (Sl.cells (H.os 4)) rfl rfl (by simp only [List.all_cons, List.all_nil, Bool.true_and, Bool.and_true, Sl.oc (H.os 4)]; try rfl) ?_
      intro jB H
      refine s_nil ⟨(H.pk [3, 7]), ?_⟩
      refine t_nil ?_
      exact ⟨r6, ay, az, cJ, aQ, bS, aP, _, upds_of _ _ ⟨rfl, rfl, rfl, rfl, rfl, trivial⟩, hM, H⟩
     skip
     refine s_val (x_ld (p := Oq aa 1) (v := ak) rfl (ldb_sc Sc24 (H.bl 5) rfl)) ?_
     refine s_nil ⟨(H.pk [2, 6]), ?_⟩
     refine t_l rfl ?_
     obtain ⟨dW, hM⟩ := M.e_grd hM
     simp only [Bool.and_eq_true, decide_eq_true_eq] at dW
     refine t_app (α := Int) (k := 4) (l := l) (l2 := [(down : Int)]) (l' := l ++ ([(down : Int)])) (vy := aQ) T23 rfl H rfl rfl rfl (H.os 0) (H.ol 0) (rfl) (by first | omega | (simp only [List.length_nil] at *; omega)) ?_
     intro bT jC H
     replace H := H.nf
     have jD := Sl.cells (H.os 4)
     have jE := Sl.oc (H.os 4)
     refine s_nil ⟨(H.pk [2, 6]), ?_⟩
     refine t_q rfl (fun w' H => x_fa (a := Pq aa) (v := Pq aa) rfl (fa_blk (o := 0) Fd30_0 Sz23)) ?_
     refine t_l rfl ?_
     obtain ⟨jF, dX, hM⟩ := M.e_bind hM
     refine s_call cf10 [Pq ac, I 5] rfl (zab s_bytes aM aN 5 (aq.app _) au dX _ ((H.pk [1, 0, 2, 3, 4, 5, 6]).gt 6)) ?_
     rintro vq jG ⟨r6, ay, az, dY, hvq, ab⟩
     subst dY
     subst vq
     try dsimp only at hM
     replace H := H.pk [1, 0, 2, 3, 4, 5, 6] |>.bk ab
     clear ab
     refine s_nil ⟨(H.pk [2, 6]), ?_⟩
     obtain ⟨dZ, hM⟩ := M.e_grd hM
     simp only [Bool.and_eq_true, decide_eq_true_eq] at dZ
     refine t_q rfl (fun w' H => x_ari (a := r5) (b := r6) (r := r5 + r6) rfl rfl rfl (by omega)) ?_
     refine t_q rfl (fun w' H => x_bld (ps := [(0, I r5), (1, I (r5 + r6))]) (zs := [I 0, I 0]) (L' := [I r5, I (r5 + r6)]) rfl Try.underlying27 Al27 rfl (Bd27 Try.underlying27) (.cons (cs := [I r5]) rfl rfl rfl rfl rfl <| .cons (cs := [I (r5 + r6)]) rfl rfl rfl rfl rfl <| .nil)) ?_
     refine t_l rfl ?_
     refine t_bs (α := Span) T24 [.agg #[I r5, I (r5 + r6)]] [(⟨(r5 : Int), (r5 + r6 : Int)⟩ : Span)] H rfl (.cons rfl (Flat.rep_enc _ (⟨(r5 : Int), (r5 + r6 : Int)⟩ : Span)) <| .nil) rfl rfl rfl ?_
     intro cK jH H
     have jI := Sl.cells (H.os 0)
     have jJ := Sl.oc (H.os 0)
     refine s_nil ⟨(H.pk [3, 7]), ?_⟩
     refine t_l rfl ?_
     obtain ⟨d3, hM⟩ := M.e_grd hM
     simp only [Bool.and_eq_true, decide_eq_true_eq] at d3
     refine t_app (α := Span) (k := 4) (l := l2) (l2 := [(⟨(r5 : Int), (r5 + r6 : Int)⟩ : Span)]) (l' := l2 ++ ([(⟨(r5 : Int), (r5 + r6 : Int)⟩ : Span)])) (vy := cK) T24 rfl H rfl rfl rfl (H.os 0) (H.ol 0) (rfl) (by first | omega | (simp only [List.length_nil] at *; omega)) ?_
     intro bU jK H
     replace H := H.nf
     have jL := Sl.cells (H.os 4)
     have jM := Sl.oc (H.os 4)
     refine s_nil ⟨(H.pk [3, 7]), ?_⟩
     refine t_l rfl ?_
     refine t_sw 6 0 [bT] bT H rfl rfl Sz23 (Sl.cells (H.os 5)) rfl rfl (by simp only [List.all_cons, List.all_nil, Bool.true_and, Bool.and_true, Sl.oc (H.os 5)]; try rfl) ?_
     intro jN H
     refine s_nil ⟨(H.pk [3, 7]), ?_⟩
     refine t_q rfl (fun w' H => x_fa (a := Pq aa) (v := Oq aa 1) rfl (fa_blk (o := 0) Fd30_1 Sz24)) ?_
     refine t_l rfl ?_
     refine t_sw 6 1 [bU] bU H rfl rfl Sz24 (Sl.cells (H.os 4)) rfl rfl (by simp only [List.all_cons, List.all_nil, Bool.true_and, Bool.and_true, Sl.oc (H.os 4)]; try rfl) ?_
     intro jO H
     refine s_nil ⟨(H.pk [3, 7]), ?_⟩
     refine t_nil ?_
     exact ⟨r6, ay, az, cK, aQ, bU, bT, _, upds_of _ _ ⟨rfl, rfl, rfl, rfl, rfl, trivial⟩, hM, H⟩
    skip
    refine s_val (x_ld (p := Oq aa 1) (v := ak) rfl (ldb_sc Sc24 (H.bl 5) rfl)) ?_
    refine s_nil ⟨(H.pk [2, 6]), ?_⟩
    refine t_l rfl ?_
    refine s_val (x_ld (p := Pq aa) (v := ae) rfl (ldb_sc Sc23 (H.bl 5) rfl)) ?_
    refine s_nil ⟨(H.pk [2, 6]), ?_⟩
    refine t_l rfl ?_
    obtain ⟨d4, hM⟩ := M.e_grd hM
    simp only [Bool.and_eq_true, decide_eq_true_eq] at d4
    refine t_app (α := Int) (k := 4) (l := l) (l2 := [(down : Int)]) (l' := l ++ ([(down : Int)])) (vy := aQ) T23 rfl H rfl rfl rfl (H.os 0) (H.ol 0) (rfl) (by first | omega | (simp only [List.length_nil] at *; omega)) ?_
    intro bV jP H
    replace H := H.nf
    have jQ := Sl.cells (H.os 4)
    have jR := Sl.oc (H.os 4)
    refine s_nil ⟨(H.pk [2, 6]), ?_⟩
    refine t_q rfl (fun w' H => x_fa (a := Pq aa) (v := Pq aa) rfl (fa_blk (o := 0) Fd30_0 Sz23)) ?_
    refine t_l rfl ?_
    obtain ⟨jS, d5, hM⟩ := M.e_bind hM
    refine s_call cf10 [Pq ac, I 5] rfl (zab s_bytes aM aN 5 (aq.app _) au d5 _ ((H.pk [1, 0, 2, 3, 4, 5, 6]).gt 6)) ?_
    rintro vq jT ⟨r6, ay, az, d6, hvq, ab⟩
    subst d6
    subst vq
    try dsimp only at hM
    replace H := H.pk [1, 0, 2, 3, 4, 5, 6] |>.bk ab
    clear ab
    refine s_nil ⟨(H.pk [2, 6]), ?_⟩
    obtain ⟨d7, hM⟩ := M.e_grd hM
    simp only [Bool.and_eq_true, decide_eq_true_eq] at d7
    refine t_q rfl (fun w' H => x_ari (a := r5) (b := r6) (r := r5 + r6) rfl rfl rfl (by omega)) ?_
    refine t_q rfl (fun w' H => x_bld (ps := [(0, I r5), (1, I (r5 + r6))]) (zs := [I 0, I 0]) (L' := [I r5, I (r5 + r6)]) rfl Try.underlying27 Al27 rfl (Bd27 Try.underlying27) (.cons (cs := [I r5]) rfl rfl rfl rfl rfl <| .cons (cs := [I (r5 + r6)]) rfl rfl rfl rfl rfl <| .nil)) ?_
    refine t_l rfl ?_
    refine t_bs (α := Span) T24 [.agg #[I r5, I (r5 + r6)]] [(⟨(r5 : Int), (r5 + r6 : Int)⟩ : Span)] H rfl (.cons rfl (Flat.rep_enc _ (⟨(r5 : Int), (r5 + r6 : Int)⟩ : Span)) <| .nil) rfl rfl rfl ?_
    intro cL jU H
    have jV := Sl.cells (H.os 0)
    have jW := Sl.oc (H.os 0)
    refine s_nil ⟨(H.pk [3, 7]), ?_⟩
    refine t_l rfl ?_
    obtain ⟨d8, hM⟩ := M.e_grd hM
    simp only [Bool.and_eq_true, decide_eq_true_eq] at d8
    refine t_app (α := Span) (k := 4) (l := l2) (l2 := [(⟨(r5 : Int), (r5 + r6 : Int)⟩ : Span)]) (l' := l2 ++ ([(⟨(r5 : Int), (r5 + r6 : Int)⟩ : Span)])) (vy := cL) T24 rfl H rfl rfl rfl (H.os 0) (H.ol 0) (rfl) (by first | omega | (simp only [List.length_nil] at *; omega)) ?_
    intro bW jX H
    replace H := H.nf
    have jY := Sl.cells (H.os 4)
    have jZ := Sl.oc (H.os 4)
    refine s_nil ⟨(H.pk [3, 7]), ?_⟩
    refine t_l rfl ?_
    refine t_sw 6 0 [bV] bV H rfl rfl Sz23 (Sl.cells (H.os 5)) rfl rfl (by simp only [List.all_cons, List.all_nil, Bool.true_and, Bool.and_true, Sl.oc (H.os 5)]; try rfl) ?_
    intro j3 H
    refine s_nil ⟨(H.pk [3, 7]), ?_⟩
    refine t_q rfl (fun w' H => x_fa (a := Pq aa) (v := Oq aa 1) rfl (fa_blk (o := 0) Fd30_1 Sz24)) ?_
    refine t_l rfl ?_
    refine t_sw 6 1 [bW] bW H rfl rfl Sz24 (Sl.cells (H.os 4)) rfl rfl (by simp only [List.all_cons, List.all_nil, Bool.true_and, Bool.and_true, Sl.oc (H.os 4)]; try rfl) ?_
    intro j4 H
    refine s_nil ⟨(H.pk [3, 7]), ?_⟩
    refine t_nil ?_
    exact ⟨r6, ay, az, cL, aQ, bW, bV, _, upds_of _ _ ⟨rfl, rfl, rfl, rfl, rfl, trivial⟩, hM, H⟩
   skip
   refine s_val (x_ld (p := Oq aa 1) (v := ak) rfl (ldb_sc Sc24 (H.bl 4) rfl)) ?_
   have j5 := Sl.cells (H.os 2)
   have j6 := Sl.oc (H.os 2)
   have j7 := Sl.cells (H.os 3)
   have j9 := Sl.oc (H.os 3)
   refine s_nil ⟨(H.pk [1, 5]), ?_⟩
   refine t_l2 rfl rfl ?_ ?_
   ·skip
    refine s_val (x_ld (p := Pq aa) (v := ae) rfl (ldb_sc Sc23 (H.bl 4) rfl)) ?_
    refine s_nil ⟨(H.pk [1, 5]), ?_⟩
    refine t_l rfl ?_
    refine t_bs (α := Int) T23 [I down] [(down : Int)] H rfl (.cons rfl (Flat.rep_enc _ (down : Int)) <| .nil) rfl rfl rfl ?_
    intro cM ka H
    have kb := Sl.cells (H.os 0)
    have kc := Sl.oc (H.os 0)
    refine s_nil ⟨(H.pk [2, 6]), ?_⟩
    refine t_l rfl ?_
    obtain ⟨d9, hM⟩ := M.e_grd hM
    simp only [Bool.and_eq_true, decide_eq_true_eq] at d9
    refine t_app (α := Int) (k := 4) (l := l) (l2 := [(down : Int)]) (l' := l ++ ([(down : Int)])) (vy := cM) T23 rfl H rfl rfl rfl (H.os 0) (H.ol 0) (rfl) (by first | omega | (simp only [List.length_nil] at *; omega)) ?_
    intro bX ke H
    replace H := H.nf
    have kg := Sl.cells (H.os 4)
    have kh := Sl.oc (H.os 4)
    refine s_nil ⟨(H.pk [2, 6]), ?_⟩
    refine t_q rfl (fun w' H => x_fa (a := Pq aa) (v := Pq aa) rfl (fa_blk (o := 0) Fd30_0 Sz23)) ?_
    refine t_l rfl ?_
    obtain ⟨ki, ea, hM⟩ := M.e_bind hM
    refine s_call cf10 [Pq ac, I 5] rfl (zab s_bytes aM aN 5 (aq.app _) au ea _ ((H.pk [1, 0, 2, 3, 4, 5, 6]).gt 6)) ?_
    rintro vq kj ⟨r6, ay, az, eb, hvq, ab⟩
    subst eb
    subst vq
    try dsimp only at hM
    replace H := H.pk [1, 0, 2, 3, 4, 5, 6] |>.bk ab
    clear ab
    refine s_nil ⟨(H.pk [2, 6]), ?_⟩
    obtain ⟨ec, hM⟩ := M.e_grd hM
    simp only [Bool.and_eq_true, decide_eq_true_eq] at ec
    refine t_q rfl (fun w' H => x_ari (a := r5) (b := r6) (r := r5 + r6) rfl rfl rfl (by omega)) ?_
    refine t_q rfl (fun w' H => x_bld (ps := [(0, I r5), (1, I (r5 + r6))]) (zs := [I 0, I 0]) (L' := [I r5, I (r5 + r6)]) rfl Try.underlying27 Al27 rfl (Bd27 Try.underlying27) (.cons (cs := [I r5]) rfl rfl rfl rfl rfl <| .cons (cs := [I (r5 + r6)]) rfl rfl rfl rfl rfl <| .nil)) ?_
    refine t_l rfl ?_
    refine t_bs (α := Span) T24 [.agg #[I r5, I (r5 + r6)]] [(⟨(r5 : Int), (r5 + r6 : Int)⟩ : Span)] H rfl (.cons rfl (Flat.rep_enc _ (⟨(r5 : Int), (r5 + r6 : Int)⟩ : Span)) <| .nil) rfl rfl rfl ?_
    intro cN kl H
    have ko := Sl.cells (H.os 0)
    have kq := Sl.oc (H.os 0)
    refine s_nil ⟨(H.pk [3, 7]), ?_⟩
    refine t_l rfl ?_
    obtain ⟨ed, hM⟩ := M.e_grd hM
    simp only [Bool.and_eq_true, decide_eq_true_eq] at ed
    refine t_app (α := Span) (k := 4) (l := l2) (l2 := [(⟨(r5 : Int), (r5 + r6 : Int)⟩ : Span)]) (l' := l2 ++ ([(⟨(r5 : Int), (r5 + r6 : Int)⟩ : Span)])) (vy := cN) T24 rfl H rfl rfl rfl (H.os 0) (H.ol 0) (rfl) (by first | omega | (simp only [List.length_nil] at *; omega)) ?_
    intro bY kr H
    replace H := H.nf
    have ku := Sl.cells (H.os 4)
    have kv := Sl.oc (H.os 4)
    refine s_nil ⟨(H.pk [3, 7]), ?_⟩
    refine t_l rfl ?_
    refine t_sw 6 0 [bX] bX H rfl rfl Sz23 (Sl.cells (H.os 5)) rfl rfl (by simp only [List.all_cons, List.all_nil, Bool.true_and, Bool.and_true, Sl.oc (H.os 5)]; try rfl) ?_
    intro kw H
    refine s_nil ⟨(H.pk [3, 7]), ?_⟩
    refine t_q rfl (fun w' H => x_fa (a := Pq aa) (v := Oq aa 1) rfl (fa_blk (o := 0) Fd30_1 Sz24)) ?_
    refine t_l rfl ?_
    refine t_sw 6 1 [bY] bY H rfl rfl Sz24 (Sl.cells (H.os 4)) rfl rfl (by simp only [List.all_cons, List.all_nil, Bool.true_and, Bool.and_true, Sl.oc (H.os 4)]; try rfl) ?_
    intro kx H
    refine s_nil ⟨(H.pk [3, 7]), ?_⟩
    refine t_nil ?_
    exact ⟨r6, ay, az, cN, cM, bY, bX, _, upds_of _ _ ⟨rfl, rfl, rfl, rfl, rfl, trivial⟩, hM, H⟩
   skip
   refine t_bs (α := Int) T23 [I down] [(down : Int)] H rfl (.cons rfl (Flat.rep_enc _ (down : Int)) <| .nil) rfl rfl rfl ?_
   intro cO ky H
   have kz := Sl.cells (H.os 0)
   have kA := Sl.oc (H.os 0)
   refine s_nil ⟨(H.pk [2, 6]), ?_⟩
   refine t_l rfl ?_
   refine s_val (x_ld (p := Pq aa) (v := ae) rfl (ldb_sc Sc23 (H.bl 5) rfl)) ?_
   refine s_nil ⟨(H.pk [2, 6]), ?_⟩
   refine t_l rfl ?_
   obtain ⟨ee, hM⟩ := M.e_grd hM
   simp only [Bool.and_eq_true, decide_eq_true_eq] at ee
   refine t_app (α := Int) (k := 4) (l := l) (l2 := [(down : Int)]) (l' := l ++ ([(down : Int)])) (vy := cO) T23 rfl H rfl rfl rfl (H.os 0) (H.ol 0) (rfl) (by first | omega | (simp only [List.length_nil] at *; omega)) ?_
   intro bZ kB H
   replace H := H.nf
   have kC := Sl.cells (H.os 4)
   have kD := Sl.oc (H.os 4)
   refine s_nil ⟨(H.pk [2, 6]), ?_⟩
   refine t_q rfl (fun w' H => x_fa (a := Pq aa) (v := Pq aa) rfl (fa_blk (o := 0) Fd30_0 Sz23)) ?_
   refine t_l rfl ?_
   obtain ⟨kE, ef, hM⟩ := M.e_bind hM
   refine s_call cf10 [Pq ac, I 5] rfl (zab s_bytes aM aN 5 (aq.app _) au ef _ ((H.pk [1, 0, 2, 3, 4, 5, 6]).gt 6)) ?_
   rintro vq kF ⟨r6, ay, az, eg, hvq, ab⟩
   subst eg
   subst vq
   try dsimp only at hM
   replace H := H.pk [1, 0, 2, 3, 4, 5, 6] |>.bk ab
   clear ab
   refine s_nil ⟨(H.pk [2, 6]), ?_⟩
   obtain ⟨eh, hM⟩ := M.e_grd hM
   simp only [Bool.and_eq_true, decide_eq_true_eq] at eh
   refine t_q rfl (fun w' H => x_ari (a := r5) (b := r6) (r := r5 + r6) rfl rfl rfl (by omega)) ?_
   refine t_q rfl (fun w' H => x_bld (ps := [(0, I r5), (1, I (r5 + r6))]) (zs := [I 0, I 0]) (L' := [I r5, I (r5 + r6)]) rfl Try.underlying27 Al27 rfl (Bd27 Try.underlying27) (.cons (cs := [I r5]) rfl rfl rfl rfl rfl <| .cons (cs := [I (r5 + r6)]) rfl rfl rfl rfl rfl <| .nil)) ?_
   refine t_l rfl ?_
   refine t_bs (α := Span) T24 [.agg #[I r5, I (r5 + r6)]] [(⟨(r5 : Int), (r5 + r6 : Int)⟩ : Span)] H rfl (.cons rfl (Flat.rep_enc _ (⟨(r5 : Int), (r5 + r6 : Int)⟩ : Span)) <| .nil) rfl rfl rfl ?_
   intro cP kG H
   have kH := Sl.cells (H.os 0)
   have kI := Sl.oc (H.os 0)
   refine s_nil ⟨(H.pk [3, 7]), ?_⟩
   refine t_l rfl ?_
   obtain ⟨ei, hM⟩ := M.e_grd hM
   simp only [Bool.and_eq_true, decide_eq_true_eq] at ei
   refine t_app (α := Span) (k := 4) (l := l2) (l2 := [(⟨(r5 : Int), (r5 + r6 : Int)⟩ : Span)]) (l' := l2 ++ ([(⟨(r5 : Int), (r5 + r6 : Int)⟩ : Span)])) (vy := cP) T24 rfl H rfl rfl rfl (H.os 0) (H.ol 0) (rfl) (by first | omega | (simp only [List.length_nil] at *; omega)) ?_
   intro b4 kJ H
   replace H := H.nf
   have kK := Sl.cells (H.os 4)
   have kL := Sl.oc (H.os 4)
   refine s_nil ⟨(H.pk [3, 7]), ?_⟩
   refine t_l rfl ?_
   refine t_sw 6 0 [bZ] bZ H rfl rfl Sz23 (Sl.cells (H.os 5)) rfl rfl (by simp only [List.all_cons, List.all_nil, Bool.true_and, Bool.and_true, Sl.oc (H.os 5)]; try rfl) ?_
   intro kM H
   refine s_nil ⟨(H.pk [3, 7]), ?_⟩
   refine t_q rfl (fun w' H => x_fa (a := Pq aa) (v := Oq aa 1) rfl (fa_blk (o := 0) Fd30_1 Sz24)) ?_
   refine t_l rfl ?_
   refine t_sw 6 1 [b4] b4 H rfl rfl Sz24 (Sl.cells (H.os 4)) rfl rfl (by simp only [List.all_cons, List.all_nil, Bool.true_and, Bool.and_true, Sl.oc (H.os 4)]; try rfl) ?_
   intro kN H
   refine s_nil ⟨(H.pk [3, 7]), ?_⟩
   refine t_nil ?_
   exact ⟨r6, ay, az, cP, cO, b4, bZ, _, upds_of _ _ ⟨rfl, rfl, rfl, rfl, rfl, trivial⟩, hM, H⟩
  rintro _ kO ⟨r6, ay, az, cz, cA, aY, aZ, ρ, rfl, hM, H⟩
  unfold zb2 at hM
  refine W.seq ?_
  refine W.region rfl ?_
  refine s_val (x_fa (a := Pq aa) (v := Oq aa 2) rfl (fa_blk (o := 0) Fd30_2 Sz23)) ?_
  refine s_val (x_ld (p := Oq aa 2) (v := aF) rfl (ldb_sc Sc23 (H.bl 6) rfl)) ?_
  have kP := ((H.os 3)).len_le
  refine s_val (x_lenS T23.und rfl (H.os 3)) ?_
  refine zC (l3.length : Int) 8 (decide ((l3.length : Int) < 8)) rfl rfl rfl ?_
  refine zM (B (decide ((l3.length : Int) < 8))) rfl ?_
  refine g_val (decide ((l3.length : Int) < 8)) (gy_t rfl) (fun hg => x_mv (v := Pq ac) rfl) ?_
  refine g_splitV (decide ((l3.length : Int) < 8)) (I 0) (gy_t rfl) (fun aJ => ?_) (fun aJ => ?_)
  ·replace hM := M.e_t hM aJ
   obtain ⟨kR, ej, hM⟩ := M.e_bind hM
   refine s_call cf10 [Pq ac, I 3] (lst2 (gd_of (c := decide ((l3.length : Int) < 8)) aJ (Pq ac)) rfl) (zab s_bytes ay az 3 (aq.app _) au ej _ ((H.pk [1, 0, 2, 3, 4, 5, 6, 7]).gt 7)) ?_
   rintro vq kS ⟨r7, cQ, cR, em, hvq, ab⟩
   subst em
   subst vq
   try dsimp only at hM
   replace H := H.pk [1, 0, 2, 3, 4, 5, 6, 7] |>.bk ab
   clear ab
   refine g_val (decide ((l3.length : Int) < 8)) (gy_t rfl) (fun hg => x_cmp (kd := .i64) (a := r7) (b := 0) (r := r7 == 0) rfl rfl rfl) ?_
   refine s_val (x_pand (b := decide ((l3.length : Int) < 8)) (r := r7 == 0) rfl (fun hb => gd_of (c := decide ((l3.length : Int) < 8)) (by first | exact hb | (rw [hb]; rfl) | simp_all) (B (r7 == 0))) rfl) ?_
   refine s_nil ?_
   replace H := H.pk [0, 3, 4, 5, 6, 7]
   refine W.cond ((decide ((l3.length : Int) < 8)) && (r7 == 0)) rfl (fun b5 => ?_) (fun b5 => ?_)
   ·replace hM := M.e_t hM b5
    refine W.region rfl ?_
    refine s_val (x_fa (a := Pq aa) (v := Oq aa 2) rfl (fa_blk (o := 0) Fd30_2 Sz23)) ?_
    refine s_val (x_ld (p := Oq aa 2) (v := aF) rfl (ldb_sc Sc23 (H.bl 4) rfl)) ?_
    refine zM (I (i : Int)) rfl ?_
    refine t_bs (α := Int) T23 [I (i : Int)] [(i : Int)] H rfl (.cons rfl (Flat.rep_enc _ (i : Int)) <| .nil) rfl rfl rfl ?_
    intro en kT H
    obtain ⟨eo, hM⟩ := M.e_grd hM
    simp only [Bool.and_eq_true, decide_eq_true_eq] at eo
    refine t_app (α := Int) (k := 2) (l := l3) (l2 := [(i : Int)]) (l' := l3 ++ ([(i : Int)])) (vy := en) T23 rfl H rfl rfl rfl (H.os 0) (H.ol 0) (rfl) (by first | omega | (simp only [List.length_nil] at *; omega)) ?_
    intro b6 kU H
    replace H := H.nf
    refine s_val (x_fa (a := Pq aa) (v := Oq aa 2) rfl (fa_blk (o := 0) Fd30_2 Sz23)) ?_
    refine t_sw 5 2 [b6] b6 H rfl rfl Sz23 (Sl.cells (H.os 2)) rfl rfl (by simp only [List.all_cons, List.all_nil, Bool.true_and, Bool.and_true, Sl.oc (H.os 2)]; try rfl) ?_
    intro kV H
    refine s_nil ?_
    refine W.region rfl ?_
    refine zM (I (i : Int)) rfl ?_
    obtain ⟨ep, hM⟩ := M.e_grd hM
    simp only [Bool.and_eq_true, decide_eq_true_eq] at ep
    refine zR (i : Int) 1 ((i : Int) + 1) rfl rfl rfl (by omega) ?_
    refine zA (I ((i : Int) + 1)) rfl ?_
    refine s_nil ?_
    exact ⟨bG, bH, cQ, cR, i + 1, l ++ ([(down : Int)]), l2 ++ ([(⟨(r5 : Int), (r5 + r6 : Int)⟩ : Span)]), l3 ++ ([(i : Int)]), aZ, aY, b6, _, upds_of _ _ ⟨rfl, rfl, rfl, rfl, rfl, trivial⟩, M.e_inl hM bv, (H.pk [2, 3, 4, 1, 5, 6])⟩
   replace hM := M.e_f hM b5
   refine W.skip ?_
   refine W.region rfl ?_
   refine zM (I (i : Int)) rfl ?_
   obtain ⟨eq, hM⟩ := M.e_grd hM
   simp only [Bool.and_eq_true, decide_eq_true_eq] at eq
   refine zR (i : Int) 1 ((i : Int) + 1) rfl rfl rfl (by omega) ?_
   refine zA (I ((i : Int) + 1)) rfl ?_
   refine s_nil ?_
   exact ⟨bG, bH, cQ, cR, i + 1, l ++ ([(down : Int)]), l2 ++ ([(⟨(r5 : Int), (r5 + r6 : Int)⟩ : Span)]), l3, aZ, aY, aF, _, upds_of _ _ ⟨rfl, rfl, rfl, rfl, rfl, trivial⟩, M.e_inl hM bv, (H.pk [1, 2, 3, 0, 4, 5])⟩
  replace hM := M.e_f hM aJ
  refine g_val (v := B false) (decide ((l3.length : Int) < 8)) (gy_t rfl) (fun hg => Bool.noConfusion (aJ.symm.trans hg)) ?_
  refine s_val (x_pand0 (b := decide ((l3.length : Int) < 8)) rfl (fun hb => gd_of (c := decide ((l3.length : Int) < 8)) (by first | exact hb | (rw [hb]; rfl) | simp_all) (B false)) rfl) ?_
  refine s_nil ?_
  replace H := H.pk [1, 3, 4, 5, 6, 7]
  refine W.cond false rfl (fun cS => ?_) (fun cS => ?_)
  ·skip
   exact absurd cS (by decide)
  skip
  refine W.skip ?_
  refine W.region rfl ?_
  refine zM (I (i : Int)) rfl ?_
  obtain ⟨er, hM⟩ := M.e_grd hM
  simp only [Bool.and_eq_true, decide_eq_true_eq] at er
  refine zR (i : Int) 1 ((i : Int) + 1) rfl rfl rfl (by omega) ?_
  refine zA (I ((i : Int) + 1)) rfl ?_
  refine s_nil ?_
  exact ⟨bG, bH, ay, az, i + 1, l ++ ([(down : Int)]), l2 ++ ([(⟨(r5 : Int), (r5 + r6 : Int)⟩ : Span)]), l3, aZ, aY, aF, _, upds_of _ _ ⟨rfl, rfl, rfl, rfl, rfl, trivial⟩, M.e_inl hM bv, (H.pk [1, 2, 3, 0, 4, 5])⟩
 replace hM := M.e_f hM bn
 simp only [qy1, qy2, qy3, qy4, qy5, qy6, ne_eq, qy7] at bn
 refine W.exit ?_
 have eu := M.e_inr hM bv
 subst eu
 replace hM := da
 try dsimp only at hM
 refine W.seqJ (fun σ W => ∃ (ai : List Int) (ao : Value) (ρ : Env), σ = upds ρ [(0, Pq ac), (4, Pq aC), (5, Pq aa), (6, I r2)] /\ (za9 s_bytes r2 s4 s5 l2 l ai).Ends r /\ St w W [cOwn (α := Int) 3 ao ai, cOwn (α := Span) 27 ak l2, cOwn (α := Int) 3 ae l, cBlk ac [aI, I s4, I s5] 71, cBlk aa [ae, ak, ao, .slice none 0 0, I 0, I 0, .slice none 0 0] 30, cBlk aC [.slice none 0 0, .slice none 0 0, .slice none 0 0, .slice none 0 0, I 0, I 0, .slice none 0 0] 30] R) ?_ ?_
 ·skip
  refine W.seq ?_
  refine W.region rfl ?_
  refine s_val (x_fa (a := Pq aa) (v := Oq aa 2) rfl (fa_blk (o := 0) Fd30_2 Sz23)) ?_
  refine s_val (x_ld (p := Oq aa 2) (v := aF) rfl (ldb_sc Sc23 (H.bl 4) rfl)) ?_
  have kW := ((H.os 0)).len_le
  refine s_val (x_lenS T23.und rfl (H.os 0)) ?_
  refine zC (l3.length : Int) 0 ((l3.length : Int) == 0) rfl rfl rfl ?_
  refine s_nil ?_
  refine W.cond ((l3.length : Int) == 0) rfl (fun bo => ?_) (fun bo => ?_)
  ·replace hM := M.e_t hM bo
   simp only [qy1, qy2, qy3, qy4, qy5, qy6, ne_eq, qy7] at bo
   refine W.region rfl ?_
   refine t_bs (α := Int) T23 [I 0] [(0 : Int)] H rfl (.cons rfl (Flat.rep_enc _ (0 : Int)) <| .nil) rfl rfl rfl ?_
   intro b7 kX H
   refine s_val (x_fa (a := Pq aa) (v := Oq aa 2) rfl (fa_blk (o := 0) Fd30_2 Sz23)) ?_
   refine t_sw 5 2 [b7] b7 H rfl rfl Sz23 (Sl.cells (H.os 0)) rfl rfl (by simp only [List.all_cons, List.all_nil, Bool.true_and, Bool.and_true, Sl.oc (H.os 0)]; try rfl) ?_
   intro kY H
   refine s_nil ?_
   exact ⟨[(0 : Int)], b7, _, upds_of _ _ ⟨rfl, rfl, rfl, rfl, trivial⟩, hM, (H.pk [0, 2, 3, 4, 5, 6])⟩
  replace hM := M.e_f hM bo
  simp only [qy1, qy2, qy3, qy4, qy5, qy6, ne_eq, qy7] at bo
  refine W.skip ?_
  exact ⟨l3, aF, _, upds_of _ _ ⟨rfl, rfl, rfl, rfl, trivial⟩, hM, H⟩
 rintro _ kZ ⟨ai, ao, ρ, rfl, hM, H⟩
 unfold za9 at hM
 refine W.seq ?_
 refine W.seq ?_
 refine W.region rfl ?_
 refine zM (Pq ac) rfl ?_
 obtain ⟨k9, ew, hM⟩ := M.e_bind hM
 refine s_call cf10 [Pq ac, I 8] rfl (zab s_bytes s4 s5 8 (aq.app _) au ew _ ((H.pk [3, 0, 1, 2, 4, 5]).gt 5)) ?_
 rintro vq lc ⟨r8, ez, eA, eB, hvq, ab⟩
 subst eB
 subst vq
 try dsimp only at hM
 replace H := H.pk [3, 0, 1, 2, 4, 5] |>.bk ab
 clear ab
 refine zA (I r8) rfl ?_
 refine s_nil ?_
 refine W.block ?_
 replace H := H.nilOwn (α := Town) 54
 obtain ⟨eC, b8, eD⟩ := M.e_bind hM
 obtain ⟨bF, b8⟩ := M.e_iter b8
 refine W.loop (fun m σ W => ∃ (s8 : Int) (s9 : Int) (k : Int) (aA : List Town) (aw : Value) (ρ : Env), σ = upds ρ [(0, Pq ac), (4, Pq aC), (5, Pq aa), (6, I r2), (10, I k)] /\ M.iterN (zbC s_bytes r2) m (s8, s9, k, aA) = some eC /\ St w W [cOwn (α := Town) 54 aw aA, cBlk ac [aI, I s8, I s9] 71, cOwn (α := Int) 3 ao ai, cOwn (α := Span) 27 ak l2, cOwn (α := Int) 3 ae l, cBlk aa [ae, ak, ao, aw, I 0, I 0, .slice none 0 0] 30, cBlk aC [.slice none 0 0, .slice none 0 0, .slice none 0 0, .slice none 0 0, I 0, I 0, .slice none 0 0] 30] R) ?_ ?_
 ·exact ⟨_, ez, eA, r8, [], (.slice none 0 0), _, upds_of _ _ ⟨rfl, rfl, rfl, rfl, rfl, trivial⟩, b8, H⟩
 rintro ld σ lf ⟨s8, s9, k, aA, aw, ρ, rfl, cT, H⟩
 obtain ⟨bp, bq, lg, hM, ba⟩ := M.e_iterN cT
 simp only [zbC] at hM
 clear cT
 refine W.seq ?_
 refine W.seq ?_
 refine W.region rfl ?_
 refine zM (I k) rfl ?_
 refine zC k 0 (decide (0 < k)) rfl rfl rfl ?_
 refine s_nil ?_
 refine W.cond (decide (0 < k)) rfl (fun br => ?_) (fun br => ?_)
 ·replace hM := M.e_t hM br
  simp only [qy1, qy2, qy3, qy4, qy5, qy6, ne_eq, qy7] at br
  refine W.skip ?_
  refine W.seq ?_
  refine W.block ?_
  refine W.drawT (fun W => St w W [cOwn (α := Int) 3 ao ai, cOwn (α := Span) 27 ak l2, cOwn (α := Int) 3 ae l, cBlk aC [.slice none 0 0, .slice none 0 0, .slice none 0 0, .slice none 0 0, I 0, I 0, .slice none 0 0] 30] R) (.q 0 (.q 2 (.q 3 (.q 5 (.q 7 (.l2 1 (.l 4 (.l 6 (.l 8 (.q 9 (.l 10 (.l 11 (.q 12 (.l 13 .nil)))))))) 4 (.l2 1 (.l 6 (.l 8 (.q 9 (.l 10 (.l 11 (.q 12 (.l 13 .nil))))))) 6 (.l2 1 (.l 8 (.q 9 (.l 10 (.l 11 (.q 12 (.l 13 .nil)))))) 8 (.q 9 (.l2 1 (.l 10 (.l 11 (.q 12 (.l 13 .nil)))) 10 (.l 1 (.l 11 (.q 12 (.l 13 .nil)))))))))))))) mixed (by decide +kernel) rfl ?_
  intro lh aG
  replace H := H.ext aG
  clear aG
  refine ⟨(H.pk [2, 3, 4, 6]), ?_⟩
  refine t_q rfl (fun w' H => x_fa (a := Pq aa) (v := Oq aa 3) rfl (fa_blk (o := 0) Fd30_3 Sz25)) ?_
  refine t_q rfl (fun w' H => x_mv (v := Pq ac) rfl) ?_
  refine t_q rfl (fun w' H => x_mv (v := I r2) rfl) ?_
  refine t_q rfl (fun w' H => x_mv (v := Pq ac) rfl) ?_
  refine t_q rfl (fun w' H => x_mv (v := Pq ac) rfl) ?_
  refine t_l2 rfl rfl ?_ ?_
  ·skip
   refine s_val (x_ld (p := Oq aa 3) (v := aw) rfl (ldb_sc Sc25 (H.bl 5) rfl)) ?_
   have li := Sl.cells (H.os 0)
   have lj := Sl.oc (H.os 0)
   refine s_nil ⟨(H.pk [2, 3, 4, 6]), ?_⟩
   refine t_l rfl ?_
   obtain ⟨lk, eE, hM⟩ := M.e_bind hM
   refine s_call cf10 [Pq ac, I r2] rfl (zab s_bytes s8 s9 r2 (aq.app _) au eE _ ((H.pk [1, 0, 2, 3, 4, 5, 6]).gt 6)) ?_
   rintro vq ll ⟨r9, bw, bx, eF, hvq, ab⟩
   subst eF
   subst vq
   try dsimp only at hM
   replace H := H.pk [1, 0, 2, 3, 4, 5, 6] |>.bk ab
   clear ab
   refine s_nil ⟨(H.pk [2, 3, 4, 6]), ?_⟩
   refine t_l rfl ?_
   obtain ⟨lm, eG, hM⟩ := M.e_bind hM
   refine s_call cf10 [Pq ac, I 8] rfl (zab s_bytes bw bx 8 (aq.app _) au eG _ (H.gt 6)) ?_
   rintro vq lp ⟨aj, bb, bc, eH, hvq, ab⟩
   subst eH
   subst vq
   try dsimp only at hM
   replace H := H.bk ab
   clear ab
   refine s_nil ⟨(H.pk [2, 3, 4, 6]), ?_⟩
   refine t_l rfl ?_
   obtain ⟨lq, eI, hM⟩ := M.e_bind hM
   refine s_call cf27 [Pq ac, I 100, I 300] rfl (zar s_bytes bb bc 100 300 (aq.app _) au eI _ (H.gt 6)) ?_
   rintro vq lr ⟨ah, aR, aS, eJ, hvq, ab⟩
   subst eJ
   subst vq
   try dsimp only at hM
   replace H := H.bk ab
   clear ab
   refine s_nil ⟨(H.pk [2, 3, 4, 6]), ?_⟩
   refine t_q rfl (fun w' H => x_bld (ps := [(0, I r9), (1, I aj), (2, I ah)]) (zs := [I 0, I 0, I 0]) (L' := [I r9, I aj, I ah]) rfl Try.underlying54 Al54 rfl (Bd54 Try.underlying54) (.cons (cs := [I r9]) rfl rfl rfl rfl rfl <| .cons (cs := [I aj]) rfl rfl rfl rfl rfl <| .cons (cs := [I ah]) rfl rfl rfl rfl rfl <| .nil)) ?_
   refine t_l rfl ?_
   refine t_bs (α := Town) T25 [.agg #[I r9, I aj, I ah]] [(⟨(r9 : Int), (aj : Int), (ah : Int)⟩ : Town)] H rfl (.cons rfl (Flat.rep_enc _ (⟨(r9 : Int), (aj : Int), (ah : Int)⟩ : Town)) <| .nil) rfl rfl rfl ?_
   intro eK ls H
   have lu := Sl.cells (H.os 0)
   have lv := Sl.oc (H.os 0)
   refine s_nil ⟨(H.pk [3, 4, 5, 7]), ?_⟩
   refine t_l rfl ?_
   obtain ⟨eL, hM⟩ := M.e_grd hM
   simp only [Bool.and_eq_true, decide_eq_true_eq] at eL
   refine t_app (α := Town) (k := 2) (l := aA) (l2 := [(⟨(r9 : Int), (aj : Int), (ah : Int)⟩ : Town)]) (l' := aA ++ ([(⟨(r9 : Int), (aj : Int), (ah : Int)⟩ : Town)])) (vy := eK) T25 rfl H rfl rfl rfl (H.os 0) (H.ol 0) (rfl) (by first | omega | (simp only [List.length_nil] at *; omega)) ?_
   intro b9 lw H
   replace H := H.nf
   have lx := Sl.cells (H.os 2)
   have ly := Sl.oc (H.os 2)
   refine s_nil ⟨(H.pk [3, 4, 5, 7]), ?_⟩
   refine t_q rfl (fun w' H => x_fa (a := Pq aa) (v := Oq aa 3) rfl (fa_blk (o := 0) Fd30_3 Sz25)) ?_
   refine t_l rfl ?_
   refine t_sw 6 3 [b9] b9 H rfl rfl Sz25 (Sl.cells (H.os 2)) rfl rfl (by simp only [List.all_cons, List.all_nil, Bool.true_and, Bool.and_true, Sl.oc (H.os 2)]; try rfl) ?_
   intro lz H
   refine s_nil ⟨(H.pk [3, 4, 5, 7]), ?_⟩
   refine t_nil ?_
   refine W.region rfl ?_
   refine zM (I k) rfl ?_
   obtain ⟨eM, hM⟩ := M.e_grd hM
   simp only [Bool.and_eq_true, decide_eq_true_eq] at eM
   refine zR k 1 (k - 1) rfl rfl rfl (by omega) ?_
   refine zA (I (k - 1)) rfl ?_
   refine s_nil ?_
   exact ⟨bp, bq, aR, aS, k - 1, aA ++ ([(⟨(r9 : Int), (aj : Int), (ah : Int)⟩ : Town)]), b9, _, upds_of _ _ ⟨rfl, rfl, rfl, rfl, rfl, trivial⟩, M.e_inl hM ba, (H.pk [2, 1, 3, 4, 5, 6, 7])⟩
  skip
  obtain ⟨lA, eN, hM⟩ := M.e_bind hM
  refine s_call cf10 [Pq ac, I r2] rfl (zab s_bytes s8 s9 r2 (aq.app _) au eN _ ((H.pk [1, 0, 2, 3, 4, 5, 6]).gt 6)) ?_
  rintro vq lB ⟨r9, bw, bx, eO, hvq, ab⟩
  subst eO
  subst vq
  try dsimp only at hM
  replace H := H.pk [1, 0, 2, 3, 4, 5, 6] |>.bk ab
  clear ab
  have lC := Sl.cells (H.os 1)
  have lD := Sl.oc (H.os 1)
  refine s_nil ⟨(H.pk [2, 3, 4, 6]), ?_⟩
  refine t_l2 rfl rfl ?_ ?_
  ·skip
   refine s_val (x_ld (p := Oq aa 3) (v := aw) rfl (ldb_sc Sc25 (H.bl 5) rfl)) ?_
   refine s_nil ⟨(H.pk [2, 3, 4, 6]), ?_⟩
   refine t_l rfl ?_
   obtain ⟨lE, eP, hM⟩ := M.e_bind hM
   refine s_call cf10 [Pq ac, I 8] rfl (zab s_bytes bw bx 8 (aq.app _) au eP _ (H.gt 6)) ?_
   rintro vq lF ⟨aj, bb, bc, eQ, hvq, ab⟩
   subst eQ
   subst vq
   try dsimp only at hM
   replace H := H.bk ab
   clear ab
   refine s_nil ⟨(H.pk [2, 3, 4, 6]), ?_⟩
   refine t_l rfl ?_
   obtain ⟨lG, eR, hM⟩ := M.e_bind hM
   refine s_call cf27 [Pq ac, I 100, I 300] rfl (zar s_bytes bb bc 100 300 (aq.app _) au eR _ (H.gt 6)) ?_
   rintro vq lH ⟨ah, aR, aS, eS, hvq, ab⟩
   subst eS
   subst vq
   try dsimp only at hM
   replace H := H.bk ab
   clear ab
   refine s_nil ⟨(H.pk [2, 3, 4, 6]), ?_⟩
   refine t_q rfl (fun w' H => x_bld (ps := [(0, I r9), (1, I aj), (2, I ah)]) (zs := [I 0, I 0, I 0]) (L' := [I r9, I aj, I ah]) rfl Try.underlying54 Al54 rfl (Bd54 Try.underlying54) (.cons (cs := [I r9]) rfl rfl rfl rfl rfl <| .cons (cs := [I aj]) rfl rfl rfl rfl rfl <| .cons (cs := [I ah]) rfl rfl rfl rfl rfl <| .nil)) ?_
   refine t_l rfl ?_
   refine t_bs (α := Town) T25 [.agg #[I r9, I aj, I ah]] [(⟨(r9 : Int), (aj : Int), (ah : Int)⟩ : Town)] H rfl (.cons rfl (Flat.rep_enc _ (⟨(r9 : Int), (aj : Int), (ah : Int)⟩ : Town)) <| .nil) rfl rfl rfl ?_
   intro eT lI H
   have lJ := Sl.cells (H.os 0)
   have lK := Sl.oc (H.os 0)
   refine s_nil ⟨(H.pk [3, 4, 5, 7]), ?_⟩
   refine t_l rfl ?_
   obtain ⟨eU, hM⟩ := M.e_grd hM
   simp only [Bool.and_eq_true, decide_eq_true_eq] at eU
   refine t_app (α := Town) (k := 2) (l := aA) (l2 := [(⟨(r9 : Int), (aj : Int), (ah : Int)⟩ : Town)]) (l' := aA ++ ([(⟨(r9 : Int), (aj : Int), (ah : Int)⟩ : Town)])) (vy := eT) T25 rfl H rfl rfl rfl (H.os 0) (H.ol 0) (rfl) (by first | omega | (simp only [List.length_nil] at *; omega)) ?_
   intro ca lL H
   replace H := H.nf
   have lM := Sl.cells (H.os 2)
   have lN := Sl.oc (H.os 2)
   refine s_nil ⟨(H.pk [3, 4, 5, 7]), ?_⟩
   refine t_q rfl (fun w' H => x_fa (a := Pq aa) (v := Oq aa 3) rfl (fa_blk (o := 0) Fd30_3 Sz25)) ?_
   refine t_l rfl ?_
   refine t_sw 6 3 [ca] ca H rfl rfl Sz25 (Sl.cells (H.os 2)) rfl rfl (by simp only [List.all_cons, List.all_nil, Bool.true_and, Bool.and_true, Sl.oc (H.os 2)]; try rfl) ?_
   intro lO H
   refine s_nil ⟨(H.pk [3, 4, 5, 7]), ?_⟩
   refine t_nil ?_
   refine W.region rfl ?_
   refine zM (I k) rfl ?_
   obtain ⟨eV, hM⟩ := M.e_grd hM
   simp only [Bool.and_eq_true, decide_eq_true_eq] at eV
   refine zR k 1 (k - 1) rfl rfl rfl (by omega) ?_
   refine zA (I (k - 1)) rfl ?_
   refine s_nil ?_
   exact ⟨bp, bq, aR, aS, k - 1, aA ++ ([(⟨(r9 : Int), (aj : Int), (ah : Int)⟩ : Town)]), ca, _, upds_of _ _ ⟨rfl, rfl, rfl, rfl, rfl, trivial⟩, M.e_inl hM ba, (H.pk [2, 1, 3, 4, 5, 6, 7])⟩
  skip
  obtain ⟨lP, eW, hM⟩ := M.e_bind hM
  refine s_call cf10 [Pq ac, I 8] rfl (zab s_bytes bw bx 8 (aq.app _) au eW _ (H.gt 6)) ?_
  rintro vq lQ ⟨aj, bb, bc, eX, hvq, ab⟩
  subst eX
  subst vq
  try dsimp only at hM
  replace H := H.bk ab
  clear ab
  refine s_nil ⟨(H.pk [2, 3, 4, 6]), ?_⟩
  refine t_l2 rfl rfl ?_ ?_
  ·skip
   refine s_val (x_ld (p := Oq aa 3) (v := aw) rfl (ldb_sc Sc25 (H.bl 5) rfl)) ?_
   refine s_nil ⟨(H.pk [2, 3, 4, 6]), ?_⟩
   refine t_l rfl ?_
   obtain ⟨lR, eY, hM⟩ := M.e_bind hM
   refine s_call cf27 [Pq ac, I 100, I 300] rfl (zar s_bytes bb bc 100 300 (aq.app _) au eY _ (H.gt 6)) ?_
   rintro vq lS ⟨ah, aR, aS, eZ, hvq, ab⟩
   subst eZ
   subst vq
   try dsimp only at hM
   replace H := H.bk ab
   clear ab
   refine s_nil ⟨(H.pk [2, 3, 4, 6]), ?_⟩
   refine t_q rfl (fun w' H => x_bld (ps := [(0, I r9), (1, I aj), (2, I ah)]) (zs := [I 0, I 0, I 0]) (L' := [I r9, I aj, I ah]) rfl Try.underlying54 Al54 rfl (Bd54 Try.underlying54) (.cons (cs := [I r9]) rfl rfl rfl rfl rfl <| .cons (cs := [I aj]) rfl rfl rfl rfl rfl <| .cons (cs := [I ah]) rfl rfl rfl rfl rfl <| .nil)) ?_
   refine t_l rfl ?_
   refine t_bs (α := Town) T25 [.agg #[I r9, I aj, I ah]] [(⟨(r9 : Int), (aj : Int), (ah : Int)⟩ : Town)] H rfl (.cons rfl (Flat.rep_enc _ (⟨(r9 : Int), (aj : Int), (ah : Int)⟩ : Town)) <| .nil) rfl rfl rfl ?_
   intro e7 lT H
   have lU := Sl.cells (H.os 0)
   have lV := Sl.oc (H.os 0)
   refine s_nil ⟨(H.pk [3, 4, 5, 7]), ?_⟩
   refine t_l rfl ?_
   obtain ⟨e9, hM⟩ := M.e_grd hM
   simp only [Bool.and_eq_true, decide_eq_true_eq] at e9
   refine t_app (α := Town) (k := 2) (l := aA) (l2 := [(⟨(r9 : Int), (aj : Int), (ah : Int)⟩ : Town)]) (l' := aA ++ ([(⟨(r9 : Int), (aj : Int), (ah : Int)⟩ : Town)])) (vy := e7) T25 rfl H rfl rfl rfl (H.os 0) (H.ol 0) (rfl) (by first | omega | (simp only [List.length_nil] at *; omega)) ?_
   intro cb lW H
   replace H := H.nf
   have lX := Sl.cells (H.os 2)
   have lY := Sl.oc (H.os 2)
   refine s_nil ⟨(H.pk [3, 4, 5, 7]), ?_⟩
   refine t_q rfl (fun w' H => x_fa (a := Pq aa) (v := Oq aa 3) rfl (fa_blk (o := 0) Fd30_3 Sz25)) ?_
   refine t_l rfl ?_
   refine t_sw 6 3 [cb] cb H rfl rfl Sz25 (Sl.cells (H.os 2)) rfl rfl (by simp only [List.all_cons, List.all_nil, Bool.true_and, Bool.and_true, Sl.oc (H.os 2)]; try rfl) ?_
   intro lZ H
   refine s_nil ⟨(H.pk [3, 4, 5, 7]), ?_⟩
   refine t_nil ?_
   refine W.region rfl ?_
   refine zM (I k) rfl ?_
   obtain ⟨fa, hM⟩ := M.e_grd hM
   simp only [Bool.and_eq_true, decide_eq_true_eq] at fa
   refine zR k 1 (k - 1) rfl rfl rfl (by omega) ?_
   refine zA (I (k - 1)) rfl ?_
   refine s_nil ?_
   exact ⟨bp, bq, aR, aS, k - 1, aA ++ ([(⟨(r9 : Int), (aj : Int), (ah : Int)⟩ : Town)]), cb, _, upds_of _ _ ⟨rfl, rfl, rfl, rfl, rfl, trivial⟩, M.e_inl hM ba, (H.pk [2, 1, 3, 4, 5, 6, 7])⟩
  skip
  obtain ⟨l0, fb, hM⟩ := M.e_bind hM
  refine s_call cf27 [Pq ac, I 100, I 300] rfl (zar s_bytes bb bc 100 300 (aq.app _) au fb _ (H.gt 6)) ?_
  rintro vq mc ⟨ah, aR, aS, fd, hvq, ab⟩
  subst fd
  subst vq
  try dsimp only at hM
  replace H := H.bk ab
  clear ab
  refine s_nil ⟨(H.pk [2, 3, 4, 6]), ?_⟩
  refine t_q rfl (fun w' H => x_bld (ps := [(0, I r9), (1, I aj), (2, I ah)]) (zs := [I 0, I 0, I 0]) (L' := [I r9, I aj, I ah]) rfl Try.underlying54 Al54 rfl (Bd54 Try.underlying54) (.cons (cs := [I r9]) rfl rfl rfl rfl rfl <| .cons (cs := [I aj]) rfl rfl rfl rfl rfl <| .cons (cs := [I ah]) rfl rfl rfl rfl rfl <| .nil)) ?_
  obtain ⟨fe, hM⟩ := M.e_grd hM
  simp only [Bool.and_eq_true, decide_eq_true_eq] at fe
  refine t_l2 rfl rfl ?_ ?_
  ·skip
   refine s_val (x_ld (p := Oq aa 3) (v := aw) rfl (ldb_sc Sc25 (H.bl 5) rfl)) ?_
   refine s_nil ⟨(H.pk [2, 3, 4, 6]), ?_⟩
   refine t_l rfl ?_
   refine t_bs (α := Town) T25 [.agg #[I r9, I aj, I ah]] [(⟨(r9 : Int), (aj : Int), (ah : Int)⟩ : Town)] H rfl (.cons rfl (Flat.rep_enc _ (⟨(r9 : Int), (aj : Int), (ah : Int)⟩ : Town)) <| .nil) rfl rfl rfl ?_
   intro ff me H
   have mf := Sl.cells (H.os 0)
   have mg := Sl.oc (H.os 0)
   refine s_nil ⟨(H.pk [3, 4, 5, 7]), ?_⟩
   refine t_l rfl ?_
   refine t_app (α := Town) (k := 2) (l := aA) (l2 := [(⟨(r9 : Int), (aj : Int), (ah : Int)⟩ : Town)]) (l' := aA ++ ([(⟨(r9 : Int), (aj : Int), (ah : Int)⟩ : Town)])) (vy := ff) T25 rfl H rfl rfl rfl (H.os 0) (H.ol 0) (rfl) (by first | omega | (simp only [List.length_nil] at *; omega)) ?_
   intro cc mh H
   replace H := H.nf
   have mi := Sl.cells (H.os 2)
   have mj := Sl.oc (H.os 2)
   refine s_nil ⟨(H.pk [3, 4, 5, 7]), ?_⟩
   refine t_q rfl (fun w' H => x_fa (a := Pq aa) (v := Oq aa 3) rfl (fa_blk (o := 0) Fd30_3 Sz25)) ?_
   refine t_l rfl ?_
   refine t_sw 6 3 [cc] cc H rfl rfl Sz25 (Sl.cells (H.os 2)) rfl rfl (by simp only [List.all_cons, List.all_nil, Bool.true_and, Bool.and_true, Sl.oc (H.os 2)]; try rfl) ?_
   intro ml H
   refine s_nil ⟨(H.pk [3, 4, 5, 7]), ?_⟩
   refine t_nil ?_
   refine W.region rfl ?_
   refine zM (I k) rfl ?_
   obtain ⟨fg, hM⟩ := M.e_grd hM
   simp only [Bool.and_eq_true, decide_eq_true_eq] at fg
   refine zR k 1 (k - 1) rfl rfl rfl (by omega) ?_
   refine zA (I (k - 1)) rfl ?_
   refine s_nil ?_
   exact ⟨bp, bq, aR, aS, k - 1, aA ++ ([(⟨(r9 : Int), (aj : Int), (ah : Int)⟩ : Town)]), cc, _, upds_of _ _ ⟨rfl, rfl, rfl, rfl, rfl, trivial⟩, M.e_inl hM ba, (H.pk [2, 1, 3, 4, 5, 6, 7])⟩
  skip
  refine t_bs (α := Town) T25 [.agg #[I r9, I aj, I ah]] [(⟨(r9 : Int), (aj : Int), (ah : Int)⟩ : Town)] H rfl (.cons rfl (Flat.rep_enc _ (⟨(r9 : Int), (aj : Int), (ah : Int)⟩ : Town)) <| .nil) rfl rfl rfl ?_
  intro fh mm H
  have mn := Sl.cells (H.os 0)
  have mo := Sl.oc (H.os 0)
  refine s_nil ⟨(H.pk [3, 4, 5, 7]), ?_⟩
  refine t_l rfl ?_
  refine s_val (x_ld (p := Oq aa 3) (v := aw) rfl (ldb_sc Sc25 (H.bl 6) rfl)) ?_
  refine s_nil ⟨(H.pk [3, 4, 5, 7]), ?_⟩
  refine t_l rfl ?_
  refine t_app (α := Town) (k := 2) (l := aA) (l2 := [(⟨(r9 : Int), (aj : Int), (ah : Int)⟩ : Town)]) (l' := aA ++ ([(⟨(r9 : Int), (aj : Int), (ah : Int)⟩ : Town)])) (vy := fh) T25 rfl H rfl rfl rfl (H.os 0) (H.ol 0) (rfl) (by first | omega | (simp only [List.length_nil] at *; omega)) ?_
  intro cd mp H
  replace H := H.nf
  have mq := Sl.cells (H.os 2)
  have mr := Sl.oc (H.os 2)
  refine s_nil ⟨(H.pk [3, 4, 5, 7]), ?_⟩
  refine t_q rfl (fun w' H => x_fa (a := Pq aa) (v := Oq aa 3) rfl (fa_blk (o := 0) Fd30_3 Sz25)) ?_
  refine t_l rfl ?_
  refine t_sw 6 3 [cd] cd H rfl rfl Sz25 (Sl.cells (H.os 2)) rfl rfl (by simp only [List.all_cons, List.all_nil, Bool.true_and, Bool.and_true, Sl.oc (H.os 2)]; try rfl) ?_
  intro ms H
  refine s_nil ⟨(H.pk [3, 4, 5, 7]), ?_⟩
  refine t_nil ?_
  refine W.region rfl ?_
  refine zM (I k) rfl ?_
  obtain ⟨fi, hM⟩ := M.e_grd hM
  simp only [Bool.and_eq_true, decide_eq_true_eq] at fi
  refine zR k 1 (k - 1) rfl rfl rfl (by omega) ?_
  refine zA (I (k - 1)) rfl ?_
  refine s_nil ?_
  exact ⟨bp, bq, aR, aS, k - 1, aA ++ ([(⟨(r9 : Int), (aj : Int), (ah : Int)⟩ : Town)]), cd, _, upds_of _ _ ⟨rfl, rfl, rfl, rfl, rfl, trivial⟩, M.e_inl hM ba, (H.pk [2, 1, 3, 4, 5, 6, 7])⟩
 replace hM := M.e_f hM br
 simp only [qy1, qy2, qy3, qy4, qy5, qy6, ne_eq, qy7] at br
 refine W.exit ?_
 have fj := M.e_inr hM ba
 subst fj
 replace hM := eD
 try dsimp only at hM
 refine W.seq ?_
 refine W.region rfl ?_
 refine zM (Pq ac) rfl ?_
 obtain ⟨mt, fk, hM⟩ := M.e_bind hM
 refine s_call cf10 [Pq ac, I 3] rfl (zab s_bytes s8 s9 3 (aq.app _) au fk _ ((H.pk [1, 0, 2, 3, 4, 5, 6]).gt 6)) ?_
 rintro vq mu ⟨al, cU, cV, fm, hvq, ab⟩
 subst fm
 subst vq
 try dsimp only at hM
 replace H := H.pk [1, 0, 2, 3, 4, 5, 6] |>.bk ab
 clear ab
 refine s_val (x_fa (a := Pq aa) (v := Oq aa 4) rfl (fa_blk (o := 0) Fd30_4 Sz27)) ?_
 refine s_val (x_fa (a := Oq aa 4) (v := Oq aa 4) rfl (fa_blk (o := 4) Fd27_0 Sz3)) ?_
 refine t_sw 5 4 [I al] (I al) H rfl rfl Sz3 rfl rfl rfl rfl ?_
 intro mv H
 refine s_nil ?_
 refine W.seqJ (fun σ W => ∃ (ax : Int) (aT : Int) (aU : Int) (ρ : Env), σ = upds ρ [(0, Pq ac), (4, Pq aC), (5, Pq aa)] /\ (zbX s_bytes l2 l ai aA al ax aT aU).Ends r /\ St w W [cBlk ac [aI, I aT, I aU] 71, cOwn (α := Town) 54 aw aA, cOwn (α := Int) 3 ao ai, cOwn (α := Span) 27 ak l2, cOwn (α := Int) 3 ae l, cBlk aa [ae, ak, ao, aw, I al, I (al + ax), .slice none 0 0] 30, cBlk aC [.slice none 0 0, .slice none 0 0, .slice none 0 0, .slice none 0 0, I 0, I 0, .slice none 0 0] 30] R) ?_ ?_
 ·skip
  refine W.drawT (fun W => St w W [cOwn (α := Town) 54 aw aA, cOwn (α := Int) 3 ao ai, cOwn (α := Span) 27 ak l2, cOwn (α := Int) 3 ae l, cBlk aC [.slice none 0 0, .slice none 0 0, .slice none 0 0, .slice none 0 0, I 0, I 0, .slice none 0 0] 30] R) (.q 0 (.q 1 (.q 3 (.l2 2 (.l 4 (.q 5 (.q 6 (.q 7 (.l 8 .nil))))) 4 (.l 2 (.q 5 (.q 6 (.q 7 (.l 8 .nil))))))))) mixed (by decide +kernel) rfl ?_
  intro mw aG
  replace H := H.ext aG
  clear aG
  refine ⟨(H.pk [1, 2, 3, 4, 6]), ?_⟩
  refine t_q rfl (fun w' H => x_fa (a := Pq aa) (v := Oq aa 4) rfl (fa_blk (o := 0) Fd30_4 Sz27)) ?_
  refine t_q rfl (fun w' H => x_fa (a := Oq aa 4) (v := Oq aa 4) rfl (fa_blk (o := 4) Fd27_0 Sz3)) ?_
  refine t_q rfl (fun w' H => x_mv (v := Pq ac) rfl) ?_
  refine t_l2 rfl rfl ?_ ?_
  ·skip
   refine s_val (x_ld (p := Oq aa 4) (v := I al) rfl (ldb_sc Sc3 (H.bl 5) rfl)) ?_
   refine s_nil ⟨(H.pk [1, 2, 3, 4, 6]), ?_⟩
   refine t_l rfl ?_
   obtain ⟨my, fo, hM⟩ := M.e_bind hM
   refine s_call cf10 [Pq ac, I 3] rfl (zab s_bytes cU cV 3 (aq.app _) au fo _ (H.gt 6)) ?_
   rintro vq mz ⟨ax, aT, aU, fp, hvq, ab⟩
   subst fp
   subst vq
   try dsimp only at hM
   replace H := H.bk ab
   clear ab
   refine s_nil ⟨(H.pk [1, 2, 3, 4, 6]), ?_⟩
   obtain ⟨fq, hM⟩ := M.e_grd hM
   simp only [Bool.and_eq_true, decide_eq_true_eq] at fq
   refine t_q rfl (fun w' H => x_ari (a := al) (b := ax) (r := al + ax) rfl rfl rfl (by omega)) ?_
   refine t_q rfl (fun w' H => x_fa (a := Pq aa) (v := Oq aa 4) rfl (fa_blk (o := 0) Fd30_4 Sz27)) ?_
   refine t_q rfl (fun w' H => x_fa (a := Oq aa 4) (v := Oq aa 5) rfl (fa_blk (o := 4) Fd27_1 Sz3)) ?_
   refine t_l rfl ?_
   refine t_sw 5 5 [I (al + ax)] (I (al + ax)) H rfl rfl Sz3 rfl rfl rfl rfl ?_
   intro mC H
   refine s_nil ⟨(H.pk [1, 2, 3, 4, 6]), ?_⟩
   refine t_nil ?_
   exact ⟨ax, aT, aU, _, upds_of _ _ ⟨rfl, rfl, rfl, trivial⟩, hM, H⟩
  skip
  obtain ⟨mD, fu, hM⟩ := M.e_bind hM
  refine s_call cf10 [Pq ac, I 3] rfl (zab s_bytes cU cV 3 (aq.app _) au fu _ (H.gt 6)) ?_
  rintro vq mE ⟨ax, aT, aU, fv, hvq, ab⟩
  subst fv
  subst vq
  try dsimp only at hM
  replace H := H.bk ab
  clear ab
  refine s_nil ⟨(H.pk [1, 2, 3, 4, 6]), ?_⟩
  refine t_l rfl ?_
  refine s_val (x_ld (p := Oq aa 4) (v := I al) rfl (ldb_sc Sc3 (H.bl 5) rfl)) ?_
  refine s_nil ⟨(H.pk [1, 2, 3, 4, 6]), ?_⟩
  obtain ⟨fw, hM⟩ := M.e_grd hM
  simp only [Bool.and_eq_true, decide_eq_true_eq] at fw
  refine t_q rfl (fun w' H => x_ari (a := al) (b := ax) (r := al + ax) rfl rfl rfl (by omega)) ?_
  refine t_q rfl (fun w' H => x_fa (a := Pq aa) (v := Oq aa 4) rfl (fa_blk (o := 0) Fd30_4 Sz27)) ?_
  refine t_q rfl (fun w' H => x_fa (a := Oq aa 4) (v := Oq aa 5) rfl (fa_blk (o := 4) Fd27_1 Sz3)) ?_
  refine t_l rfl ?_
  refine t_sw 5 5 [I (al + ax)] (I (al + ax)) H rfl rfl Sz3 rfl rfl rfl rfl ?_
  intro mF H
  refine s_nil ⟨(H.pk [1, 2, 3, 4, 6]), ?_⟩
  refine t_nil ?_
  exact ⟨ax, aT, aU, _, upds_of _ _ ⟨rfl, rfl, rfl, trivial⟩, hM, H⟩
 rintro _ mG ⟨ax, aT, aU, ρ, rfl, hM, H⟩
 unfold zbX at hM
 refine W.seq ?_
 refine W.seq ?_
 refine W.region rfl ?_
 refine zM (Pq ac) rfl ?_
 obtain ⟨mH, fx, hM⟩ := M.e_bind hM
 refine s_call cf10 [Pq ac, I 10] rfl (zab s_bytes aT aU 10 (aq.app _) au fx _ (H.gt 6)) ?_
 rintro vq mI ⟨cW, fy, fA, fB, hvq, ab⟩
 subst fB
 subst vq
 try dsimp only at hM
 replace H := H.bk ab
 clear ab
 refine zA (I cW) rfl ?_
 refine s_nil ?_
 refine W.block ?_
 obtain ⟨cX, H⟩ := H.emptyE
 replace H := H.nilOwn (α := Raw 1) 67
 have fC : RepR (α := Flood) (n := 1) cX.cells [] [] := .nil
 obtain ⟨fD, ce, fE⟩ := M.e_bind hM
 obtain ⟨bF, ce⟩ := M.e_iter ce
 refine W.loop (fun m σ W => ∃ (bf : Int) (bg : Int) (k2 : Int) (bh : List Flood) (aD : Value) (aK : List (Raw 1)) (B_l17 : Base) (ρ : Env), σ = upds ρ [(0, Pq ac), (4, Pq aC), (5, Pq aa), (11, I k2)] /\ M.iterN (zbe s_bytes l ai) m (bf, bg, k2, bh) = some fD /\ St w W [cOwn (α := Raw 1) 67 aD aK, cRo B_l17, cBlk ac [aI, I bf, I bg] 71, cOwn (α := Town) 54 aw aA, cOwn (α := Int) 3 ao ai, cOwn (α := Span) 27 ak l2, cOwn (α := Int) 3 ae l, cBlk aa [ae, ak, ao, aw, I al, I (al + ax), aD] 30, cBlk aC [.slice none 0 0, .slice none 0 0, .slice none 0 0, .slice none 0 0, I 0, I 0, .slice none 0 0] 30] R /\ RepR (α := Flood) B_l17.cells aK bh) ?_ ?_
 ·exact ⟨_, fy, fA, cW, [], (.slice none 0 0), [], cX, _, upds_of _ _ ⟨rfl, rfl, rfl, rfl, trivial⟩, ce, H, fC⟩
 rintro mJ σ mK ⟨bf, bg, k2, bh, aD, aK, B_l17, ρ, rfl, cY, H, bi⟩
 obtain ⟨fF, fG, fH, hM, cZ⟩ := M.e_iterN cY
 simp only [zbe] at hM
 clear cY
 refine W.seq ?_
 refine W.seq ?_
 refine W.region rfl ?_
 refine zM (I k2) rfl ?_
 refine zC k2 0 (decide (0 < k2)) rfl rfl rfl ?_
 refine s_nil ?_
 refine W.cond (decide (0 < k2)) rfl (fun bt => ?_) (fun bt => ?_)
 ·replace hM := M.e_t hM bt
  simp only [qy1, qy2, qy3, qy4, qy5, qy6, ne_eq, qy7] at bt
  refine W.skip ?_
  refine W.seq ?_
  refine W.block ?_
  refine W.seqJ (fun σ W => ∃ (aB : Nat) (am : Int) (aV : Int) (aW : Int) (ρ : Env), σ = upds ρ [(0, Pq ac), (4, Pq aC), (5, Pq aa), (11, I k2), (12, Pq aB)] /\ (zb0 s_bytes l ai k2 bh am aV aW).Ends fH /\ St w W [cBlk aB [I (ai.getD (Int.toNat am) 0), .slice none 0 0] 67, cBlk ac [aI, I aV, I aW] 71, cOwn (α := Raw 1) 67 aD aK, cRo B_l17, cOwn (α := Town) 54 aw aA, cOwn (α := Int) 3 ao ai, cOwn (α := Span) 27 ak l2, cOwn (α := Int) 3 ae l, cBlk aa [ae, ak, ao, aw, I al, I (al + ax), aD] 30, cBlk aC [.slice none 0 0, .slice none 0 0, .slice none 0 0, .slice none 0 0, I 0, I 0, .slice none 0 0] 30] R) ?_ ?_
  ·skip
   refine W.drawT (fun W => St w W [cOwn (α := Raw 1) 67 aD aK, cRo B_l17, cOwn (α := Town) 54 aw aA, cOwn (α := Int) 3 ao ai, cOwn (α := Span) 27 ak l2, cOwn (α := Int) 3 ae l, cBlk aa [ae, ak, ao, aw, I al, I (al + ax), aD] 30, cBlk aC [.slice none 0 0, .slice none 0 0, .slice none 0 0, .slice none 0 0, I 0, I 0, .slice none 0 0] 30] R) (.q 0 (.q 1 (.q 2 (.q 3 (.q 4 (.q 5 (.l2 6 (.q 7 (.q 8 (.q 9 (.l 10 (.l 11 .nil))))) 10 (.l 6 (.q 7 (.q 8 (.q 9 (.l 11 .nil)))))))))))) mixed (by decide +kernel) rfl ?_
   intro mL aG
   replace H := H.ext aG
   clear aG
   refine ⟨(H.pk [0, 1, 3, 4, 5, 6, 7, 8]), ?_⟩
   refine t_q rfl (fun w' H => x_fa (a := Pq aa) (v := Oq aa 2) rfl (fa_blk (o := 0) Fd30_2 Sz23)) ?_
   refine t_q rfl (fun w' H => x_ld (p := Oq aa 2) (v := ao) rfl (ldb_sc Sc23 (H.bl 6) rfl)) ?_
   refine t_q rfl (fun w' H => x_mv (v := Pq ac) rfl) ?_
   refine t_q rfl (fun w' H => x_fa (a := Pq aa) (v := Oq aa 2) rfl (fa_blk (o := 0) Fd30_2 Sz23)) ?_
   refine t_q rfl (fun w' H => x_ld (p := Oq aa 2) (v := ao) rfl (ldb_sc Sc23 (H.bl 6) rfl)) ?_
   have mM := ((H.os 4)).len_le
   refine t_q rfl (fun w' H => x_lenS T23.und rfl (H.os 3)) ?_
   refine t_l2 rfl rfl ?_ ?_
   ·skip
    obtain ⟨mN, fI, hM⟩ := M.e_bind hM
    refine s_call cf10 [Pq ac, I (ai.length : Int)] rfl (zab s_bytes bf bg (ai.length : Int) (aq.app _) au fI _ ((H.pk [2, 0, 1, 3, 4, 5, 6, 7, 8]).gt 8)) ?_
    rintro vq mO ⟨am, aV, aW, fJ, hvq, ab⟩
    subst fJ
    subst vq
    try dsimp only at hM
    replace H := H.pk [2, 0, 1, 3, 4, 5, 6, 7, 8] |>.bk ab
    clear ab
    refine s_nil ⟨(H.pk [1, 2, 3, 4, 5, 6, 7, 8]), ?_⟩
    obtain ⟨fK, hM⟩ := M.e_grd hM
    simp only [Bool.and_eq_true, decide_eq_true_eq] at fK
    refine t_q rfl (fun w' H => x_ix (a := ao) (b := I am) (v := vat ao 1 (Int.toNat am)) rfl rfl (Sl.ix (α := Int) T23.und T23.size (H.os 3) (by omega) (by omega))) ?_
    refine t_q rfl (fun w' H => x_ld (p := vat ao 1 (Int.toNat am)) (v := I (ai.getD (Int.toNat am) 0)) rfl (ld_sc Sc3 (At.mono (Int_at (H.os 3) (i := am) (by omega) (by omega)) (H.ol 3)))) ?_
    refine t_q rfl (fun w' H => x_bld (ps := [(0, I (ai.getD (Int.toNat am) 0))]) (zs := [I 0, .slice none 0 0]) (L' := [I (ai.getD (Int.toNat am) 0), .slice none 0 0]) rfl Try.underlying67 Al67 rfl (Bd67 Try.underlying67) (.cons (cs := [I (ai.getD (Int.toNat am) 0)]) rfl rfl rfl rfl rfl <| .nil)) ?_
    refine t_l rfl ?_
    refine t_alloc (cs := [I 0, .slice none 0 0]) H Al67 rfl ?_
    intro aB mP H
    refine s_nil ⟨(H.pk [2, 3, 4, 5, 6, 7, 8, 9]), ?_⟩
    refine t_l rfl ?_
    refine t_sw 0 0 [I (ai.getD (Int.toNat am) 0), .slice none 0 0] (.agg #[I (ai.getD (Int.toNat am) 0), .slice none 0 0]) H rfl rfl Sz67 rfl rfl rfl rfl ?_
    intro mQ H
    refine s_nil ⟨(H.pk [2, 3, 4, 5, 6, 7, 8, 9]), ?_⟩
    refine t_nil ?_
    exact ⟨aB, am, aV, aW, _, upds_of _ _ ⟨rfl, rfl, rfl, rfl, rfl, trivial⟩, hM, H⟩
   skip
   refine t_alloc (cs := [I 0, .slice none 0 0]) H Al67 rfl ?_
   intro aB mR H
   refine s_nil ⟨(H.pk [1, 2, 4, 5, 6, 7, 8, 9]), ?_⟩
   refine t_l rfl ?_
   obtain ⟨mS, fL, hM⟩ := M.e_bind hM
   refine s_call cf10 [Pq ac, I (ai.length : Int)] rfl (zab s_bytes bf bg (ai.length : Int) (aq.app _) au fL _ ((H.pk [3, 0, 1, 2, 4, 5, 6, 7, 8, 9]).gt 9)) ?_
   rintro vq mT ⟨am, aV, aW, fM, hvq, ab⟩
   subst fM
   subst vq
   try dsimp only at hM
   replace H := H.pk [3, 0, 1, 2, 4, 5, 6, 7, 8, 9] |>.bk ab
   clear ab
   refine s_nil ⟨(H.pk [2, 3, 4, 5, 6, 7, 8, 9]), ?_⟩
   obtain ⟨fN, hM⟩ := M.e_grd hM
   simp only [Bool.and_eq_true, decide_eq_true_eq] at fN
   refine t_q rfl (fun w' H => x_ix (a := ao) (b := I am) (v := vat ao 1 (Int.toNat am)) rfl rfl (Sl.ix (α := Int) T23.und T23.size (H.os 3) (by omega) (by omega))) ?_
   refine t_q rfl (fun w' H => x_ld (p := vat ao 1 (Int.toNat am)) (v := I (ai.getD (Int.toNat am) 0)) rfl (ld_sc Sc3 (At.mono (Int_at (H.os 3) (i := am) (by omega) (by omega)) (H.ol 3)))) ?_
   refine t_q rfl (fun w' H => x_bld (ps := [(0, I (ai.getD (Int.toNat am) 0))]) (zs := [I 0, .slice none 0 0]) (L' := [I (ai.getD (Int.toNat am) 0), .slice none 0 0]) rfl Try.underlying67 Al67 rfl (Bd67 Try.underlying67) (.cons (cs := [I (ai.getD (Int.toNat am) 0)]) rfl rfl rfl rfl rfl <| .nil)) ?_
   refine t_l rfl ?_
   refine t_sw 1 0 [I (ai.getD (Int.toNat am) 0), .slice none 0 0] (.agg #[I (ai.getD (Int.toNat am) 0), .slice none 0 0]) H rfl rfl Sz67 rfl rfl rfl rfl ?_
   intro mU H
   refine s_nil ⟨(H.pk [2, 3, 4, 5, 6, 7, 8, 9]), ?_⟩
   refine t_nil ?_
   exact ⟨aB, am, aV, aW, _, upds_of _ _ ⟨rfl, rfl, rfl, rfl, rfl, trivial⟩, hM, (H.pk [1, 0, 2, 3, 4, 5, 6, 7, 8, 9])⟩
  rintro _ mV ⟨aB, am, aV, aW, ρ, rfl, hM, H⟩
  unfold zb0 at hM
  refine W.seq ?_
  refine W.seq ?_
  refine W.region rfl ?_
  refine s_val (x_fa (a := Pq aB) (v := Pq aB) rfl (fa_blk (o := 0) Fd67_0 Sz3)) ?_
  refine s_val (x_ld (p := Pq aB) (v := I (ai.getD (Int.toNat am) 0)) rfl (ldb_sc Sc3 (H.bl 0) rfl)) ?_
  refine zA (I (ai.getD (Int.toNat am) 0)) rfl ?_
  refine s_nil ?_
  refine W.block ?_
  replace H := H.nilOwn (α := Int) 3
  obtain ⟨fO, cf, fP⟩ := M.e_bind hM
  obtain ⟨bF, cf⟩ := M.e_iter cf
  refine W.loop (fun m σ W => ∃ (bj : Int) (bm : Int) (av : Int) (aH : List Int) (aL : Value) (ρ : Env), σ = upds ρ [(0, Pq ac), (4, Pq aC), (5, Pq aa), (11, I k2), (12, Pq aB), (13, I av)] /\ M.iterN (za0 s_bytes l) m (bj, bm, av, aH) = some fO /\ St w W [cOwn (α := Int) 3 aL aH, cBlk aB [I (ai.getD (Int.toNat am) 0), aL] 67, cBlk ac [aI, I bj, I bm] 71, cOwn (α := Raw 1) 67 aD aK, cRo B_l17, cOwn (α := Town) 54 aw aA, cOwn (α := Int) 3 ao ai, cOwn (α := Span) 27 ak l2, cOwn (α := Int) 3 ae l, cBlk aa [ae, ak, ao, aw, I al, I (al + ax), aD] 30, cBlk aC [.slice none 0 0, .slice none 0 0, .slice none 0 0, .slice none 0 0, I 0, I 0, .slice none 0 0] 30] R) ?_ ?_
  ·exact ⟨_, aV, aW, ai.getD (Int.toNat am) 0, [], (.slice none 0 0), _, upds_of _ _ ⟨rfl, rfl, rfl, rfl, rfl, rfl, trivial⟩, cf, H⟩
  rintro mW σ mX ⟨bj, bm, av, aH, aL, ρ, rfl, c0, H⟩
  obtain ⟨cg, ch, mY, hM, bz⟩ := M.e_iterN c0
  simp only [za0] at hM
  clear c0
  refine W.seq ?_
  refine W.seq ?_
  refine W.region rfl ?_
  refine zM (I av) rfl ?_
  refine zC av (-1) (av != (-1)) rfl rfl rfl ?_
  refine s_nil ?_
  refine W.cond (av != (-1)) rfl (fun bu => ?_) (fun bu => ?_)
  ·replace hM := M.e_t hM bu
   simp only [qy1, qy2, qy3, qy4, qy5, qy6, ne_eq, qy7] at bu
   refine W.skip ?_
   refine W.seq ?_
   refine W.block ?_
   refine W.drawT (fun W => St w W [cOwn (α := Raw 1) 67 aD aK, cRo B_l17, cOwn (α := Town) 54 aw aA, cOwn (α := Int) 3 ao ai, cOwn (α := Span) 27 ak l2, cOwn (α := Int) 3 ae l, cBlk aa [ae, ak, ao, aw, I al, I (al + ax), aD] 30, cBlk aC [.slice none 0 0, .slice none 0 0, .slice none 0 0, .slice none 0 0, I 0, I 0, .slice none 0 0] 30] R) (.q 0 (.q 2 (.l2 1 (.l 3 (.l 4 (.l 5 (.q 6 (.l 7 .nil))))) 3 (.l2 1 (.l 4 (.l 5 (.q 6 (.l 7 .nil)))) 4 (.l 1 (.l 5 (.q 6 (.l 7 .nil)))))))) mixed (by decide +kernel) rfl ?_
   intro mZ aG
   replace H := H.ext aG
   clear aG
   refine ⟨(H.pk [3, 4, 5, 6, 7, 8, 9, 10]), ?_⟩
   refine t_q rfl (fun w' H => x_fa (a := Pq aB) (v := Oq aB 1) rfl (fa_blk (o := 0) Fd67_1 Sz23)) ?_
   refine t_q rfl (fun w' H => x_mv (v := Pq ac) rfl) ?_
   refine t_l2 rfl rfl ?_ ?_
   ·skip
    refine s_val (x_ld (p := Oq aB 1) (v := aL) rfl (ldb_sc Sc23 (H.bl 1) rfl)) ?_
    have m2 := Sl.cells (H.os 0)
    have m3 := Sl.oc (H.os 0)
    refine s_nil ⟨(H.pk [3, 4, 5, 6, 7, 8, 9, 10]), ?_⟩
    refine t_l rfl ?_
    obtain ⟨m4, fQ, hM⟩ := M.e_bind hM
    refine s_call cf10 [Pq ac, I 400] rfl (zab s_bytes bj bm 400 (aq.app _) au fQ _ ((H.pk [2, 0, 1, 3, 4, 5, 6, 7, 8, 9, 10]).gt 10)) ?_
    rintro vq m5 ⟨aE, bA, bB, fR, hvq, ab⟩
    subst fR
    subst vq
    try dsimp only at hM
    replace H := H.pk [2, 0, 1, 3, 4, 5, 6, 7, 8, 9, 10] |>.bk ab
    clear ab
    refine s_nil ⟨(H.pk [3, 4, 5, 6, 7, 8, 9, 10]), ?_⟩
    refine t_l rfl ?_
    refine t_bs (α := Int) T23 [I aE] [(aE : Int)] H rfl (.cons rfl (Flat.rep_enc _ (aE : Int)) <| .nil) rfl rfl rfl ?_
    intro fS m6 H
    have m7 := Sl.cells (H.os 0)
    have m8 := Sl.oc (H.os 0)
    refine s_nil ⟨(H.pk [4, 5, 6, 7, 8, 9, 10, 11]), ?_⟩
    refine t_l rfl ?_
    obtain ⟨fT, hM⟩ := M.e_grd hM
    simp only [Bool.and_eq_true, decide_eq_true_eq] at fT
    refine t_app (α := Int) (k := 2) (l := aH) (l2 := [(aE : Int)]) (l' := aH ++ ([(aE : Int)])) (vy := fS) T23 rfl H rfl rfl rfl (H.os 0) (H.ol 0) (rfl) (by first | omega | (simp only [List.length_nil] at *; omega)) ?_
    intro ck m9 H
    replace H := H.nf
    have nc := Sl.cells (H.os 2)
    have nd := Sl.oc (H.os 2)
    refine s_nil ⟨(H.pk [4, 5, 6, 7, 8, 9, 10, 11]), ?_⟩
    refine t_q rfl (fun w' H => x_fa (a := Pq aB) (v := Oq aB 1) rfl (fa_blk (o := 0) Fd67_1 Sz23)) ?_
    refine t_l rfl ?_
    refine t_sw 3 1 [ck] ck H rfl rfl Sz23 (Sl.cells (H.os 2)) rfl rfl (by simp only [List.all_cons, List.all_nil, Bool.true_and, Bool.and_true, Sl.oc (H.os 2)]; try rfl) ?_
    intro ng H
    refine s_nil ⟨(H.pk [4, 5, 6, 7, 8, 9, 10, 11]), ?_⟩
    refine t_nil ?_
    refine W.region rfl ?_
    refine s_val (x_fa (a := Pq aa) (v := Pq aa) rfl (fa_blk (o := 0) Fd30_0 Sz23)) ?_
    refine s_val (x_ld (p := Pq aa) (v := ae) rfl (ldb_sc Sc23 (H.bl 10) rfl)) ?_
    refine zM (I av) rfl ?_
    obtain ⟨fU, hM⟩ := M.e_grd hM
    simp only [Bool.and_eq_true, decide_eq_true_eq] at fU
    refine s_val (x_ix (a := ae) (b := I av) (v := vat ae 1 (Int.toNat av)) rfl rfl (Sl.ix (α := Int) T23.und T23.size (H.os 9) (by omega) (by omega))) ?_
    refine s_val (x_ld (p := vat ae 1 (Int.toNat av)) (v := I (l.getD (Int.toNat av) 0)) rfl (ld_sc Sc3 (At.mono (Int_at (H.os 9) (i := av) (by omega) (by omega)) (H.ol 9)))) ?_
    refine zA (I (l.getD (Int.toNat av) 0)) rfl ?_
    refine s_nil ?_
    exact ⟨cg, ch, bA, bB, l.getD (Int.toNat av) 0, aH ++ ([(aE : Int)]), ck, _, upds_of _ _ ⟨rfl, rfl, rfl, rfl, rfl, rfl, trivial⟩, M.e_inl hM bz, (H.pk [2, 3, 1, 4, 5, 6, 7, 8, 9, 10, 11])⟩
   skip
   obtain ⟨nh, fV, hM⟩ := M.e_bind hM
   refine s_call cf10 [Pq ac, I 400] rfl (zab s_bytes bj bm 400 (aq.app _) au fV _ ((H.pk [2, 0, 1, 3, 4, 5, 6, 7, 8, 9, 10]).gt 10)) ?_
   rintro vq ni ⟨aE, bA, bB, fW, hvq, ab⟩
   subst fW
   subst vq
   try dsimp only at hM
   replace H := H.pk [2, 0, 1, 3, 4, 5, 6, 7, 8, 9, 10] |>.bk ab
   clear ab
   have nj := Sl.cells (H.os 1)
   have nk := Sl.oc (H.os 1)
   refine s_nil ⟨(H.pk [3, 4, 5, 6, 7, 8, 9, 10]), ?_⟩
   obtain ⟨fX, hM⟩ := M.e_grd hM
   simp only [Bool.and_eq_true, decide_eq_true_eq] at fX
   refine t_l2 rfl rfl ?_ ?_
   ·skip
    refine s_val (x_ld (p := Oq aB 1) (v := aL) rfl (ldb_sc Sc23 (H.bl 2) rfl)) ?_
    refine s_nil ⟨(H.pk [3, 4, 5, 6, 7, 8, 9, 10]), ?_⟩
    refine t_l rfl ?_
    refine t_bs (α := Int) T23 [I aE] [(aE : Int)] H rfl (.cons rfl (Flat.rep_enc _ (aE : Int)) <| .nil) rfl rfl rfl ?_
    intro fY nl H
    have nm := Sl.cells (H.os 0)
    have nn := Sl.oc (H.os 0)
    refine s_nil ⟨(H.pk [4, 5, 6, 7, 8, 9, 10, 11]), ?_⟩
    refine t_l rfl ?_
    refine t_app (α := Int) (k := 2) (l := aH) (l2 := [(aE : Int)]) (l' := aH ++ ([(aE : Int)])) (vy := fY) T23 rfl H rfl rfl rfl (H.os 0) (H.ol 0) (rfl) (by first | omega | (simp only [List.length_nil] at *; omega)) ?_
    intro cl np H
    replace H := H.nf
    have nq := Sl.cells (H.os 2)
    have nr := Sl.oc (H.os 2)
    refine s_nil ⟨(H.pk [4, 5, 6, 7, 8, 9, 10, 11]), ?_⟩
    refine t_q rfl (fun w' H => x_fa (a := Pq aB) (v := Oq aB 1) rfl (fa_blk (o := 0) Fd67_1 Sz23)) ?_
    refine t_l rfl ?_
    refine t_sw 3 1 [cl] cl H rfl rfl Sz23 (Sl.cells (H.os 2)) rfl rfl (by simp only [List.all_cons, List.all_nil, Bool.true_and, Bool.and_true, Sl.oc (H.os 2)]; try rfl) ?_
    intro ns H
    refine s_nil ⟨(H.pk [4, 5, 6, 7, 8, 9, 10, 11]), ?_⟩
    refine t_nil ?_
    refine W.region rfl ?_
    refine s_val (x_fa (a := Pq aa) (v := Pq aa) rfl (fa_blk (o := 0) Fd30_0 Sz23)) ?_
    refine s_val (x_ld (p := Pq aa) (v := ae) rfl (ldb_sc Sc23 (H.bl 10) rfl)) ?_
    refine zM (I av) rfl ?_
    obtain ⟨fZ, hM⟩ := M.e_grd hM
    simp only [Bool.and_eq_true, decide_eq_true_eq] at fZ
    refine s_val (x_ix (a := ae) (b := I av) (v := vat ae 1 (Int.toNat av)) rfl rfl (Sl.ix (α := Int) T23.und T23.size (H.os 9) (by omega) (by omega))) ?_
    refine s_val (x_ld (p := vat ae 1 (Int.toNat av)) (v := I (l.getD (Int.toNat av) 0)) rfl (ld_sc Sc3 (At.mono (Int_at (H.os 9) (i := av) (by omega) (by omega)) (H.ol 9)))) ?_
    refine zA (I (l.getD (Int.toNat av) 0)) rfl ?_
    refine s_nil ?_
    exact ⟨cg, ch, bA, bB, l.getD (Int.toNat av) 0, aH ++ ([(aE : Int)]), cl, _, upds_of _ _ ⟨rfl, rfl, rfl, rfl, rfl, rfl, trivial⟩, M.e_inl hM bz, (H.pk [2, 3, 1, 4, 5, 6, 7, 8, 9, 10, 11])⟩
   skip
   refine t_bs (α := Int) T23 [I aE] [(aE : Int)] H rfl (.cons rfl (Flat.rep_enc _ (aE : Int)) <| .nil) rfl rfl rfl ?_
   intro f0 nt H
   have nu := Sl.cells (H.os 0)
   have nv := Sl.oc (H.os 0)
   refine s_nil ⟨(H.pk [4, 5, 6, 7, 8, 9, 10, 11]), ?_⟩
   refine t_l rfl ?_
   refine s_val (x_ld (p := Oq aB 1) (v := aL) rfl (ldb_sc Sc23 (H.bl 3) rfl)) ?_
   refine s_nil ⟨(H.pk [4, 5, 6, 7, 8, 9, 10, 11]), ?_⟩
   refine t_l rfl ?_
   refine t_app (α := Int) (k := 2) (l := aH) (l2 := [(aE : Int)]) (l' := aH ++ ([(aE : Int)])) (vy := f0) T23 rfl H rfl rfl rfl (H.os 0) (H.ol 0) (rfl) (by first | omega | (simp only [List.length_nil] at *; omega)) ?_
   intro cm nw H
   replace H := H.nf
   have ny := Sl.cells (H.os 2)
   have nz := Sl.oc (H.os 2)
   refine s_nil ⟨(H.pk [4, 5, 6, 7, 8, 9, 10, 11]), ?_⟩
   refine t_q rfl (fun w' H => x_fa (a := Pq aB) (v := Oq aB 1) rfl (fa_blk (o := 0) Fd67_1 Sz23)) ?_
   refine t_l rfl ?_
   refine t_sw 3 1 [cm] cm H rfl rfl Sz23 (Sl.cells (H.os 2)) rfl rfl (by simp only [List.all_cons, List.all_nil, Bool.true_and, Bool.and_true, Sl.oc (H.os 2)]; try rfl) ?_
   intro nA H
   refine s_nil ⟨(H.pk [4, 5, 6, 7, 8, 9, 10, 11]), ?_⟩
   refine t_nil ?_
   refine W.region rfl ?_
   refine s_val (x_fa (a := Pq aa) (v := Pq aa) rfl (fa_blk (o := 0) Fd30_0 Sz23)) ?_
   refine s_val (x_ld (p := Pq aa) (v := ae) rfl (ldb_sc Sc23 (H.bl 10) rfl)) ?_
   refine zM (I av) rfl ?_
   obtain ⟨f3, hM⟩ := M.e_grd hM
   simp only [Bool.and_eq_true, decide_eq_true_eq] at f3
   refine s_val (x_ix (a := ae) (b := I av) (v := vat ae 1 (Int.toNat av)) rfl rfl (Sl.ix (α := Int) T23.und T23.size (H.os 9) (by omega) (by omega))) ?_
   refine s_val (x_ld (p := vat ae 1 (Int.toNat av)) (v := I (l.getD (Int.toNat av) 0)) rfl (ld_sc Sc3 (At.mono (Int_at (H.os 9) (i := av) (by omega) (by omega)) (H.ol 9)))) ?_
   refine zA (I (l.getD (Int.toNat av) 0)) rfl ?_
   refine s_nil ?_
   exact ⟨cg, ch, bA, bB, l.getD (Int.toNat av) 0, aH ++ ([(aE : Int)]), cm, _, upds_of _ _ ⟨rfl, rfl, rfl, rfl, rfl, rfl, trivial⟩, M.e_inl hM bz, (H.pk [2, 3, 1, 4, 5, 6, 7, 8, 9, 10, 11])⟩
  replace hM := M.e_f hM bu
  simp only [qy1, qy2, qy3, qy4, qy5, qy6, ne_eq, qy7] at bu
  refine W.exit ?_
  have f4 := M.e_inr hM bz
  subst f4
  replace hM := fP
  try dsimp only at hM
  refine W.region rfl ?_
  refine s_val (x_fa (a := Pq aa) (v := Oq aa 6) rfl (fa_blk (o := 0) Fd30_5 Sz28)) ?_
  refine s_val (x_ld (p := Oq aa 6) (v := aD) rfl (ldb_sc Sc28 (H.bl 9) rfl)) ?_
  refine s_val (x_ld (p := Pq aB) (v := .agg #[I (ai.getD (Int.toNat am) 0), aL]) rfl (ldb_ag (ds := [I (ai.getD (Int.toNat am) 0), aL]) Ag67 Sz67 (H.bl 1) rfl rfl)) ?_
  obtain ⟨nB, H⟩ := H.emptyE
  obtain ⟨nC, H, f9⟩ := H.freezeE (k := 1) rfl
  replace H := H.nf
  have bC := f9
  obtain ⟨ga, H, nD, gc⟩ := H.joinE (i := 0) (j := 1) rfl rfl
  replace bC := bC.mono gc
  obtain ⟨aX, c6⟩ : ∃ r : Raw 1, r.cs = [I (ai.getD (Int.toNat am) 0), aL] := ⟨Raw.of [I (ai.getD (Int.toNat am) 0), aL] rfl (by simp only [List.all_cons, List.all_nil, Bool.true_and, Bool.and_true, Sl.oc bC]; try rfl), rfl⟩
  have gf : RepR (α := Flood) ga.cells [aX] [(⟨(ai.getD (Int.toNat am) 0 : Int), aH⟩ : Flood)] := .cons (by rw [c6]; exact ⟨_, rfl, bC⟩) <| .nil
  refine t_bs (α := Raw 1) T28 [.agg #[I (ai.getD (Int.toNat am) 0), aL]] [aX] H rfl (.cons (by rw [show (Flat.enc aX : List Value) = aX.cs from rfl, c6]; rfl) (Flat.rep_enc _ _) <| .nil) rfl rfl rfl ?_
  intro gg nE H
  replace H := H.nf
  obtain ⟨gh, hM⟩ := M.e_grd hM
  simp only [Bool.and_eq_true, decide_eq_true_eq] at gh
  have bD := gf
  obtain ⟨gi, H, gj, gk⟩ := H.joinE (i := 7) (j := 1) rfl rfl
  replace bi := bi.mono gj
  replace bD := bD.mono gk
  have cn := bi.app bD
  refine t_app (α := Raw 1) (k := 7) (l := aK) (l2 := [aX]) (l' := aK ++ ([aX])) (vy := gg) T28 rfl H rfl rfl rfl (H.os 1) (H.ol 1) (rfl) (by have a_ := bi.len; have b_ := bD.len; (try simp only [List.length_nil] at *); first | omega | (rw [a_, b_]; omega)) ?_
  intro co nF H
  replace H := H.nf
  refine s_val (x_fa (a := Pq aa) (v := Oq aa 6) rfl (fa_blk (o := 0) Fd30_5 Sz28)) ?_
  refine t_sw 13 6 [co] co H rfl rfl Sz28 (Sl.cells (rowSl rfl (H.get (k := 7) rfl) (roLe _ (H.get (k := 0) rfl)) cn)) rfl rfl (by simp only [List.all_cons, List.all_nil, Bool.true_and, Bool.and_true, Sl.oc (rowSl rfl (H.get (k := 7) rfl) (roLe _ (H.get (k := 0) rfl)) cn)]; try rfl) ?_
  intro nG H
  refine s_nil ?_
  replace H := H.pk [0, 6, 7, 8, 9, 10, 11, 12, 13, 14]
  refine W.region rfl ?_
  refine zM (I k2) rfl ?_
  obtain ⟨gl, hM⟩ := M.e_grd hM
  simp only [Bool.and_eq_true, decide_eq_true_eq] at gl
  refine zR k2 1 (k2 - 1) rfl rfl rfl (by omega) ?_
  refine zA (I (k2 - 1)) rfl ?_
  refine s_nil ?_
  exact ⟨fF, fG, bj, bm, k2 - 1, bh ++ ([(⟨(ai.getD (Int.toNat am) 0 : Int), aH⟩ : Flood)]), co, aK ++ ([aX]), gi, _, upds_of _ _ ⟨rfl, rfl, rfl, rfl, trivial⟩, M.e_inl hM cZ, (H.pk [2, 0, 1, 4, 5, 6, 7, 8, 9]), cn⟩
 replace hM := M.e_f hM bt
 simp only [qy1, qy2, qy3, qy4, qy5, qy6, ne_eq, qy7] at bt
 refine W.exit ?_
 have gm := M.e_inr hM cZ
 subst gm
 replace hM := fE
 try dsimp only at hM
 refine W.seq ?_
 refine W.region rfl ?_
 refine s_val (x_ld (p := Pq aa) (v := .agg #[ae, ak, ao, aw, I al, I (al + ax), aD]) rfl (ldb_ag (ds := [ae, ak, ao, aw, I al, I (al + ax), aD]) Ag30 Sz30 (H.bl 7) rfl rfl)) ?_
 refine t_sw 8 0 [ae, ak, ao, aw, I al, I (al + ax), aD] (.agg #[ae, ak, ao, aw, I al, I (al + ax), aD]) H rfl rfl Sz30 rfl rfl rfl (by simp only [List.all_cons, List.all_nil, Bool.true_and, Bool.and_true, Sl.oc (H.os 6), Sl.oc (H.os 5), Sl.oc (H.os 4), Sl.oc (H.os 3), Sl.oc (rowSl rfl (H.get (k := 0) rfl) (roLe _ (H.get (k := 1) rfl)) bi)]; try rfl) ?_
 intro nH H
 refine s_nil ?_
 refine W.ret ?_
 have gn := (H.bl 8)
 have gp := M.e_pure hM
 exact ⟨_, (resE_of1 (v := .agg #[ae, ak, ao, aw, I al, I (al + ax), aD]) rfl (.cell (v := .agg #[ae, ak, ao, aw, I al, I (al + ax), aD]) rfl (run_loadVar_ag (ds := [ae, ak, ao, aw, I al, I (al + ax), aD]) Ag30 Sz30 gn rfl rfl) <| .nil)), ⟨l, l2, ai, aA, al, (al + ax), bh, bf, bg, ae, ak, ao, aw, aD, aK, B_l17, gp, rfl, (H.pk [6, 5, 4, 3, 0, 1, 2]), bi⟩⟩

end Go.Proofs.Ytbaehghammbjdaa
end
section
set_option maxRecDepth 100000
set_option maxHeartbeats 16000000
namespace Go.Proofs.Ytbaehghammbjdaa
open Go Go.Nm
def zcc (aa : List Int) (ab : List Span) (ac : List Int) (ae : List Town) (ai : Int) (aj : Int) (ah : List Flood) : M ((List Dem) × Int) :=
  M.bind (zao aa ab ac ae ai aj ah) fun x_ => match x_ with
  | (.inl r1) => (
  bif r1 != 0 then (
  M.pure (([]), r1))
  else (
  M.fail))
  | (.inr (ak, al, am)) => (
  bif am != 0 then (
  M.fail)
  else (
  M.bind (zah aa ab ac ae ak al ah) fun r2 =>
  M.pure (r2, 0)))
theorem zdq {R : List Chunk} {aA : Cells} {ah : Value} {aB : Cells} {ai : Value} {aC : Cells} {aj : Value} {aD : Cells} {ak : Value} {aE : Cells} {al : Value} (ao : List Int) (aq : List Span) (au : List Int) (av : List Town) (ab : Int) (ac : Int) (aw : List Flood) (aF : Reads R aA) (aG : Sl aA ah ao) (aH : Reads R aB) (aI : Sl aB ai aq) (aJ : Reads R aC) (aK : Sl aC aj au) (aL : Reads R aD) (aM : Sl aD ak av) (aN : Reads R aE) (aO : Sl aE al aw) {r : ((List Dem) × Int)} (hM : (zcc ao aq au av ab ac aw).Ends r) (w : World) (H : St w w [] R) : Ret Try.prog 23 #[.agg #[ah, ai, aj, ak, I ab, I ac, al]] w fun v w' => ∃ (y0 : List Dem) (y1 : Int) (u0 : Value), (y0, y1) = r /\ v = .tuple #[u0, I y1] /\ St w w' [cOwn (α := Dem) 62 u0 y0] R := by
 refine ret_of_W Try.func23 rfl rfl rfl ?_
 refine W.seq ?_
 refine W.region rfl ?_
 refine t_box (v := .agg #[ah, ai, aj, ak, I ab, I ac, al]) (cs := [ah, ai, aj, ak, I ab, I ac, al]) H rfl rfl ?_
 intro aQ aY H
 refine zA (.slice none 0 0) rfl ?_
 refine zA (I 0) rfl ?_
 refine s_nil ?_
 refine W.seq ?_
 refine W.region rfl ?_
 refine s_val (x_ld (p := Pq aQ) (v := .agg #[ah, ai, aj, ak, I ab, I ac, al]) rfl (ldb_ag (ds := [ah, ai, aj, ak, I ab, I ac, al]) Ag30 Sz30 (H.bl 0) rfl rfl)) ?_
 obtain ⟨aZ, aR, hM⟩ := M.e_bind hM
 refine s_call cf44 [.agg #[ah, ai, aj, ak, I ab, I ac, al]] rfl (za2 ao aq au av ab ac aw (aF.app _) aG (aH.app _) aI (aJ.app _) aK (aL.app _) aM (aN.app _) aO aR _ (H.gt 1)) ?_
 rintro vq a8 (⟨r1, aS, hvq, ae⟩ | ⟨aT, aU, aa, am, ba, bb, aV, hvq, ae⟩)
 ·subst aS
  subst vq
  try dsimp only at hM
  replace H := H.bk ae
  clear ae
  refine zM (.tuple #[.pointer none, I r1]) rfl ?_
  refine zX [.pointer none, I r1] (.pointer none) rfl rfl ?_
  refine zX [.pointer none, I r1] (I r1) rfl rfl ?_
  refine zA (.pointer none) rfl ?_
  refine zA (I r1) rfl ?_
  refine s_nil ?_
  refine W.seq ?_
  refine W.seq ?_
  refine W.region rfl ?_
  refine zM (I r1) rfl ?_
  refine zC r1 0 (r1 != 0) rfl rfl rfl ?_
  refine s_nil ?_
  refine W.cond (r1 != 0) rfl (fun ax => ?_) (fun ax => ?_)
  ·replace hM := M.e_t hM ax
   simp only [qy1, qy2, qy3, qy4, qy5, qy6, ne_eq, qy7] at ax
   refine W.seq ?_
   refine W.region rfl ?_
   refine zM (I r1) rfl ?_
   refine zA (.slice none 0 0) rfl ?_
   refine zA (I r1) rfl ?_
   refine s_nil ?_
   refine W.ret ?_
   have az := M.e_pure hM
   replace H := H.nilOwn (α := Dem) 62
   exact ⟨_, resE_tmp2 rfl, ⟨([]), r1, (.slice none 0 0), az, rfl, (H.pk [0])⟩⟩
  replace hM := M.e_f hM ax
  exact (M.e_fail hM).elim
 subst aV
 subst vq
 try dsimp only at hM
 replace H := H.bk ae
 clear ae
 refine zM (.tuple #[Pq am, I aa]) rfl ?_
 refine zX [Pq am, I aa] (Pq am) rfl rfl ?_
 refine zX [Pq am, I aa] (I aa) rfl rfl ?_
 refine zA (Pq am) rfl ?_
 refine zA (I aa) rfl ?_
 refine s_nil ?_
 refine W.seq ?_
 refine W.seq ?_
 refine W.region rfl ?_
 refine zM (I aa) rfl ?_
 refine zC aa 0 (aa != 0) rfl rfl rfl ?_
 refine s_nil ?_
 refine W.cond (aa != 0) rfl (fun ay => ?_) (fun ay => ?_)
 ·replace hM := M.e_t hM ay
  exact (M.e_fail hM).elim
 replace hM := M.e_f hM ay
 simp only [qy1, qy2, qy3, qy4, qy5, qy6, ne_eq, qy7] at ay
 refine W.skip ?_
 refine W.seq ?_
 refine W.region rfl ?_
 refine zM (Pq am) rfl ?_
 obtain ⟨bc, aW, hM⟩ := M.e_bind hM
 refine s_call cf51 [Pq am] rfl (zbP ao aq au av aT aU aw (aF.app _) aG (aH.app _) aI (aJ.app _) aK (aL.app _) aM (aN.app _) aO (Has.here (k := 0) rfl) aW _ (H.gt 3)) ?_
 rintro vq bf ⟨r2, aP, aX, hvq, ae⟩
 subst aX
 subst vq
 try dsimp only at hM
 replace H := H.bk ae
 clear ae
 refine zA aP rfl ?_
 refine zA (I 0) rfl ?_
 refine s_nil ?_
 replace H := H.pk [0]
 refine W.ret ?_
 have az := M.e_pure hM
 exact ⟨_, resE_tmp2 rfl, ⟨r2, 0, aP, az, rfl, H⟩⟩

def zcu (l : List Town) : M (List Town) :=
  M.grd (decide ((([] : List Town).length + l.length) * 24 <= 140737488355328)) <|
  M.pure l
theorem zcx {R : List Chunk} {ab : Cells} {aa : Value} (l : List Town) (ae : Reads R ab) (ah : Sl ab aa l) {r : (List Town)} (hM : (zcu l).Ends r) (w : World) (H : St w w [] R) : Ret Try.prog 49 #[aa] w fun v w' => ∃ (y0 : List Town) (u0 : Value), y0 = r /\ v = u0 /\ St w w' [cOwn (α := Town) 54 u0 y0] R := by
 refine ret_of_W Try.func49 rfl rfl rfl ?_
 refine W.seq ?_
 refine W.region rfl ?_
 refine zA (.slice none 0 0) rfl ?_
 refine s_nil ?_
 refine W.seq ?_
 refine W.region rfl ?_
 refine zA (.slice none 0 0) rfl ?_
 refine s_nil ?_
 refine W.seq ?_
 refine W.region rfl ?_
 refine zM (.slice none 0 0) rfl ?_
 refine zM aa rfl ?_
 replace H := H.nilOwn (α := Town) 54
 obtain ⟨ai, hM⟩ := M.e_grd hM
 simp only [Bool.and_eq_true, decide_eq_true_eq] at ai
 refine t_app (α := Town) (k := 0) (l := []) (l2 := l) (l' := l) (vy := aa) T25 rfl H rfl rfl rfl ah (ae.at H) (List.nil_append _) (by first | omega | (simp only [List.length_nil] at *; omega)) ?_
 intro ac ak H
 replace H := H.nf
 refine zA ac rfl ?_
 refine s_nil ?_
 refine W.ret ?_
 have aj := M.e_pure hM
 exact ⟨_, resE_tmp rfl, ⟨l, ac, aj, rfl, H⟩⟩

def zbz (aa : List Int) (ab : List Span) (ac : List Int) (ae : Int) (ah : Int) (ai : List Flood) (r0 : List Dem) : ((List Town) × Bool × Nat) -> M (((List Town) × Bool × Nat) ⊕ (((List Town) × (List Town) × (List Town)) ⊕ ((List Town) × Bool × (List Town)))) := fun (l, again, i) =>
  bif ((decide ((i : Int) < (r0.length : Int))) && (!again)) then (
  M.grd (decide ((i : Int) < (r0.length : Int))) <|
  M.bind (zbc aa ab ac l ae ah ai (r0.getD i default)) fun (aj, ak) =>
  bif (((ak != 0) || (decide (((r0.getD i default).town) < 0))) || (decide ((l.length : Int) <= ((r0.getD i default).town)))) then (
  M.pure (.inr (.inl (l, l, l))))
  else (
  bif (aj.length : Int) == 0 then (
  M.grd (decide ((-9223372036854775808 : Int) <= (((r0.getD i default).town) + 1)) && decide ((((r0.getD i default).town) + 1) <= (9223372036854775807 : Int))) <|
  M.bind (zcu (l.take (Int.toNat ((r0.getD i default).town)))) fun r2 =>
  M.grd (decide ((r2.length + (l.drop (Int.toNat (((r0.getD i default).town) + 1))).length) * 24 <= 140737488355328)) <|
  M.pure (.inl (r2 ++ (l.drop (Int.toNat (((r0.getD i default).town) + 1))), true, i + 1)))
  else (
  M.pure (.inl (l, again, i + 1)))))
  else (
  M.pure (.inr (.inr (l, again, l))))
def zbK (aa : List Int) (ab : List Span) (ac : List Int) (ae : Int) (ah : Int) (ai : List Flood) : ((List Town) × Bool) -> M (((List Town) × Bool) ⊕ (((List Town) × (List Town) × (List Town)) ⊕ ((List Town) × (List Town)))) := fun (l7, again3) =>
  bif again3 then (
  M.bind (zcc aa ab ac l7 ae ah ai) fun (r0, r1) =>
  bif r1 != 0 then (
  M.pure (.inr (.inl (l7, l7, l7))))
  else (
  M.bind (M.iter (zbz aa ab ac ae ah ai r0) (l7, false, 0)) fun x_ => match x_ with
  | (.inl (l2, l3, l4)) => (
  M.pure (.inr (.inl (l4, l4, l4))))
  | (.inr (l5, again2, l6)) => (
  M.pure (.inl (l6, again2)))))
  else (
  M.pure (.inr (.inr (l7, l7))))
def zbZ (ac : List Int) (ae : List Span) (ah : List Int) (ai : List Town) (aa : Int) (ab : Int) (aj : List Flood) : M (Int × Int × Bool × (List Town)) :=
  M.bind (M.iter (zbK ac ae ah aa ab aj) (ai, true)) fun x_ => match x_ with
  | (.inl (l8, l9, ak)) => (
  M.pure (aa, ab, false, ak))
  | (.inr (am, al)) => (
  M.pure (aa, ab, true, al))
theorem zdt {R : List Chunk} {bj : Cells} {ah : Value} {bm : Cells} {ai : Value} {bn : Cells} {aj : Value} {aC : Value} {bo : Cells} {ak : Value} (ax : List Int) (ay : List Span) (az : List Int) (aR : List Town) (ac : Int) (ae : Int) (aA : List Flood) (bp : Reads R bj) (aD : Sl bj ah ax) (bq : Reads R bm) (aE : Sl bm ai ay) (br : Reads R bn) (aF : Sl bn aj az) (bt : Reads R bo) (aG : Sl bo ak aA) {r : (Int × Int × Bool × (List Town))} (hM : (zbZ ax ay az aR ac ae aA).Ends r) (w : World) (H : St w w [cOwn (α := Town) 54 aC aR] R) : Ret Try.prog 26 #[.agg #[ah, ai, aj, aC, I ac, I ae, ak]] w fun v w' => ∃ (y0 : Int) (y1 : Int) (y2 : Bool) (y3 : List Town) (u0 : Value), (y0, y1, y2, y3) = r /\ v = .tuple #[.agg #[ah, ai, aj, u0, I y0, I y1, ak], B y2] /\ St w w' [cOwn (α := Town) 54 u0 y3] R := by
 refine ret_of_W Try.func26 rfl rfl rfl ?_
 refine W.seq ?_
 refine W.region rfl ?_
 refine t_box (v := .agg #[ah, ai, aj, aC, I ac, I ae, ak]) (cs := [ah, ai, aj, aC, I ac, I ae, ak]) H rfl rfl ?_
 intro ao ca H
 refine t_alloc (cs := [.slice none 0 0, .slice none 0 0, .slice none 0 0, .slice none 0 0, I 0, I 0, .slice none 0 0]) H Al30 rfl ?_
 intro aw cb H
 refine zA (B false) rfl ?_
 refine s_nil ?_
 refine W.seq ?_
 refine W.seq ?_
 refine W.region rfl ?_
 refine zA (B true) rfl ?_
 refine s_nil ?_
 refine W.block ?_
 obtain ⟨bz, aS, aT⟩ := M.e_bind hM
 obtain ⟨bA, aS⟩ := M.e_iter aS
 refine W.loop (fun m σ W => ∃ (l7 : List Town) (again3 : Bool) (aq : Value) (ρ : Env), σ = upds ρ [(1, Pq ao), (2, Pq aw), (4, B again3)] /\ M.iterN (zbK ax ay az ac ae aA) m (l7, again3) = some bz /\ St w W [cBlk aw [.slice none 0 0, .slice none 0 0, .slice none 0 0, .slice none 0 0, I 0, I 0, .slice none 0 0] 30, cBlk ao [ah, ai, aj, aq, I ac, I ae, ak] 30, cOwn (α := Town) 54 aq l7] R) ?_ ?_
 ·exact ⟨_, aR, true, aC, _, upds_of _ _ ⟨rfl, rfl, rfl, trivial⟩, aS, H⟩
 rintro cc σ cd ⟨l7, again3, aq, ρ, rfl, bu, H⟩
 obtain ⟨bB, bC, ce, hM, aL⟩ := M.e_iterN bu
 simp only [zbK] at hM
 clear bu
 refine W.seq ?_
 refine W.seq ?_
 refine W.region rfl ?_
 refine zM (B again3) rfl ?_
 refine s_nil ?_
 refine W.cond again3 rfl (fun aU => ?_) (fun aU => ?_)
 ·replace hM := M.e_t hM aU
  refine W.skip ?_
  refine W.block ?_
  refine W.seq ?_
  refine W.region rfl ?_
  refine zA (B false) rfl ?_
  refine s_nil ?_
  refine W.seq ?_
  refine W.region rfl ?_
  refine s_val (x_ld (p := Pq ao) (v := .agg #[ah, ai, aj, aq, I ac, I ae, ak]) rfl (ldb_ag (ds := [ah, ai, aj, aq, I ac, I ae, ak]) Ag30 Sz30 (H.bl 1) rfl rfl)) ?_
  obtain ⟨cf, bD, hM⟩ := M.e_bind hM
  refine s_call cf23 [.agg #[ah, ai, aj, aq, I ac, I ae, ak]] rfl (zdq ax ay az l7 ac ae aA (bp.app _) aD (bq.app _) aE (br.app _) aF (rdo 2) (H.os 2) (bt.app _) aG bD _ (H.gt 3)) ?_
  rintro vq cg ⟨r0, r1, aa, bE, hvq, au⟩
  subst bE
  subst vq
  try dsimp only at hM
  replace H := H.bk au
  clear au
  refine zM (.tuple #[aa, I r1]) rfl ?_
  refine zX [aa, I r1] aa rfl rfl ?_
  refine zX [aa, I r1] (I r1) rfl rfl ?_
  refine zA aa rfl ?_
  refine zA (I r1) rfl ?_
  refine s_nil ?_
  refine W.seq ?_
  refine W.seq ?_
  refine W.region rfl ?_
  refine zM (I r1) rfl ?_
  refine zC r1 0 (r1 != 0) rfl rfl rfl ?_
  refine s_nil ?_
  refine W.cond (r1 != 0) rfl (fun aH => ?_) (fun aH => ?_)
  ·replace hM := M.e_t hM aH
   simp only [qy1, qy2, qy3, qy4, qy5, qy6, ne_eq, qy7] at aH
   refine W.seq ?_
   refine W.region rfl ?_
   refine s_val (x_ld (p := Pq ao) (v := .agg #[ah, ai, aj, aq, I ac, I ae, ak]) rfl (ldb_ag (ds := [ah, ai, aj, aq, I ac, I ae, ak]) Ag30 Sz30 (H.bl 2) rfl rfl)) ?_
   refine t_sw 1 0 [ah, ai, aj, aq, I ac, I ae, ak] (.agg #[ah, ai, aj, aq, I ac, I ae, ak]) H rfl rfl Sz30 rfl rfl rfl (by simp only [List.all_cons, List.all_nil, Bool.true_and, Bool.and_true, Sl.oc aD, Sl.oc aE, Sl.oc aF, Sl.oc (H.os 3), Sl.oc aG]; try rfl) ?_
   intro ch H
   refine zA (B false) rfl ?_
   refine s_nil ?_
   refine W.ret ?_
   have bF := M.e_inr hM aL
   subst bF
   replace hM := aT
   try dsimp only at hM
   have bG := (H.bl 1)
   have aI := M.e_pure hM
   exact ⟨_, (resE_ofn (vs := [.agg #[ah, ai, aj, aq, I ac, I ae, ak], B false]) rfl rfl (.cell (v := .agg #[ah, ai, aj, aq, I ac, I ae, ak]) rfl (run_loadVar_ag (ds := [ah, ai, aj, aq, I ac, I ae, ak]) Ag30 Sz30 bG rfl rfl) <| .tmp (v := B false) rfl <| .nil)), ⟨ac, ae, false, l7, aq, aI, rfl, (H.pk [3])⟩⟩
  replace hM := M.e_f hM aH
  simp only [qy1, qy2, qy3, qy4, qy5, qy6, ne_eq, qy7] at aH
  refine W.skip ?_
  refine W.seq ?_
  refine W.region rfl ?_
  refine zA (I 0) rfl ?_
  refine s_nil ?_
  refine W.block ?_
  obtain ⟨bH, aV, bv⟩ := M.e_bind hM
  obtain ⟨bA, aV⟩ := M.e_iter aV
  refine W.loop (fun m σ W => ∃ (l : List Town) (again : Bool) (i : Nat) (al : Value) (ρ : Env), σ = upds ρ [(1, Pq ao), (2, Pq aw), (4, B again), (5, aa), (7, I (i : Int))] /\ M.iterN (zbz ax ay az ac ae aA r0) m (l, again, i) = some bH /\ St w W [cOwn (α := Dem) 62 aa r0, cBlk aw [.slice none 0 0, .slice none 0 0, .slice none 0 0, .slice none 0 0, I 0, I 0, .slice none 0 0] 30, cBlk ao [ah, ai, aj, al, I ac, I ae, ak] 30, cOwn (α := Town) 54 al l] R) ?_ ?_
  ·exact ⟨_, l7, false, 0, aq, _, upds_of _ _ ⟨rfl, rfl, rfl, rfl, rfl, trivial⟩, aV, H⟩
  rintro ck σ cl ⟨l, again, i, al, ρ, rfl, bw, H⟩
  obtain ⟨aM, aN, cm, hM, aB⟩ := M.e_iterN bw
  simp only [zbz] at hM
  clear bw
  refine W.seq ?_
  refine W.seq ?_
  refine W.region rfl ?_
  refine zM (I (i : Int)) rfl ?_
  refine zM aa rfl ?_
  have cn := ((H.os 0)).len_le
  refine s_val (x_lenS T57.und rfl (H.os 0)) ?_
  refine zC (i : Int) (r0.length : Int) (decide ((i : Int) < (r0.length : Int))) rfl rfl rfl ?_
  refine zM (B (decide ((i : Int) < (r0.length : Int)))) rfl ?_
  refine g_val (decide ((i : Int) < (r0.length : Int))) (gy_t rfl) (fun hg => x_mv (v := B again) rfl) ?_
  refine g_val (decide ((i : Int) < (r0.length : Int))) (gy_t rfl) (fun hg => x_not (b := again) (gd_of (c := decide ((i : Int) < (r0.length : Int))) hg (B again))) ?_
  refine s_val (x_pand (b := decide ((i : Int) < (r0.length : Int))) (r := !again) rfl (fun hb => gd_of (c := decide ((i : Int) < (r0.length : Int))) (by first | exact hb | (rw [hb]; rfl) | simp_all) (B (!again))) rfl) ?_
  refine s_nil ?_
  refine W.cond ((decide ((i : Int) < (r0.length : Int))) && (!again)) rfl (fun aW => ?_) (fun aW => ?_)
  ·replace hM := M.e_t hM aW
   refine W.skip ?_
   refine W.seq ?_
   refine W.block ?_
   refine W.seq ?_
   refine W.draw (fun W => St w W [cOwn (α := Dem) 62 aa r0, cBlk aw [.slice none 0 0, .slice none 0 0, .slice none 0 0, .slice none 0 0, I 0, I 0, .slice none 0 0] 30, cBlk ao [ah, ai, aj, al, I ac, I ae, ak] 30, cOwn (α := Town) 54 al l] R) [(0, true), (1, true), (2, true), (3, true), (4, true), (5, false), (6, true), (7, true), (8, true), (9, true), (10, true)] mixed (by decide +kernel) rfl ?_
   intro co am
   replace H := H.ext am
   clear am
   refine ⟨(H.pk [0, 1, 2, 3]), ?_⟩
   refine d_q rfl (fun w' H => x_ld (p := Pq ao) (v := .agg #[ah, ai, aj, al, I ac, I ae, ak]) rfl (ldb_ag (ds := [ah, ai, aj, al, I ac, I ae, ak]) Ag30 Sz30 (H.bl 2) rfl rfl)) ?_
   refine d_q rfl (fun w' H => x_mv (v := aa) rfl) ?_
   refine d_q rfl (fun w' H => x_mv (v := I (i : Int)) rfl) ?_
   obtain ⟨bI, hM⟩ := M.e_grd hM
   simp only [Bool.and_eq_true, decide_eq_true_eq] at bI
   refine d_q rfl (fun w' H => x_ix (a := aa) (b := I (i : Int)) (v := vat aa 2 (Int.toNat (i : Int))) rfl rfl (Sl.ix (α := Dem) T57.und T57.size (H.os 0) (by omega) (by omega))) ?_
   refine d_q rfl (fun w' H => x_ld (p := vat aa 2 (Int.toNat (i : Int))) (v := .agg #[I ((r0.getD i default).spring), I ((r0.getD i default).town)]) rfl (ld_ag Ag62 Sz62 (At.mono (Dem_atA (H.os 0) (i := (i : Int)) (by omega) (by omega)) (H.ol 0)))) ?_
   refine d_l rfl ?_
   obtain ⟨cp, bJ, hM⟩ := M.e_bind hM
   refine s_call cf24 [.agg #[ah, ai, aj, al, I ac, I ae, ak], .agg #[I ((r0.getD i default).spring), I ((r0.getD i default).town)]] rfl (zcm ax ay az l ac ae aA (r0.getD i default) (bp.app _) aD (bq.app _) aE (br.app _) aF (rdo 3) (H.os 3) (bt.app _) aG bJ _ (H.gt 4)) ?_
   rintro vq cq ⟨aJ, ab, av, bK, hvq, au⟩
   subst bK
   subst vq
   try dsimp only at hM
   replace H := H.bk au
   clear au
   have ct := Sl.cells (H.os 0)
   have cu := Sl.oc (H.os 0)
   refine s_nil ⟨(H.pk [1, 2, 3, 4]), ?_⟩
   refine d_q rfl (fun w' H => x_mv (v := .tuple #[av, I ab]) rfl) ?_
   refine d_q rfl (fun w' H => x_ext (vs := [av, I ab]) (v := av) rfl rfl) ?_
   refine d_q rfl (fun w' H => x_ext (vs := [av, I ab]) (v := I ab) rfl rfl) ?_
   refine d_q rfl (fun w' H => x_as (v := av) rfl) ?_
   refine d_q rfl (fun w' H => x_as (v := I ab) rfl) ?_
   refine d_nil ?_
   refine W.seq ?_
   refine W.seq ?_
   refine W.draw (fun W => St w W [cOwn (α := Int) 3 av aJ, cOwn (α := Dem) 62 aa r0, cBlk aw [.slice none 0 0, .slice none 0 0, .slice none 0 0, .slice none 0 0, I 0, I 0, .slice none 0 0] 30, cBlk ao [ah, ai, aj, al, I ac, I ae, ak] 30, cOwn (α := Town) 54 al l] R) [(0, true), (1, true), (2, true), (3, true), (4, true), (5, true), (6, true), (7, true), (8, true), (9, true), (10, true), (11, true), (12, true), (13, true), (14, true), (15, true), (16, true), (17, true), (18, true), (19, true), (20, true)] mixed (by decide +kernel) rfl ?_
   intro cw am
   replace H := H.ext am
   clear am
   refine ⟨(H.pk [0, 1, 2, 3, 4]), ?_⟩
   refine d_q rfl (fun w' H => x_mv (v := I ab) rfl) ?_
   refine d_q rfl (fun w' H => x_cmp (kd := .i64) (a := ab) (b := 0) (r := ab != 0) rfl rfl rfl) ?_
   refine d_q rfl (fun w' H => x_mv (v := B (ab != 0)) rfl) ?_
   refine d_qg (!(ab != 0)) rfl (gy_f rfl) (fun hg => (fun w' H => x_mv (v := aa) rfl)) ?_
   refine d_qg (!(ab != 0)) rfl (gy_f rfl) (fun hg => (fun w' H => x_mv (v := I (i : Int)) rfl)) ?_
   refine d_qg (!(ab != 0)) rfl (gy_f rfl) (fun hg => (fun w' H => x_ix (a := aa) (b := I (i : Int)) (v := vat aa 2 (Int.toNat (i : Int))) (gd_of (c := !(ab != 0)) hg (aa)) (gd_of (c := !(ab != 0)) hg (I (i : Int))) (Sl.ix (α := Dem) T57.und T57.size (H.os 1) (by first | omega | (have am := hg; simp at am; omega)) (by first | omega | (have am := hg; simp at am; omega))))) ?_
   refine d_qg (!(ab != 0)) rfl (gy_f rfl) (fun hg => (fun w' H => x_fa (a := vat aa 2 (Int.toNat (i : Int))) (v := fat (vat aa 2 (Int.toNat (i : Int))) 1) (gd_of (c := !(ab != 0)) hg (vat aa 2 (Int.toNat (i : Int)))) (fa_pl Fd62_1 Sz3 (Sl.pl (i := (i : Int)) (H.os 1) (by first | omega | (have am := hg; simp at am; omega)) (by first | omega | (have am := hg; simp at am; omega)))))) ?_
   refine d_qg (!(ab != 0)) rfl (gy_f rfl) (fun hg => (fun w' H => x_ld (p := fat (vat aa 2 (Int.toNat (i : Int))) 1) (v := I ((r0.getD i default).town)) (gd_of (c := !(ab != 0)) hg (fat (vat aa 2 (Int.toNat (i : Int))) 1)) (ld_sc Sc3 (At.mono (Dem_at1 (H.os 1) (i := (i : Int)) (by first | omega | (have am := hg; simp at am; omega)) (by first | omega | (have am := hg; simp at am; omega))) (H.ol 1))))) ?_
   refine d_qg (!(ab != 0)) rfl (gy_f rfl) (fun hg => (fun w' H => x_cmp (kd := .i64) (a := (r0.getD i default).town) (b := 0) (r := decide (((r0.getD i default).town) < 0)) (gd_of (c := !(ab != 0)) hg (I ((r0.getD i default).town))) rfl rfl)) ?_
   refine d_q rfl (fun w' H => x_por (b := ab != 0) (r := decide (((r0.getD i default).town) < 0)) rfl rfl (fun hb => gd_of (c := !(ab != 0)) (by first | exact hb | (rw [hb]; rfl) | simp_all) (B (decide (((r0.getD i default).town) < 0))))) ?_
   refine d_q rfl (fun w' H => x_mv (v := B ((ab != 0) || (decide (((r0.getD i default).town) < 0)))) rfl) ?_
   refine d_qg (!((ab != 0) || (decide (((r0.getD i default).town) < 0)))) rfl (gy_f rfl) (fun hg => (fun w' H => x_mv (v := aa) rfl)) ?_
   refine d_qg (!((ab != 0) || (decide (((r0.getD i default).town) < 0)))) rfl (gy_f rfl) (fun hg => (fun w' H => x_mv (v := I (i : Int)) rfl)) ?_
   refine d_qg (!((ab != 0) || (decide (((r0.getD i default).town) < 0)))) rfl (gy_f rfl) (fun hg => (fun w' H => x_ix (a := aa) (b := I (i : Int)) (v := vat aa 2 (Int.toNat (i : Int))) (gd_of (c := !((ab != 0) || (decide (((r0.getD i default).town) < 0)))) hg (aa)) (gd_of (c := !((ab != 0) || (decide (((r0.getD i default).town) < 0)))) hg (I (i : Int))) (Sl.ix (α := Dem) T57.und T57.size (H.os 1) (by first | omega | (have am := hg; simp at am; omega)) (by first | omega | (have am := hg; simp at am; omega))))) ?_
   refine d_qg (!((ab != 0) || (decide (((r0.getD i default).town) < 0)))) rfl (gy_f rfl) (fun hg => (fun w' H => x_fa (a := vat aa 2 (Int.toNat (i : Int))) (v := fat (vat aa 2 (Int.toNat (i : Int))) 1) (gd_of (c := !((ab != 0) || (decide (((r0.getD i default).town) < 0)))) hg (vat aa 2 (Int.toNat (i : Int)))) (fa_pl Fd62_1 Sz3 (Sl.pl (i := (i : Int)) (H.os 1) (by first | omega | (have am := hg; simp at am; omega)) (by first | omega | (have am := hg; simp at am; omega)))))) ?_
   refine d_qg (!((ab != 0) || (decide (((r0.getD i default).town) < 0)))) rfl (gy_f rfl) (fun hg => (fun w' H => x_ld (p := fat (vat aa 2 (Int.toNat (i : Int))) 1) (v := I ((r0.getD i default).town)) (gd_of (c := !((ab != 0) || (decide (((r0.getD i default).town) < 0)))) hg (fat (vat aa 2 (Int.toNat (i : Int))) 1)) (ld_sc Sc3 (At.mono (Dem_at1 (H.os 1) (i := (i : Int)) (by first | omega | (have am := hg; simp at am; omega)) (by first | omega | (have am := hg; simp at am; omega))) (H.ol 1))))) ?_
   refine d_qg (!((ab != 0) || (decide (((r0.getD i default).town) < 0)))) rfl (gy_f rfl) (fun hg => (fun w' H => x_fa (a := Pq ao) (v := Oq ao 3) rfl (fa_blk (o := 0) Fd30_3 Sz25))) ?_
   refine d_qg (!((ab != 0) || (decide (((r0.getD i default).town) < 0)))) rfl (gy_f rfl) (fun hg => (fun w' H => x_ld (p := Oq ao 3) (v := al) (gd_of (c := !((ab != 0) || (decide (((r0.getD i default).town) < 0)))) hg (Oq ao 3)) (ldb_sc Sc25 (H.bl 3) rfl))) ?_
   refine d_qg (!((ab != 0) || (decide (((r0.getD i default).town) < 0)))) rfl (gy_f rfl) (fun hg => (fun w' H => x_lenS T25.und (gd_of (c := !((ab != 0) || (decide (((r0.getD i default).town) < 0)))) hg (al)) (H.os 4))) ?_
   refine d_qg (!((ab != 0) || (decide (((r0.getD i default).town) < 0)))) rfl (gy_f rfl) (fun hg => (fun w' H => x_cmp (kd := .i64) (a := (r0.getD i default).town) (b := (l.length : Int)) (r := decide ((l.length : Int) <= ((r0.getD i default).town))) (gd_of (c := !((ab != 0) || (decide (((r0.getD i default).town) < 0)))) hg (I ((r0.getD i default).town))) (gd_of (c := !((ab != 0) || (decide (((r0.getD i default).town) < 0)))) hg (I (l.length : Int))) rfl)) ?_
   refine d_q rfl (fun w' H => x_por (b := ((ab != 0) || (decide (((r0.getD i default).town) < 0)))) (r := decide ((l.length : Int) <= ((r0.getD i default).town))) rfl rfl (fun hb => gd_of (c := !((ab != 0) || (decide (((r0.getD i default).town) < 0)))) (by first | exact hb | (rw [hb]; rfl) | simp_all) (B (decide ((l.length : Int) <= ((r0.getD i default).town)))))) ?_
   refine d_nil ?_
   refine W.cond (((ab != 0) || (decide (((r0.getD i default).town) < 0))) || (decide ((l.length : Int) <= ((r0.getD i default).town)))) rfl (fun aO => ?_) (fun aO => ?_)
   ·replace hM := M.e_t hM aO
    refine W.seq ?_
    refine W.region rfl ?_
    refine s_val (x_ld (p := Pq ao) (v := .agg #[ah, ai, aj, al, I ac, I ae, ak]) rfl (ldb_ag (ds := [ah, ai, aj, al, I ac, I ae, ak]) Ag30 Sz30 (H.bl 3) rfl rfl)) ?_
    refine t_sw 2 0 [ah, ai, aj, al, I ac, I ae, ak] (.agg #[ah, ai, aj, al, I ac, I ae, ak]) H rfl rfl Sz30 rfl rfl rfl (by simp only [List.all_cons, List.all_nil, Bool.true_and, Bool.and_true, Sl.oc aD, Sl.oc aE, Sl.oc aF, Sl.oc (H.os 4), Sl.oc aG]; try rfl) ?_
    intro cx H
    refine zA (B false) rfl ?_
    refine s_nil ?_
    refine W.ret ?_
    have bL := M.e_inr hM aB
    subst bL
    replace hM := bv
    try dsimp only at hM
    have bM := M.e_inr hM aL
    subst bM
    replace hM := aT
    try dsimp only at hM
    have bN := (H.bl 2)
    have aI := M.e_pure hM
    exact ⟨_, (resE_ofn (vs := [.agg #[ah, ai, aj, al, I ac, I ae, ak], B false]) rfl rfl (.cell (v := .agg #[ah, ai, aj, al, I ac, I ae, ak]) rfl (run_loadVar_ag (ds := [ah, ai, aj, al, I ac, I ae, ak]) Ag30 Sz30 bN rfl rfl) <| .tmp (v := B false) rfl <| .nil)), ⟨ac, ae, false, l, al, aI, rfl, (H.pk [4])⟩⟩
   replace hM := M.e_f hM aO
   simp only [Bool.or_eq_false_iff, decide_eq_false_iff_not] at aO
   refine W.skip ?_
   refine W.seq ?_
   refine W.region rfl ?_
   refine zM av rfl ?_
   have cy := ((H.os 0)).len_le
   refine s_val (x_lenS T23.und rfl (H.os 0)) ?_
   refine zC (aJ.length : Int) 0 ((aJ.length : Int) == 0) rfl rfl rfl ?_
   refine s_nil ?_
   refine W.cond ((aJ.length : Int) == 0) rfl (fun aK => ?_) (fun aK => ?_)
   ·replace hM := M.e_t hM aK
    simp only [qy1, qy2, qy3, qy4, qy5, qy6, ne_eq, qy7] at aK
    refine W.seq ?_
    refine W.drawT (fun W => St w W [cOwn (α := Int) 3 av aJ, cOwn (α := Dem) 62 aa r0, cBlk aw [.slice none 0 0, .slice none 0 0, .slice none 0 0, .slice none 0 0, I 0, I 0, .slice none 0 0] 30, cOwn (α := Town) 54 al l] R) (.q 0 (.q 2 (.q 3 (.q 4 (.q 5 (.q 6 (.q 9 (.q 11 (.q 12 (.q 13 (.q 14 (.q 15 (.q 16 (.l2 1 (.q 7 (.l2 8 (.l 10 (.q 17 (.l 18 (.q 19 (.l 20 .nil))))) 10 (.q 17 (.l 8 (.l 18 (.q 19 (.l 20 .nil))))))) 10 (.q 17 (.l 1 (.q 7 (.l 8 (.l 18 (.q 19 (.l 20 .nil))))))))))))))))))))) mixed (by decide +kernel) rfl ?_
    intro cz am
    replace H := H.ext am
    clear am
    refine ⟨(H.pk [0, 1, 2, 4]), ?_⟩
    refine t_q rfl (fun w' H => x_fa (a := Pq ao) (v := Oq ao 3) rfl (fa_blk (o := 0) Fd30_3 Sz25)) ?_
    refine t_q rfl (fun w' H => x_mv (v := aa) rfl) ?_
    refine t_q rfl (fun w' H => x_mv (v := I (i : Int)) rfl) ?_
    refine t_q rfl (fun w' H => x_ix (a := aa) (b := I (i : Int)) (v := vat aa 2 (Int.toNat (i : Int))) rfl rfl (Sl.ix (α := Dem) T57.und T57.size (H.os 1) (by omega) (by omega))) ?_
    refine t_q rfl (fun w' H => x_fa (a := vat aa 2 (Int.toNat (i : Int))) (v := fat (vat aa 2 (Int.toNat (i : Int))) 1) rfl (fa_pl Fd62_1 Sz3 (Sl.pl (i := (i : Int)) (H.os 1) (by omega) (by omega)))) ?_
    refine t_q rfl (fun w' H => x_ld (p := fat (vat aa 2 (Int.toNat (i : Int))) 1) (v := I ((r0.getD i default).town)) rfl (ld_sc Sc3 (At.mono (Dem_at1 (H.os 1) (i := (i : Int)) (by omega) (by omega)) (H.ol 1)))) ?_
    refine t_q rfl (fun w' H => x_fa (a := Pq ao) (v := Oq ao 3) rfl (fa_blk (o := 0) Fd30_3 Sz25)) ?_
    refine t_q rfl (fun w' H => x_mv (v := aa) rfl) ?_
    refine t_q rfl (fun w' H => x_mv (v := I (i : Int)) rfl) ?_
    refine t_q rfl (fun w' H => x_ix (a := aa) (b := I (i : Int)) (v := vat aa 2 (Int.toNat (i : Int))) rfl rfl (Sl.ix (α := Dem) T57.und T57.size (H.os 1) (by omega) (by omega))) ?_
    refine t_q rfl (fun w' H => x_fa (a := vat aa 2 (Int.toNat (i : Int))) (v := fat (vat aa 2 (Int.toNat (i : Int))) 1) rfl (fa_pl Fd62_1 Sz3 (Sl.pl (i := (i : Int)) (H.os 1) (by omega) (by omega)))) ?_
    refine t_q rfl (fun w' H => x_ld (p := fat (vat aa 2 (Int.toNat (i : Int))) 1) (v := I ((r0.getD i default).town)) rfl (ld_sc Sc3 (At.mono (Dem_at1 (H.os 1) (i := (i : Int)) (by omega) (by omega)) (H.ol 1)))) ?_
    obtain ⟨bO, hM⟩ := M.e_grd hM
    simp only [Bool.and_eq_true, decide_eq_true_eq] at bO
    refine t_q rfl (fun w' H => x_ari (a := (r0.getD i default).town) (b := 1) (r := ((r0.getD i default).town) + 1) rfl rfl rfl (by omega)) ?_
    refine t_l2 rfl rfl ?_ ?_
    ·skip
     refine s_val (x_ld (p := Oq ao 3) (v := al) rfl (ldb_sc Sc25 (H.bl 3) rfl)) ?_
     refine s_nil ⟨(H.pk [0, 1, 2, 4]), ?_⟩
     obtain ⟨aP, bP, aQ⟩ := sl_hi T25.und T25.size (H.os 4) (j := (r0.getD i default).town) (by omega) (by omega)
     replace aQ : Sl _ aP (l.take (Int.toNat ((r0.getD i default).town))) := aQ
     refine t_q rfl (fun w' H => x_sl (v := al) (u := aP) (lo' := none) (hi' := some (I ((r0.getD i default).town))) (mx' := none) rfl rfl rfl rfl (bP _)) ?_
     refine t_l2 rfl rfl ?_ ?_
     ·skip
      obtain ⟨cA, bQ, hM⟩ := M.e_bind hM
      refine s_call cf49 [aP] rfl (zcx (l.take (Int.toNat ((r0.getD i default).town))) (rdo 4) aQ bQ _ (H.gt 5)) ?_
      rintro vq cB ⟨r2, bx, bR, hvq, au⟩
      subst bR
      subst vq
      try dsimp only at hM
      replace H := H.bk au
      clear au
      have cC := Sl.cells (H.os 0)
      have cD := Sl.oc (H.os 0)
      refine s_nil ⟨(H.pk [1, 2, 3, 5]), ?_⟩
      refine t_l rfl ?_
      refine s_val (x_ld (p := Oq ao 3) (v := al) rfl (ldb_sc Sc25 (H.bl 4) rfl)) ?_
      refine s_nil ⟨(H.pk [1, 2, 3, 5]), ?_⟩
      obtain ⟨aX, bS, aY⟩ := sl_lo T25.und T25.size (H.os 5) (i := ((r0.getD i default).town) + 1) (by omega) (by omega)
      replace aY : Sl _ aX (l.drop (Int.toNat (((r0.getD i default).town) + 1))) := aY
      refine t_q rfl (fun w' H => x_sl (v := al) (u := aX) (lo' := some (I (((r0.getD i default).town) + 1))) (hi' := none) (mx' := none) rfl rfl rfl rfl (bS _)) ?_
      refine t_l rfl ?_
      obtain ⟨bT, hM⟩ := M.e_grd hM
      simp only [Bool.and_eq_true, decide_eq_true_eq] at bT
      refine t_app (α := Town) (k := 0) (l := r2) (l2 := l.drop (Int.toNat (((r0.getD i default).town) + 1))) (l' := r2 ++ (l.drop (Int.toNat (((r0.getD i default).town) + 1)))) (vy := aX) T25 rfl H rfl rfl rfl aY (H.ol 5) (rfl) (by first | omega | (simp only [List.length_nil] at *; omega)) ?_
      intro aZ cE H
      replace H := H.nf
      have cF := Sl.cells (H.os 0)
      have cG := Sl.oc (H.os 0)
      refine s_nil ⟨(H.pk [1, 2, 3, 5]), ?_⟩
      refine t_q rfl (fun w' H => x_fa (a := Pq ao) (v := Oq ao 3) rfl (fa_blk (o := 0) Fd30_3 Sz25)) ?_
      refine t_l rfl ?_
      refine t_sw 4 3 [aZ] aZ H rfl rfl Sz25 (Sl.cells (H.os 0)) rfl rfl (by simp only [List.all_cons, List.all_nil, Bool.true_and, Bool.and_true, Sl.oc (H.os 0)]; try rfl) ?_
      intro cH H
      refine s_nil ⟨(H.pk [1, 2, 3, 5]), ?_⟩
      refine t_nil ?_
      refine W.region rfl ?_
      refine zA (B true) rfl ?_
      refine s_nil ?_
      refine W.region rfl ?_
      refine zM (I (i : Int)) rfl ?_
      refine zR (i : Int) 1 ((i : Int) + 1) rfl rfl rfl (by omega) ?_
      refine zA (I ((i : Int) + 1)) rfl ?_
      refine s_nil ?_
      exact ⟨aM, aN, r2 ++ (l.drop (Int.toNat (((r0.getD i default).town) + 1))), true, i + 1, aZ, _, upds_of _ _ ⟨rfl, rfl, rfl, rfl, rfl, trivial⟩, M.e_inl hM aB, (H.pk [2, 3, 4, 0])⟩
     skip
     refine s_val (x_ld (p := Oq ao 3) (v := al) rfl (ldb_sc Sc25 (H.bl 3) rfl)) ?_
     refine s_nil ⟨(H.pk [0, 1, 2, 4]), ?_⟩
     obtain ⟨a8, bU, ba⟩ := sl_lo T25.und T25.size (H.os 4) (i := ((r0.getD i default).town) + 1) (by omega) (by omega)
     replace ba : Sl _ a8 (l.drop (Int.toNat (((r0.getD i default).town) + 1))) := ba
     refine t_q rfl (fun w' H => x_sl (v := al) (u := a8) (lo' := some (I (((r0.getD i default).town) + 1))) (hi' := none) (mx' := none) rfl rfl rfl rfl (bU _)) ?_
     refine t_l rfl ?_
     obtain ⟨cI, bV, hM⟩ := M.e_bind hM
     refine s_call cf49 [aP] rfl (zcx (l.take (Int.toNat ((r0.getD i default).town))) (rdo 4) aQ bV _ (H.gt 5)) ?_
     rintro vq cJ ⟨r2, bx, bW, hvq, au⟩
     subst bW
     subst vq
     try dsimp only at hM
     replace H := H.bk au
     clear au
     have cK := Sl.cells (H.os 0)
     have cL := Sl.oc (H.os 0)
     refine s_nil ⟨(H.pk [1, 2, 3, 5]), ?_⟩
     refine t_l rfl ?_
     obtain ⟨bX, hM⟩ := M.e_grd hM
     simp only [Bool.and_eq_true, decide_eq_true_eq] at bX
     refine t_app (α := Town) (k := 0) (l := r2) (l2 := l.drop (Int.toNat (((r0.getD i default).town) + 1))) (l' := r2 ++ (l.drop (Int.toNat (((r0.getD i default).town) + 1)))) (vy := a8) T25 rfl H rfl rfl rfl ba (H.ol 5) (rfl) (by first | omega | (simp only [List.length_nil] at *; omega)) ?_
     intro bb cM H
     replace H := H.nf
     have cN := Sl.cells (H.os 0)
     have cO := Sl.oc (H.os 0)
     refine s_nil ⟨(H.pk [1, 2, 3, 5]), ?_⟩
     refine t_q rfl (fun w' H => x_fa (a := Pq ao) (v := Oq ao 3) rfl (fa_blk (o := 0) Fd30_3 Sz25)) ?_
     refine t_l rfl ?_
     refine t_sw 4 3 [bb] bb H rfl rfl Sz25 (Sl.cells (H.os 0)) rfl rfl (by simp only [List.all_cons, List.all_nil, Bool.true_and, Bool.and_true, Sl.oc (H.os 0)]; try rfl) ?_
     intro cP H
     refine s_nil ⟨(H.pk [1, 2, 3, 5]), ?_⟩
     refine t_nil ?_
     refine W.region rfl ?_
     refine zA (B true) rfl ?_
     refine s_nil ?_
     refine W.region rfl ?_
     refine zM (I (i : Int)) rfl ?_
     refine zR (i : Int) 1 ((i : Int) + 1) rfl rfl rfl (by omega) ?_
     refine zA (I ((i : Int) + 1)) rfl ?_
     refine s_nil ?_
     exact ⟨aM, aN, r2 ++ (l.drop (Int.toNat (((r0.getD i default).town) + 1))), true, i + 1, bb, _, upds_of _ _ ⟨rfl, rfl, rfl, rfl, rfl, trivial⟩, M.e_inl hM aB, (H.pk [2, 3, 4, 0])⟩
    skip
    refine s_val (x_ld (p := Oq ao 3) (v := al) rfl (ldb_sc Sc25 (H.bl 3) rfl)) ?_
    refine s_nil ⟨(H.pk [0, 1, 2, 4]), ?_⟩
    obtain ⟨bc, bY, bf⟩ := sl_lo T25.und T25.size (H.os 4) (i := ((r0.getD i default).town) + 1) (by omega) (by omega)
    replace bf : Sl _ bc (l.drop (Int.toNat (((r0.getD i default).town) + 1))) := bf
    refine t_q rfl (fun w' H => x_sl (v := al) (u := bc) (lo' := some (I (((r0.getD i default).town) + 1))) (hi' := none) (mx' := none) rfl rfl rfl rfl (bY _)) ?_
    refine t_l rfl ?_
    refine s_val (x_ld (p := Oq ao 3) (v := al) rfl (ldb_sc Sc25 (H.bl 3) rfl)) ?_
    refine s_nil ⟨(H.pk [0, 1, 2, 4]), ?_⟩
    obtain ⟨bg, bZ, bh⟩ := sl_hi T25.und T25.size (H.os 4) (j := (r0.getD i default).town) (by omega) (by omega)
    replace bh : Sl _ bg (l.take (Int.toNat ((r0.getD i default).town))) := bh
    refine t_q rfl (fun w' H => x_sl (v := al) (u := bg) (lo' := none) (hi' := some (I ((r0.getD i default).town))) (mx' := none) rfl rfl rfl rfl (bZ _)) ?_
    refine t_l rfl ?_
    obtain ⟨cQ, b4, hM⟩ := M.e_bind hM
    refine s_call cf49 [bg] rfl (zcx (l.take (Int.toNat ((r0.getD i default).town))) (rdo 4) bh b4 _ (H.gt 5)) ?_
    rintro vq cR ⟨r2, bx, b5, hvq, au⟩
    subst b5
    subst vq
    try dsimp only at hM
    replace H := H.bk au
    clear au
    have cS := Sl.cells (H.os 0)
    have cT := Sl.oc (H.os 0)
    refine s_nil ⟨(H.pk [1, 2, 3, 5]), ?_⟩
    refine t_l rfl ?_
    obtain ⟨b6, hM⟩ := M.e_grd hM
    simp only [Bool.and_eq_true, decide_eq_true_eq] at b6
    refine t_app (α := Town) (k := 0) (l := r2) (l2 := l.drop (Int.toNat (((r0.getD i default).town) + 1))) (l' := r2 ++ (l.drop (Int.toNat (((r0.getD i default).town) + 1)))) (vy := bc) T25 rfl H rfl rfl rfl bf (H.ol 5) (rfl) (by first | omega | (simp only [List.length_nil] at *; omega)) ?_
    intro bi cU H
    replace H := H.nf
    have cV := Sl.cells (H.os 0)
    have cW := Sl.oc (H.os 0)
    refine s_nil ⟨(H.pk [1, 2, 3, 5]), ?_⟩
    refine t_q rfl (fun w' H => x_fa (a := Pq ao) (v := Oq ao 3) rfl (fa_blk (o := 0) Fd30_3 Sz25)) ?_
    refine t_l rfl ?_
    refine t_sw 4 3 [bi] bi H rfl rfl Sz25 (Sl.cells (H.os 0)) rfl rfl (by simp only [List.all_cons, List.all_nil, Bool.true_and, Bool.and_true, Sl.oc (H.os 0)]; try rfl) ?_
    intro cX H
    refine s_nil ⟨(H.pk [1, 2, 3, 5]), ?_⟩
    refine t_nil ?_
    refine W.region rfl ?_
    refine zA (B true) rfl ?_
    refine s_nil ?_
    refine W.region rfl ?_
    refine zM (I (i : Int)) rfl ?_
    refine zR (i : Int) 1 ((i : Int) + 1) rfl rfl rfl (by omega) ?_
    refine zA (I ((i : Int) + 1)) rfl ?_
    refine s_nil ?_
    exact ⟨aM, aN, r2 ++ (l.drop (Int.toNat (((r0.getD i default).town) + 1))), true, i + 1, bi, _, upds_of _ _ ⟨rfl, rfl, rfl, rfl, rfl, trivial⟩, M.e_inl hM aB, (H.pk [2, 3, 4, 0])⟩
   replace hM := M.e_f hM aK
   simp only [qy1, qy2, qy3, qy4, qy5, qy6, ne_eq, qy7] at aK
   refine W.skip ?_
   refine W.region rfl ?_
   refine zM (I (i : Int)) rfl ?_
   refine zR (i : Int) 1 ((i : Int) + 1) rfl rfl rfl (by omega) ?_
   refine zA (I ((i : Int) + 1)) rfl ?_
   refine s_nil ?_
   exact ⟨aM, aN, l, again, i + 1, al, _, upds_of _ _ ⟨rfl, rfl, rfl, rfl, rfl, trivial⟩, M.e_inl hM aB, (H.pk [1, 2, 3, 4])⟩
  replace hM := M.e_f hM aW
  refine W.exit ?_
  have b7 := M.e_inr hM aB
  subst b7
  replace hM := bv
  try dsimp only at hM
  exact ⟨bB, bC, l, again, al, _, upds_of _ _ ⟨rfl, rfl, rfl, trivial⟩, M.e_inl hM aL, (H.pk [1, 2, 3])⟩
 replace hM := M.e_f hM aU
 refine W.exit ?_
 have b8 := M.e_inr hM aL
 subst b8
 replace hM := aT
 try dsimp only at hM
 refine W.seq ?_
 refine W.region rfl ?_
 refine s_val (x_ld (p := Pq ao) (v := .agg #[ah, ai, aj, aq, I ac, I ae, ak]) rfl (ldb_ag (ds := [ah, ai, aj, aq, I ac, I ae, ak]) Ag30 Sz30 (H.bl 1) rfl rfl)) ?_
 refine t_sw 0 0 [ah, ai, aj, aq, I ac, I ae, ak] (.agg #[ah, ai, aj, aq, I ac, I ae, ak]) H rfl rfl Sz30 rfl rfl rfl (by simp only [List.all_cons, List.all_nil, Bool.true_and, Bool.and_true, Sl.oc aD, Sl.oc aE, Sl.oc aF, Sl.oc (H.os 2), Sl.oc aG]; try rfl) ?_
 intro cY H
 refine zA (B true) rfl ?_
 refine s_nil ?_
 refine W.ret ?_
 have b9 := (H.bl 0)
 have aI := M.e_pure hM
 exact ⟨_, (resE_ofn (vs := [.agg #[ah, ai, aj, aq, I ac, I ae, ak], B true]) rfl rfl (.cell (v := .agg #[ah, ai, aj, aq, I ac, I ae, ak]) rfl (run_loadVar_ag (ds := [ah, ai, aj, aq, I ac, I ae, ak]) Ag30 Sz30 b9 rfl rfl) <| .tmp (v := B true) rfl <| .nil)), ⟨ac, ae, true, l7, aq, aI, rfl, (H.pk [2])⟩⟩

def zcf (s : Int) (k0 : List Bool) : M Bool :=
  M.grd (decide ((0 : Int) <= s) && decide (s < (12 : Int))) <|
  M.pure (k0.getD (Int.toNat s) false)
theorem zdr {R : List Chunk} {aa : Nat} (s : Int) (k0 : List Bool) (ab : k0.length = 12) (ac : Has R (cBlk aa (encB k0) 74)) {r : Bool} (hM : (zcf s k0).Ends r) (w : World) (H : St w w [] R) : Ret Try.prog 58 #[I s, Pq aa] w fun v w' => ∃ (y0 : Bool), y0 = r /\ v = B y0 /\ St w w' [] R := by
 refine ret_of_W Try.func58 rfl rfl rfl ?_
 refine W.seq ?_
 refine W.region rfl ?_
 refine zA (B false) rfl ?_
 refine s_nil ?_
 refine W.seq ?_
 refine W.region rfl ?_
 refine zM (I s) rfl ?_
 obtain ⟨ae, hM⟩ := M.e_grd hM
 simp only [Bool.and_eq_true, decide_eq_true_eq] at ae
 refine s_val (x_ix (a := Pq aa) (b := I s) (v := .pointer (some ⟨aa, 0 + Int.toNat s, none⟩)) rfl rfl (run_indexArr Try.underlying74 Sz4 (by omega) (by omega))) ?_
 refine s_val (x_ld (p := .pointer (some ⟨aa, 0 + Int.toNat s, none⟩)) (v := B (k0.getD (Int.toNat s) false)) rfl (ldArr Sc4 (ac.blk H) (by omega) (by have ai := ab; omega))) ?_
 refine zA (B (k0.getD (Int.toNat s) false)) rfl ?_
 refine s_nil ?_
 refine W.ret ?_
 have ah := M.e_pure hM
 exact ⟨_, resE_tmp rfl, ⟨(k0.getD (Int.toNat s) false), ah, rfl, H⟩⟩

def zbs (d : Dem) (aa : List Int) (ab : List Span) (ac : List Int) (ae : List Town) (ah : Int) (ai : Int) (aj : List Flood) (k1 : List Bool) : M Bool :=
  M.bind (zaa aa ab ac ae ah ai aj d) fun r2 =>
  M.bind (zaQ r2 (fun ak => zcf ak k1)) fun r3 =>
  M.pure r3
theorem zcY {R : List Chunk} {ao : Nat} {am : Nat} {av : Cells} {aw : Value} {ax : Cells} {ay : Value} {az : Cells} {aA : Value} {aB : Cells} {aC : Value} {aD : Cells} {aE : Value} {aq : Nat} {B_b_k027 : Base} {aa : Nat} (d : Dem) (ab : List Int) (ac : List Span) (ae : List Int) (ah : List Town) (ai : Int) (aj : Int) (ak : List Flood) (k1 : List Bool) (aG : Reads R av) (aH : Sl av aw ab) (aI : Reads R ax) (aJ : Sl ax ay ac) (aK : Reads R az) (aL : Sl az aA ae) (aM : Reads R aB) (aN : Sl aB aC ah) (aO : Reads R aD) (aP : Sl aD aE ak) (aQ : Has R (cBlk am [aw, ay, aA, aC, I ai, I aj, aE, .map (some aq)] 86)) (aR : Has R (cBlk ao [Pq am] 72)) (aS : k1.length = 12) (aT : Has R (cBlk aa (encB k1) 74)) {r : Bool} (hM : (zbs d ab ac ae ah ai aj ak k1).Ends r) (w : World) (H : St w w [cMem encDm aq B_b_k027 (zaa ab ac ae ah ai aj ak)] R) : Ret Try.prog 56 #[.agg #[I d.spring, I d.town], Pq ao, Pq aa] w fun v w' => ∃ (y0 : Bool) (aU : Base), y0 = r /\ v = B y0 /\ St w w' [cMem encDm aq aU (zaa ab ac ae ah ai aj ak)] R := by
 refine ret_of_W Try.func56 rfl rfl rfl ?_
 refine W.seq ?_
 refine W.region rfl ?_
 refine t_box (v := .agg #[I d.spring, I d.town]) (cs := [I d.spring, I d.town]) H rfl rfl ?_
 intro aV bo H
 refine zA (B false) rfl ?_
 refine s_nil ?_
 refine W.seq ?_
 refine W.region rfl ?_
 refine s_val (x_ld (p := Pq ao) (v := Pq am) rfl (ldb_sc Sc72 (aR.blk H) rfl)) ?_
 refine s_val (x_ld (p := Pq aV) (v := .agg #[I d.spring, I d.town]) rfl (ldb_ag (ds := [I d.spring, I d.town]) Ag62 Sz62 (H.bl 0) rfl rfl)) ?_
 obtain ⟨bp, aW, hM⟩ := M.e_bind hM
 refine s_call cf54 [Pq am, .agg #[I d.spring, I d.town]] rfl (zbG ab ac ae ah ai aj ak d (aG.app _) aH (aI.app _) aJ (aK.app _) aL (aM.app _) aN (aO.app _) aP (aQ.app _) aW _ ((H.pk [1, 0]).gt 1)) ?_
 rintro vq bq ⟨r2, aX, aY, aZ, hvq, al, a8⟩
 subst aZ
 subst vq
 try dsimp only at hM
 replace H := H.pk [1, 0] |>.bk al
 clear al
 refine s_val (x_mf (fs := []) (cs := [Pq aa]) rfl rfl) ?_
 obtain ⟨br, ba, hM⟩ := M.e_bind hM
 refine s_call cf57 [aX, .func (.func 58) #[] #[Pq aa]] rfl (zcM r2 (fun au => zcf au k1) (Reads.of (k := 0) rfl memLe) a8 ⟨58, [Pq aa], rfl, cf58, fun aF bt bu bb au bv bc bw bf bg => by obtain rfl := Arg.int bf; exact (zdr au k1 aS (Has.app (aT.app _) _) bg aF (St.refl bc)).mono fun bb aF ⟨bx, bh, bi, bj⟩ => by subst bh; exact ⟨bi, bj⟩⟩ ba _ (H.gt 2)) ?_
 rintro vq bz ⟨r3, bm, hvq, al⟩
 subst bm
 subst vq
 try dsimp only at hM
 replace H := H.bk al
 clear al
 refine zA (B r3) rfl ?_
 refine s_nil ?_
 refine W.ret ?_
 have bn := M.e_pure hM
 exact ⟨_, resE_tmp rfl, ⟨r3, aY, bn, rfl, (H.pk [0])⟩⟩

def zbr (s : List Dem) (aa : List Int) (ab : List Span) (ac : List Int) (ae : List Town) (ah : Int) (ai : Int) (aj : List Flood) (ak : List Bool) : Nat -> M (Nat ⊕ (Int ⊕ Unit)) := fun s2 =>
  bif decide ((s2 : Int) < (s.length : Int)) then (
  M.grd (decide ((s2 : Int) < (s.length : Int))) <|
  M.bind (zbs (s.getD s2 default) aa ab ac ae ah ai aj ak) fun r2 =>
  bif r2 then (
  M.pure (.inr (.inl (s2 : Int))))
  else (
  M.pure (.inl (s2 + 1))))
  else (
  M.pure (.inr (.inr ())))
def zcy (s : List Dem) (aa : List Int) (ab : List Span) (ac : List Int) (ae : List Town) (ah : Int) (ai : Int) (aj : List Flood) (ak : List Bool) : M Int :=
  M.bind (M.iter (zbr s aa ab ac ae ah ai aj ak) 0) fun x_ => match x_ with
  | (.inl s3) => (
  M.pure s3)
  | (.inr (_ : Unit)) => (
  M.pure (-1))
theorem zc6 {R : List Chunk} {aA : Cells} {aa : Value} {ao : Nat} {aB : Nat} {aC : Cells} {aD : Value} {aE : Cells} {aF : Value} {aG : Cells} {aH : Value} {aI : Cells} {aJ : Value} {aK : Cells} {aL : Value} {aq : Nat} {B_b_f2027 : Base} {au : Nat} (s : List Dem) (ab : List Int) (ac : List Span) (ae : List Int) (ah : List Town) (ai : Int) (aj : Int) (ak : List Flood) (al : List Bool) (aQ : Reads R aA) (av : Sl aA aa s) (aR : Reads R aC) (aS : Sl aC aD ab) (aT : Reads R aE) (aU : Sl aE aF ac) (aV : Reads R aG) (aW : Sl aG aH ae) (aX : Reads R aI) (aY : Sl aI aJ ah) (aZ : Reads R aK) (a8 : Sl aK aL ak) (ba : Has R (cBlk aB [aD, aF, aH, aJ, I ai, I aj, aL, .map (some aq)] 86)) (bb : Has R (cBlk ao [Pq aB] 72)) (bc : al.length = 12) (bf : Has R (cBlk au (encB al) 74)) {r : Int} (hM : (zcy s ab ac ae ah ai aj ak al).Ends r) (w : World) (H : St w w [cMem encDm aq B_b_f2027 (zaa ab ac ae ah ai aj ak)] R) : Ret Try.prog 76 #[aa, .func (.func 56) #[] #[Pq ao, Pq au]] w fun v w' => ∃ (y0 : Int) (bg : Base), y0 = r /\ v = I y0 /\ St w w' [cMem encDm aq bg (zaa ab ac ae ah ai aj ak)] R := by
 refine ret_of_W Try.func76 rfl rfl rfl ?_
 refine W.seq ?_
 refine W.region rfl ?_
 refine zA (I 0) rfl ?_
 refine s_nil ?_
 refine W.seq ?_
 refine W.seq ?_
 refine W.region rfl ?_
 refine zM aa rfl ?_
 have br := (av).len_le
 refine s_val (x_lenS T57.und rfl av) ?_
 refine zM (I 0) rfl ?_
 refine s_nil ?_
 refine W.block ?_
 obtain ⟨bh, aw, aM⟩ := M.e_bind hM
 obtain ⟨bt, aw⟩ := M.e_iter aw
 refine W.loop (fun m σ W => ∃ (s2 : Nat) (B_mem : Base) (ρ : Env), σ = upds ρ [(0, aa), (1, .func (.func 56) #[] #[Pq ao, Pq au]), (7, I (s.length : Int)), (8, I (s2 : Int))] /\ M.iterN (zbr s ab ac ae ah ai aj ak al) m s2 = some bh /\ St w W [cMem encDm aq B_mem (zaa ab ac ae ah ai aj ak)] R) ?_ ?_
 ·exact ⟨_, 0, B_b_f2027, _, upds_of _ _ ⟨rfl, rfl, rfl, rfl, trivial⟩, aw, H⟩
 rintro bu σ bv ⟨s2, B_mem, ρ, rfl, aN, H⟩
 obtain ⟨bi, bj, bw, hM, ax⟩ := M.e_iterN aN
 simp only [zbr] at hM
 clear aN
 refine W.seq ?_
 refine W.region rfl ?_
 refine zC (s2 : Int) (s.length : Int) (decide ((s2 : Int) < (s.length : Int))) rfl rfl rfl ?_
 refine s_nil ?_
 refine W.seq ?_
 refine W.cond (decide ((s2 : Int) < (s.length : Int))) rfl (fun am => ?_) (fun am => ?_)
 ·replace hM := M.e_t hM am
  simp only [qy1, qy2, qy3, qy4, qy5, qy6, ne_eq, qy7] at am
  refine W.skip ?_
  refine W.seq ?_
  refine W.block ?_
  refine W.seq ?_
  refine W.region rfl ?_
  refine zM (I (s2 : Int)) rfl ?_
  refine zA (I (s2 : Int)) rfl ?_
  refine s_nil ?_
  refine W.seq ?_
  refine W.region rfl ?_
  refine zM (.func (.func 56) #[] #[Pq ao, Pq au]) rfl ?_
  refine zM aa rfl ?_
  refine zM (I (s2 : Int)) rfl ?_
  obtain ⟨bm, hM⟩ := M.e_grd hM
  simp only [Bool.and_eq_true, decide_eq_true_eq] at bm
  refine s_val (x_ix (a := aa) (b := I (s2 : Int)) (v := vat aa 2 (Int.toNat (s2 : Int))) rfl rfl (Sl.ix (α := Dem) T57.und T57.size av (by omega) (by omega))) ?_
  refine s_val (x_ld (p := vat aa 2 (Int.toNat (s2 : Int))) (v := .agg #[I ((s.getD s2 default).spring), I ((s.getD s2 default).town)]) rfl (ld_ag Ag62 Sz62 (At.mono (Dem_atA av (i := (s2 : Int)) (by omega) (by omega)) (aQ.at H)))) ?_
  obtain ⟨bx, bn, hM⟩ := M.e_bind hM
  refine s_callv (f := 56) rfl cf56 [.agg #[I ((s.getD s2 default).spring), I ((s.getD s2 default).town)]] rfl (zcY (s.getD s2 default) ab ac ae ah ai aj ak al (aR.app _) aS (aT.app _) aU (aV.app _) aW (aX.app _) aY (aZ.app _) a8 (ba.app _) (bb.app _) bc (bf.app _) bn _ (H.gt 0)) ?_
  rintro vq bz ⟨r2, aO, bo, hvq, aP⟩
  subst bo
  subst vq
  try dsimp only at hM
  replace H := H.bk aP
  clear aP
  refine s_nil ?_
  refine W.cond r2 rfl (fun ay => ?_) (fun ay => ?_)
  ·replace hM := M.e_t hM ay
   refine W.seq ?_
   refine W.region rfl ?_
   refine zM (I (s2 : Int)) rfl ?_
   refine zA (I (s2 : Int)) rfl ?_
   refine s_nil ?_
   refine W.ret ?_
   have bp := M.e_inr hM ax
   subst bp
   replace hM := aM
   try dsimp only at hM
   have az := M.e_pure hM
   exact ⟨_, resE_tmp rfl, ⟨(s2 : Int), aO, az, rfl, H⟩⟩
  replace hM := M.e_f hM ay
  refine W.skip ?_
  refine W.region rfl ?_
  refine zR (s2 : Int) 1 ((s2 : Int) + 1) rfl rfl rfl (by omega) ?_
  refine zM (I ((s2 : Int) + 1)) rfl ?_
  refine s_nil ?_
  exact ⟨bi, bj, s2 + 1, aO, _, upds_of _ _ ⟨rfl, rfl, rfl, rfl, trivial⟩, M.e_inl hM ax, H⟩
 replace hM := M.e_f hM am
 simp only [qy1, qy2, qy3, qy4, qy5, qy6, ne_eq, qy7] at am
 refine W.exit ?_
 have bq := M.e_inr hM ax
 subst bq
 replace hM := aM
 try dsimp only at hM
 refine W.seq ?_
 refine W.region rfl ?_
 refine zA (I (-1)) rfl ?_
 refine s_nil ?_
 refine W.ret ?_
 have az := M.e_pure hM
 exact ⟨_, resE_tmp rfl, ⟨(-1), B_mem, az, rfl, H⟩⟩

def zbo (aa : List Int) (ab : List Span) (ac : List Int) (ae : List Town) (ah : Int) (ai : Int) (aj : List Flood) (ak : List Bool) : ((List Dem) × Int × Int) -> M (((List Dem) × Int × Int) ⊕ ((List Dem) × Int × (List Dem))) := fun (l, i, j) =>
  bif decide (j < (l.length : Int)) then (
  M.grd (decide ((0 : Int) <= j) && decide (j < (l.length : Int))) <|
  M.bind (zbs (l.getD (Int.toNat j) default) aa ab ac ae ah ai aj ak) fun r3 =>
  bif !r3 then (
  M.grd (decide ((0 : Int) <= i) && decide (i < (l.length : Int))) <|
  M.pure (.inl (l.set (Int.toNat i) (l.getD (Int.toNat j) default), i + 1, j + 1)))
  else (
  M.pure (.inl (l, i, j + 1))))
  else (
  M.pure (.inr (l, i, l)))
def zbS (s : List Dem) (aa : List Int) (ab : List Span) (ac : List Int) (ae : List Town) (ah : Int) (ai : Int) (aj : List Flood) (ak : List Bool) : M (List Dem) :=
  M.bind (zcy s aa ab ac ae ah ai aj ak) fun r2 =>
  bif r2 == (-1) then (
  M.pure s)
  else (
  M.grd (decide ((-9223372036854775808 : Int) <= (r2 + 1)) && decide ((r2 + 1) <= (9223372036854775807 : Int))) <|
  M.bind (M.iter (zbo aa ab ac ae ah ai aj ak) (s, r2, r2 + 1)) fun (l2, i2, l3) =>
  M.grd (decide ((0 : Int) <= i2) && decide (i2 <= (l3.length : Int))) <|
  M.pure (l3.take (Int.toNat i2)))
theorem zdu {R : List Chunk} {al : Value} {am : Nat} {aG : Nat} {aH : Cells} {aI : Value} {aJ : Cells} {aK : Value} {aL : Cells} {aM : Value} {aN : Cells} {aO : Value} {aP : Cells} {aQ : Value} {au : Nat} {B_b_del2027 : Base} {ao : Nat} (s : List Dem) (ab : List Int) (ac : List Span) (ae : List Int) (ah : List Town) (ai : Int) (aj : Int) (ak : List Flood) (aq : List Bool) (aR : Reads R aH) (aS : Sl aH aI ab) (aT : Reads R aJ) (aU : Sl aJ aK ac) (aV : Reads R aL) (aW : Sl aL aM ae) (aX : Reads R aN) (aY : Sl aN aO ah) (aZ : Reads R aP) (a8 : Sl aP aQ ak) (ba : Has R (cBlk aG [aI, aK, aM, aO, I ai, I aj, aQ, .map (some au)] 86)) (bb : Has R (cBlk am [Pq aG] 72)) (bc : aq.length = 12) (bf : Has R (cBlk ao (encB aq) 74)) {r : (List Dem)} (hM : (zbS s ab ac ae ah ai aj ak aq).Ends r) (w : World) (H : St w w [cOwn (α := Dem) 62 al s, cMem encDm au B_b_del2027 (zaa ab ac ae ah ai aj ak)] R) : Ret Try.prog 55 #[al, .func (.func 56) #[] #[Pq am, Pq ao]] w fun v w' => ∃ (y0 : List Dem) (u0 : Value) (bp : Base), y0 = r /\ v = u0 /\ St w w' [cOwn (α := Dem) 62 u0 y0, cMem encDm au bp (zaa ab ac ae ah ai aj ak)] R := by
 refine ret_of_W Try.func55 rfl rfl rfl ?_
 refine W.seq ?_
 refine W.region rfl ?_
 refine zA (.slice none 0 0) rfl ?_
 refine s_nil ?_
 refine W.seq ?_
 refine W.region rfl ?_
 refine zM al rfl ?_
 refine zM (.func (.func 56) #[] #[Pq am, Pq ao]) rfl ?_
 obtain ⟨bE, bq, hM⟩ := M.e_bind hM
 refine s_call cf76 [al, .func (.func 56) #[] #[Pq am, Pq ao]] rfl (zc6 s ab ac ae ah ai aj ak aq (rdo 0) (H.os 0) (aR.app _) aS (aT.app _) aU (aV.app _) aW (aX.app _) aY (aZ.app _) a8 (ba.app _) (bb.app _) bc (bf.app _) bq _ ((H.pk [1, 0]).gt 1)) ?_
 rintro vq bF ⟨r2, bg, br, hvq, av⟩
 subst br
 subst vq
 try dsimp only at hM
 replace H := H.pk [1, 0] |>.bk av
 clear av
 refine zA (I r2) rfl ?_
 refine s_nil ?_
 refine W.seq ?_
 refine W.seq ?_
 refine W.region rfl ?_
 refine zM (I r2) rfl ?_
 refine zC r2 (-1) (r2 == (-1)) rfl rfl rfl ?_
 refine s_nil ?_
 refine W.cond (r2 == (-1)) rfl (fun aw => ?_) (fun aw => ?_)
 ·replace hM := M.e_t hM aw
  simp only [qy1, qy2, qy3, qy4, qy5, qy6, ne_eq, qy7] at aw
  refine W.seq ?_
  refine W.region rfl ?_
  refine zM al rfl ?_
  refine zA al rfl ?_
  refine s_nil ?_
  refine W.ret ?_
  have ay := M.e_pure hM
  exact ⟨_, resE_tmp rfl, ⟨s, al, bg, ay, rfl, (H.pk [1, 0])⟩⟩
 replace hM := M.e_f hM aw
 simp only [qy1, qy2, qy3, qy4, qy5, qy6, ne_eq, qy7] at aw
 refine W.skip ?_
 refine W.seq ?_
 refine W.seq ?_
 refine W.region rfl ?_
 refine zM (I r2) rfl ?_
 obtain ⟨bt, hM⟩ := M.e_grd hM
 simp only [Bool.and_eq_true, decide_eq_true_eq] at bt
 refine zR r2 1 (r2 + 1) rfl rfl rfl (by omega) ?_
 refine zA (I (r2 + 1)) rfl ?_
 refine s_nil ?_
 refine W.block ?_
 obtain ⟨bu, az, bv⟩ := M.e_bind hM
 obtain ⟨bG, az⟩ := M.e_iter az
 refine W.loop (fun m σ W => ∃ (l : List Dem) (i : Int) (j : Int) (aa : Value) (B_mem : Base) (ρ : Env), σ = upds ρ [(0, aa), (1, .func (.func 56) #[] #[Pq am, Pq ao]), (5, I i), (6, I j)] /\ M.iterN (zbo ab ac ae ah ai aj ak aq) m (l, i, j) = some bu /\ St w W [cMem encDm au B_mem (zaa ab ac ae ah ai aj ak), cOwn (α := Dem) 62 aa l] R) ?_ ?_
 ·exact ⟨_, s, r2, r2 + 1, al, bg, _, upds_of _ _ ⟨rfl, rfl, rfl, rfl, trivial⟩, az, H⟩
 rintro bH σ bI ⟨l, i, j, aa, B_mem, ρ, rfl, bh, H⟩
 obtain ⟨bi, bj, bJ, hM, aA⟩ := M.e_iterN bh
 simp only [zbo] at hM
 clear bh
 refine W.seq ?_
 refine W.seq ?_
 refine W.region rfl ?_
 refine zM (I j) rfl ?_
 refine zM aa rfl ?_
 have bK := ((H.os 1)).len_le
 refine s_val (x_lenS T57.und rfl (H.os 1)) ?_
 refine zC j (l.length : Int) (decide (j < (l.length : Int))) rfl rfl rfl ?_
 refine s_nil ?_
 refine W.cond (decide (j < (l.length : Int))) rfl (fun ax => ?_) (fun ax => ?_)
 ·replace hM := M.e_t hM ax
  simp only [qy1, qy2, qy3, qy4, qy5, qy6, ne_eq, qy7] at ax
  refine W.skip ?_
  refine W.seq ?_
  refine W.block ?_
  refine W.seq ?_
  refine W.region rfl ?_
  refine zM aa rfl ?_
  refine zM (I j) rfl ?_
  obtain ⟨bw, hM⟩ := M.e_grd hM
  simp only [Bool.and_eq_true, decide_eq_true_eq] at bw
  refine s_val (x_ix (a := aa) (b := I j) (v := vat aa 2 (Int.toNat j)) rfl rfl (Sl.ix (α := Dem) T57.und T57.size (H.os 1) (by omega) (by omega))) ?_
  refine s_val (x_ld (p := vat aa 2 (Int.toNat j)) (v := .agg #[I ((l.getD (Int.toNat j) default).spring), I ((l.getD (Int.toNat j) default).town)]) rfl (ld_ag Ag62 Sz62 (At.mono (Dem_atA (H.os 1) (i := j) (by omega) (by omega)) (H.ol 1)))) ?_
  refine t_alloc (cs := [I 0, I 0]) H Al62 rfl ?_
  intro aB bL H
  refine t_sw 0 0 [I ((l.getD (Int.toNat j) default).spring), I ((l.getD (Int.toNat j) default).town)] (.agg #[I ((l.getD (Int.toNat j) default).spring), I ((l.getD (Int.toNat j) default).town)]) H rfl rfl Sz62 rfl rfl rfl rfl ?_
  intro bM H
  refine s_nil ?_
  refine W.seq ?_
  refine W.region rfl ?_
  refine zM (.func (.func 56) #[] #[Pq am, Pq ao]) rfl ?_
  refine s_val (x_ld (p := Pq aB) (v := .agg #[I ((l.getD (Int.toNat j) default).spring), I ((l.getD (Int.toNat j) default).town)]) rfl (ldb_ag (ds := [I ((l.getD (Int.toNat j) default).spring), I ((l.getD (Int.toNat j) default).town)]) Ag62 Sz62 (H.bl 0) rfl rfl)) ?_
  obtain ⟨bN, bx, hM⟩ := M.e_bind hM
  refine s_callv (f := 56) rfl cf56 [.agg #[I ((l.getD (Int.toNat j) default).spring), I ((l.getD (Int.toNat j) default).town)]] rfl (zcY (l.getD (Int.toNat j) default) ab ac ae ah ai aj ak aq (aR.app _) aS (aT.app _) aU (aV.app _) aW (aX.app _) aY (aZ.app _) a8 (ba.app _) (bb.app _) bc (bf.app _) bx _ ((H.pk [1, 0, 2]).gt 2)) ?_
  rintro vq bO ⟨r3, aC, bz, hvq, av⟩
  subst bz
  subst vq
  try dsimp only at hM
  replace H := H.pk [1, 0, 2] |>.bk av
  clear av
  refine s_val (x_not (b := r3) rfl) ?_
  refine s_nil ?_
  refine W.cond (!r3) rfl (fun aD => ?_) (fun aD => ?_)
  ·replace hM := M.e_t hM aD
   refine W.seq ?_
   refine W.region rfl ?_
   refine zM aa rfl ?_
   refine zM (I i) rfl ?_
   refine s_val (x_ld (p := Pq aB) (v := .agg #[I ((l.getD (Int.toNat j) default).spring), I ((l.getD (Int.toNat j) default).town)]) rfl (ldb_ag (ds := [I ((l.getD (Int.toNat j) default).spring), I ((l.getD (Int.toNat j) default).town)]) Ag62 Sz62 (H.bl 1) rfl rfl)) ?_
   obtain ⟨bA, hM⟩ := M.e_grd hM
   simp only [Bool.and_eq_true, decide_eq_true_eq] at bA
   refine s_val (x_ix (a := aa) (b := I i) (v := vat aa 2 (Int.toNat i)) rfl rfl (Sl.ix (α := Dem) T57.und T57.size (H.os 2) (by omega) (by omega))) ?_
   refine t_ost (k := 2) (i := i) (l := l) (l' := l.set (Int.toNat i) (l.getD (Int.toNat j) default)) (val := .agg #[I ((l.getD (Int.toNat j) default).spring), I ((l.getD (Int.toNat j) default).town)]) (L' := [cMem encDm au aC (zaa ab ac ae ah ai aj ak), cBlk aB [I ((l.getD (Int.toNat j) default).spring), I ((l.getD (Int.toNat j) default).town)] 62, cOwn (α := Dem) 62 aa (l.set (Int.toNat i) (l.getD (Int.toNat j) default))]) H rfl Sz62 (by omega) (by omega) (l.getD (Int.toNat j) default) rfl rfl rfl rfl rfl ?_
   intro bP H
   refine s_nil ?_
   refine W.region rfl ?_
   refine zM (I i) rfl ?_
   refine zR i 1 (i + 1) rfl rfl rfl (by omega) ?_
   refine zA (I (i + 1)) rfl ?_
   refine s_nil ?_
   refine W.region rfl ?_
   refine zM (I j) rfl ?_
   refine zR j 1 (j + 1) rfl rfl rfl (by omega) ?_
   refine zA (I (j + 1)) rfl ?_
   refine s_nil ?_
   exact ⟨bi, bj, l.set (Int.toNat i) (l.getD (Int.toNat j) default), i + 1, j + 1, aa, aC, _, upds_of _ _ ⟨rfl, rfl, rfl, rfl, trivial⟩, M.e_inl hM aA, (H.pk [0, 2])⟩
  replace hM := M.e_f hM aD
  refine W.skip ?_
  refine W.region rfl ?_
  refine zM (I j) rfl ?_
  refine zR j 1 (j + 1) rfl rfl rfl (by omega) ?_
  refine zA (I (j + 1)) rfl ?_
  refine s_nil ?_
  exact ⟨bi, bj, l, i, j + 1, aa, aC, _, upds_of _ _ ⟨rfl, rfl, rfl, rfl, trivial⟩, M.e_inl hM aA, (H.pk [0, 2])⟩
 replace hM := M.e_f hM ax
 simp only [qy1, qy2, qy3, qy4, qy5, qy6, ne_eq, qy7] at ax
 refine W.exit ?_
 have bB := M.e_inr hM aA
 subst bB
 replace hM := bv
 try dsimp only at hM
 refine W.seq ?_
 refine W.region rfl ?_
 refine zM aa rfl ?_
 refine zM (I i) rfl ?_
 obtain ⟨bC, hM⟩ := M.e_grd hM
 simp only [Bool.and_eq_true, decide_eq_true_eq] at bC
 obtain ⟨bm, bn, bo⟩ := sl_lo T57.und T57.size (H.os 1) (i := i) (by omega) (by omega)
 replace bo : Sl _ bm (l.drop (Int.toNat i)) := bo
 refine s_val (x_sl (v := aa) (u := bm) (lo' := some (I i)) (hi' := none) (mx' := none) rfl rfl rfl rfl (bn _)) ?_
 refine t_clrT (k := 1) (i := i) T57 (by intro u_ aE; first | exact List.all_eq_true.1 (show List.all _ (fun x => x.oneCell') = true from rfl) u_ aE | (simp at aE; rcases aE with rfl | rfl <;> rfl)) H rfl (by omega) (by omega) bn rfl ?_
 intro aF bQ bD bR bS H
 replace H := H.nf
 refine s_nil ?_
 refine W.seq ?_
 refine W.region rfl ?_
 refine zM aa rfl ?_
 refine zM (I i) rfl ?_
 refine s_val (x_sl (v := aa) (u := aF) (lo' := none) (hi' := some (I i)) (mx' := none) rfl rfl rfl rfl (bD _)) ?_
 refine zA aF rfl ?_
 refine s_nil ?_
 refine W.ret ?_
 have ay := M.e_pure hM
 exact ⟨_, resE_tmp rfl, ⟨(l.take (Int.toNat i)), aF, B_mem, ay, rfl, (H.pk [1, 0])⟩⟩

def zbL (aa : List Int) (ab : List Span) (ac : List Int) (ae : List Town) (ak : Int) (al : Int) (ah : List Flood) (watches : List Int) : M ((List Dem) × Int) :=
  M.bind (zap aa ab ac ae ak al ah watches) fun x_ => match x_ with
  | (.inl (r1, r2)) => (
  bif r2 != 0 then (
  M.pure (([]), r2))
  else (
  M.fail))
  | (.inr (ai, aj, am, ao)) => (
  bif ao != 0 then (
  M.fail)
  else (
  M.bind (zah aa ab ac ae ai aj ah) fun r3 =>
  M.bind (zbS r3 aa ab ac ae ai aj ah am) fun l_s =>
  M.pure (l_s, 0)))
theorem zdG {R : List Chunk} {aS : Cells} {ac : Value} {aT : Cells} {ae : Value} {aU : Cells} {ah : Value} {aV : Cells} {ai : Value} {aW : Cells} {aj : Value} {aX : Cells} {aA : Value} (au : List Int) (av : List Span) (aw : List Int) (ax : List Town) (ak : Int) (al : Int) (ay : List Flood) (watches : List Int) (aF : Reads R aS) (aG : Sl aS ac au) (aH : Reads R aT) (aI : Sl aT ae av) (aJ : Reads R aU) (aK : Sl aU ah aw) (aL : Reads R aV) (aM : Sl aV ai ax) (aN : Reads R aW) (aO : Sl aW aj ay) (ba : Reads R aX) (bb : Sl aX aA watches) {r : ((List Dem) × Int)} (hM : (zbL au av aw ax ak al ay watches).Ends r) (w : World) (H : St w w [] R) : Ret Try.prog 25 #[.agg #[ac, ae, ah, ai, I ak, I al, aj], aA] w fun v w' => ∃ (y0 : List Dem) (y1 : Int) (u0 : Value), (y0, y1) = r /\ v = .tuple #[u0, I y1] /\ St w w' [cOwn (α := Dem) 62 u0 y0] R := by
 refine ret_of_W Try.func25 rfl rfl rfl ?_
 refine W.seq ?_
 refine W.region rfl ?_
 refine t_box (v := .agg #[ac, ae, ah, ai, I ak, I al, aj]) (cs := [ac, ae, ah, ai, I ak, I al, aj]) H rfl rfl ?_
 intro aP bq H
 refine zA (.slice none 0 0) rfl ?_
 refine zA (I 0) rfl ?_
 refine s_nil ?_
 refine W.seq ?_
 refine W.region rfl ?_
 refine s_val (x_ld (p := Pq aP) (v := .agg #[ac, ae, ah, ai, I ak, I al, aj]) rfl (ldb_ag (ds := [ac, ae, ah, ai, I ak, I al, aj]) Ag30 Sz30 (H.bl 0) rfl rfl)) ?_
 refine zM aA rfl ?_
 obtain ⟨br, bc, hM⟩ := M.e_bind hM
 refine s_call cf31 [.agg #[ac, ae, ah, ai, I ak, I al, aj], aA] rfl (zb1 au av aw ax ak al ay watches (aF.app _) aG (aH.app _) aI (aJ.app _) aK (aL.app _) aM (aN.app _) aO (ba.app _) bb bc _ (H.gt 1)) ?_
 rintro vq bt (⟨r1, r2, bf, hvq, aa, bg⟩ | ⟨aB, aC, ao, am, ab, aY, bh, bi, hvq, aa, aZ⟩)
 ·subst bf
  subst vq
  try dsimp only at hM
  replace H := H.bk aa
  clear aa
  refine zM (.tuple #[.pointer none, .agg (encB r1).toArray, I r2]) rfl ?_
  refine zX [.pointer none, .agg (encB r1).toArray, I r2] (.pointer none) rfl rfl ?_
  refine zX [.pointer none, .agg (encB r1).toArray, I r2] (.agg (encB r1).toArray) rfl rfl ?_
  refine zX [.pointer none, .agg (encB r1).toArray, I r2] (I r2) rfl rfl ?_
  refine t_alloc (cs := [.pointer none]) H Al72 rfl ?_
  intro az bu H
  refine t_alloc (cs := encB (List.replicate 12 false)) H Al74 rfl ?_
  intro aq bv H
  have aQ : (List.replicate 12 false).length = 12 := by simp
  refine t_sw 1 0 [.pointer none] (.pointer none) H rfl rfl Sz72 rfl rfl rfl rfl ?_
  intro bw H
  refine t_stArrA (k := 0) (b := aq) (l := List.replicate 12 false) (l' := r1) (L' := [cBlk aq (encB r1) 74, cBlk az [.pointer none] 72, cBlk aP [ac, ae, ah, ai, I ak, I al, aj] 30]) H rfl rfl rfl Sz74 aQ bg rfl ?_
  intro bx H
  refine zA (I r2) rfl ?_
  refine s_nil ?_
  refine W.seq ?_
  refine W.seq ?_
  refine W.region rfl ?_
  refine zM (I r2) rfl ?_
  refine zC r2 0 (r2 != 0) rfl rfl rfl ?_
  refine s_nil ?_
  refine W.cond (r2 != 0) rfl (fun aD => ?_) (fun aD => ?_)
  ·replace hM := M.e_t hM aD
   simp only [qy1, qy2, qy3, qy4, qy5, qy6, ne_eq, qy7] at aD
   refine W.seq ?_
   refine W.region rfl ?_
   refine zM (I r2) rfl ?_
   refine zA (.slice none 0 0) rfl ?_
   refine zA (I r2) rfl ?_
   refine s_nil ?_
   replace H := H.pk []
   refine W.ret ?_
   have aR := M.e_pure hM
   replace H := H.nilOwn (α := Dem) 62
   exact ⟨_, resE_tmp2 rfl, ⟨([]), r2, (.slice none 0 0), aR, rfl, H⟩⟩
  replace hM := M.e_f hM aD
  exact (M.e_fail hM).elim
 subst bi
 subst vq
 try dsimp only at hM
 replace H := H.bk aa
 clear aa
 refine zM (.tuple #[Pq ab, .agg (encB ao).toArray, I am]) rfl ?_
 refine zX [Pq ab, .agg (encB ao).toArray, I am] (Pq ab) rfl rfl ?_
 refine zX [Pq ab, .agg (encB ao).toArray, I am] (.agg (encB ao).toArray) rfl rfl ?_
 refine zX [Pq ab, .agg (encB ao).toArray, I am] (I am) rfl rfl ?_
 refine t_alloc (cs := [.pointer none]) H Al72 rfl ?_
 intro az bz H
 refine t_alloc (cs := encB (List.replicate 12 false)) H Al74 rfl ?_
 intro aq bA H
 have aQ : (List.replicate 12 false).length = 12 := by simp
 refine t_sw 1 0 [Pq ab] (Pq ab) H rfl rfl Sz72 rfl rfl rfl rfl ?_
 intro bB H
 refine t_stArrA (k := 0) (b := aq) (l := List.replicate 12 false) (l' := ao) (L' := [cBlk aq (encB ao) 74, cBlk az [Pq ab] 72, cBlk ab [ac, ae, ah, ai, I aB, I aC, aj, .map (some aY)] 86, cMem encDm aY bh (zaa au av aw ax aB aC ay), cBlk aP [ac, ae, ah, ai, I ak, I al, aj] 30]) H rfl rfl rfl Sz74 aQ aZ rfl ?_
 intro bC H
 refine zA (I am) rfl ?_
 refine s_nil ?_
 refine W.seq ?_
 refine W.seq ?_
 refine W.region rfl ?_
 refine zM (I am) rfl ?_
 refine zC am 0 (am != 0) rfl rfl rfl ?_
 refine s_nil ?_
 refine W.cond (am != 0) rfl (fun aE => ?_) (fun aE => ?_)
 ·replace hM := M.e_t hM aE
  exact (M.e_fail hM).elim
 replace hM := M.e_f hM aE
 simp only [qy1, qy2, qy3, qy4, qy5, qy6, ne_eq, qy7] at aE
 refine W.skip ?_
 refine W.seq ?_
 refine W.region rfl ?_
 refine s_val (x_ld (p := Pq az) (v := Pq ab) rfl (ldb_sc Sc72 (H.bl 1) rfl)) ?_
 obtain ⟨bD, bj, hM⟩ := M.e_bind hM
 refine s_call cf51 [Pq ab] rfl (zbP au av aw ax aB aC ay (aF.app _) aG (aH.app _) aI (aJ.app _) aK (aL.app _) aM (aN.app _) aO (Has.here (k := 2) rfl) bj _ (H.gt 5)) ?_
 rintro vq bE ⟨r3, bm, bn, hvq, aa⟩
 subst bn
 subst vq
 try dsimp only at hM
 replace H := H.bk aa
 clear aa
 refine s_val (x_mf (fs := []) (cs := [Pq az, Pq aq]) rfl rfl) ?_
 obtain ⟨bF, bo, hM⟩ := M.e_bind hM
 refine s_call cf55 [bm, .func (.func 56) #[] #[Pq az, Pq aq]] rfl (zdu r3 au av aw ax aB aC ay ao (aF.app _) aG (aH.app _) aI (aJ.app _) aK (aL.app _) aM (aN.app _) aO (Has.here (k := 2) rfl) (Has.here (k := 1) rfl) aZ (Has.here (k := 0) rfl) bo _ ((H.pk [0, 4, 1, 2, 3, 5]).gt 4)) ?_
 rintro vq bG ⟨l_s, a8, bH, bp, hvq, aa⟩
 subst bp
 subst vq
 try dsimp only at hM
 replace H := H.pk [0, 4, 1, 2, 3, 5] |>.bk aa
 clear aa
 refine zA a8 rfl ?_
 refine zA (I 0) rfl ?_
 refine s_nil ?_
 replace H := H.pk [0]
 refine W.ret ?_
 have aR := M.e_pure hM
 exact ⟨_, resE_tmp2 rfl, ⟨l_s, 0, a8, aR, rfl, H⟩⟩

end Go.Proofs.Ytbaehghammbjdaa
end
namespace Go.Proofs.Ytbaehghammbjdaa
open Go Go.Nm
variable {dn : List Int} {tr : List Span} {sp : List Int} {tw : List Town} {dl dh : Int} {fl : List Flood} {W : List Int} {D : List Dem}
theorem contains_ints (l : List Int) (f : Int -> M Bool) (p : Int -> Bool) (h : ∀ t ∈ l, (f t).Ends (p t)) : (zaQ l f).Ends (l.any p) := by
  refine M.Out.ends ?_
  unfold zaQ zbM
  refine M.o_bind (P := fun r => decide (0 <= r) = l.any p) (M.o_bind (P := fun r => match r with | .inl r => (0 : Int) <= r /\ l.any p = true | .inr (_ : Unit) => l.any p = false) ?_ ?_) (fun r h => M.o_pure h)
  · refine M.o_for l.length (fun i (k : Nat) => k = i /\ ∀ j, j < i -> p (l.getD j 0) = false) ?_ ?_ ⟨rfl, fun j hj => by omega⟩
    · rintro _ i hi ⟨rfl, hp⟩
      simp only [zaK]
      have hm : l.getD i 0 ∈ l := by rw [getD_el l hi]; exact List.getElem_mem hi
      refine M.o_t (decide_eq_true (by omega)) (M.o_grdD (by omega) (M.o_bindE (h _ hm) (M.o_if (fun hb => M.o_pure ⟨by omega, ?_⟩) (fun hb => M.o_pure ⟨rfl, fun j hj => ?_⟩))))
      · rw [List.any_eq_true]
        exact ⟨_, hm, hb⟩
      · rcases Nat.lt_or_eq_of_le (Nat.le_of_lt_succ hj) with e | e
        · exact hp j e
        · subst e
          exact hb
    · rintro _ ⟨rfl, hp⟩
      simp only [zaK]
      refine M.o_f (decide_eq_false (by omega)) (M.o_pure ?_)
      rw [List.any_eq_false]
      intro x hx
      obtain ⟨i, hi, e⟩ := mem_getD hx 0
      rw [← e, hp i hi]
      exact Bool.false_ne_true
  · rintro (r | r) h
    · exact M.o_pure (by rw [h.2, decide_eq_true h.1])
    · exact M.o_pure (by dsimp only at h; rw [h]; rfl)
theorem contains_dem (l : List Dem) (f : Dem -> M Bool) (p : Dem -> Bool) (h : ∀ t ∈ l, (f t).Ends (p t)) : (zb3 l f).Ends (l.any p) := by
  refine M.Out.ends ?_
  unfold zb3 zcC
  refine M.o_bind (P := fun r => decide (0 <= r) = l.any p) (M.o_bind (P := fun r => match r with | .inl r => (0 : Int) <= r /\ l.any p = true | .inr (_ : Unit) => l.any p = false) ?_ ?_) (fun r h => M.o_pure h)
  · refine M.o_for l.length (fun i (k : Nat) => k = i /\ ∀ j, j < i -> p (l.getD j default) = false) ?_ ?_ ⟨rfl, fun j hj => by omega⟩
    · rintro _ i hi ⟨rfl, hp⟩
      simp only [zbk]
      have hm : l.getD i default ∈ l := by rw [getD_el l hi]; exact List.getElem_mem hi
      refine M.o_t (decide_eq_true (by omega)) (M.o_grdD (by omega) (M.o_bindE (h _ hm) (M.o_if (fun hb => M.o_pure ⟨by omega, ?_⟩) (fun hb => M.o_pure ⟨rfl, fun j hj => ?_⟩))))
      · rw [List.any_eq_true]
        exact ⟨_, hm, hb⟩
      · rcases Nat.lt_or_eq_of_le (Nat.le_of_lt_succ hj) with e | e
        · exact hp j e
        · subst e
          exact hb
    · rintro _ ⟨rfl, hp⟩
      simp only [zbk]
      refine M.o_f (decide_eq_false (by omega)) (M.o_pure ?_)
      rw [List.any_eq_false]
      intro x hx
      obtain ⟨i, hi, e⟩ := mem_getD hx default
      rw [← e, hp i hi]
      exact Bool.false_ne_true
  · rintro (r | r) h
    · exact M.o_pure (by rw [h.2, decide_eq_true h.1])
    · exact M.o_pure (by dsimp only at h; rw [h]; rfl)
theorem is_ends (hD : (zah dn tr sp tw dl dh fl).Ends D) (d : Dem) : (zbI dn tr sp tw dl dh fl d).Ends (decide (d ∈ D)) := by
  unfold zbI
  refine M.i_bind hD (M.i_bind (contains_dem D _ (fun x => decide (x = d)) fun x _ => ?_) ?_)
  · unfold zce
    exact M.i_pure
  · have e : (D.any fun x => decide (x = d)) = decide (d ∈ D) := by
      rw [Bool.eq_iff_iff, List.any_eq_true, decide_eq_true_eq]
      exact ⟨fun ⟨x, h1, h2⟩ => of_decide_eq_true h2 ▸ h1, fun h => ⟨d, h, decide_eq_true rfl⟩⟩
    rw [e]
    exact M.i_pure
/-- Whether a demand is met by posts. -/
def qm (dn : List Int) (tr : List Span) (tw : List Town) (dh : Int) (ar : List Bool) (d : Dem) : Bool := (Wn.Sd dn tr tw dh d).any fun s => ar.getD (Int.toNat s) false
theorem late1_ends (R : Wn.Rv dn tr sp tw dl dh fl) {d : Dem} (hd : Wn.OkD dn tw d) (ar : List Bool) : (zbs d dn tr sp tw dl dh fl ar).Ends (qm dn tr tw dh ar d) := by
  have h12 := R.n12
  unfold zbs
  refine M.i_bind (stretch_ends R hd) (M.i_bind (contains_ints _ _ (fun s => ar.getD (Int.toNat s) false) fun s hs => ?_) M.i_pure)
  have := stretch_in R hd s hs
  unfold zcf
  exact M.i_grd (gA2 (by omega) (by omega)) M.i_pure
theorem delete_out (R : Wn.Rv dn tr sp tw dl dh fl) (hl : D.length <= 64) (ho : ∀ d ∈ D, Wn.OkD dn tw d) (ar : List Bool) :
    (zbS D dn tr sp tw dl dh fl ar).Out (fun l => l = [] ↔ ∀ d ∈ D, qm dn tr tw dh ar d = true) := by
  have hin : ∀ i, i < D.length -> D.getD i default ∈ D := fun i hi => by rw [getD_el D hi]; exact List.getElem_mem hi
  unfold zbS
  refine M.o_bind (P := fun (r : Int) => (r = -1 /\ ∀ i, i < D.length -> qm dn tr tw dh ar (D.getD i default) = false) ∨ ∃ k : Nat, r = k /\ k < D.length /\ qm dn tr tw dh ar (D.getD k default) = true /\ ∀ j, j < k -> qm dn tr tw dh ar (D.getD j default) = false) ?_ ?_
  · unfold zcy
    refine M.o_bind (P := fun r => match r with | .inl r => ∃ k : Nat, r = (k : Int) /\ k < D.length /\ qm dn tr tw dh ar (D.getD k default) = true /\ ∀ j, j < k -> qm dn tr tw dh ar (D.getD j default) = false | .inr (_ : Unit) => ∀ i, i < D.length -> qm dn tr tw dh ar (D.getD i default) = false) ?_ ?_
    · refine M.o_for D.length (fun i (k : Nat) => k = i /\ ∀ j, j < i -> qm dn tr tw dh ar (D.getD j default) = false) ?_ ?_ ⟨rfl, fun j hj => by omega⟩
      · rintro _ i hi ⟨rfl, hp⟩
        simp only [zbr]
        refine M.o_t (decide_eq_true (by omega)) (M.o_grdD (by omega) (M.o_bindE (late1_ends R (ho _ (hin i hi)) ar) (M.o_if (fun hb => M.o_pure ⟨i, rfl, hi, hb, hp⟩) (fun hb => M.o_pure ⟨rfl, fun j hj => ?_⟩))))
        rcases Nat.lt_or_eq_of_le (Nat.le_of_lt_succ hj) with e | e
        · exact hp j e
        · subst e
          exact hb
      · rintro _ ⟨rfl, hp⟩
        simp only [zbr]
        exact M.o_f (decide_eq_false (by omega)) (M.o_pure hp)
    · rintro (r | r) h
      · exact M.o_pure (.inr h)
      · exact M.o_pure (.inl ⟨rfl, h⟩)
  · rintro r (⟨rfl, h⟩ | ⟨k, rfl, hk, h1, h2⟩)
    · refine M.o_t rfl (M.o_pure ⟨fun e => by rw [e]; intro d hd; (cases hd), fun hq => ?_⟩)
      cases D with
      | nil => rfl
      | cons d D =>
        have a := h 0 (by simp)
        have b := hq d (by simp)
        rw [show (d :: D).getD 0 default = d from rfl, b] at a
        cases a
    · refine M.o_f (beq_eq_false_iff_ne.2 (by omega)) (M.o_grd (gA2 (by omega) (by omega)) ?_)
      refine M.o_bind (P := fun y => (0 <= y.2.1 /\ y.2.1 <= (y.2.2.length : Int)) /\ (y.2.1 = 0 ↔ ∀ p, p < D.length -> qm dn tr tw dh ar (D.getD p default) = true)) ?_ ?_
      · refine M.o_for (D.length - (k + 1)) (fun m (t : List Dem × Int × Int) => t.2.2 = (k : Int) + 1 + m /\ t.1.length = D.length /\ (0 <= t.2.1 /\ t.2.1 < t.2.2) /\ (∀ p : Nat, t.2.2 <= p -> t.1.getD p default = D.getD p default) /\ (t.2.1 = 0 ↔ ∀ p : Nat, (p : Int) < t.2.2 -> qm dn tr tw dh ar (D.getD p default) = true)) ?_ ?_ ⟨by dsimp only; omega, rfl, ⟨by dsimp only; omega, by dsimp only; omega⟩, fun p _ => rfl, ?_⟩
        · rintro m ⟨l, i, j⟩ hm ⟨e1, e2, ⟨e3, e4⟩, e5, e6⟩
          dsimp only at e1 e2 e3 e4 e5 e6
          obtain ⟨q, rfl⟩ : ∃ q : Nat, j = q := ⟨Int.toNat j, by omega⟩
          have hq := e5 q (Int.le_refl _)
          simp only [zbo, Int.toNat_natCast]
          rw [hq]
          refine M.o_t (decide_eq_true (by omega)) (M.o_grd (gA2 (by omega) (by omega)) (M.o_bindE (late1_ends R (ho _ (hin q (by omega))) ar) (M.o_if (fun hb => ?_) (fun hb => ?_))))
          · refine M.o_grd (gA2 (by omega) (by omega)) (M.o_pure ⟨by dsimp only; omega, by dsimp only; rw [List.length_set, e2], ⟨by dsimp only; omega, by dsimp only; omega⟩, fun p hp => ?_, ?_⟩)
            · dsimp only at hp ⊢
              rw [gset _ _ _ _ _ (by omega), if_neg (by omega)]
              exact e5 p (by omega)
            · dsimp only
              refine ⟨fun h => by omega, fun h => ?_⟩
              have := h q (by omega)
              rw [this] at hb
              cases hb
          · refine M.o_pure ⟨by dsimp only; omega, e2, ⟨e3, by dsimp only; omega⟩, fun p hp => e5 p (by dsimp only at hp; omega), ?_⟩
            dsimp only
            rw [e6]
            refine ⟨fun h p hp => ?_, fun h p hp => h p (by omega)⟩
            by_cases c : p = q
            · subst c
              simpa using hb
            · exact h p (by omega)
        · rintro ⟨l, i, j⟩ ⟨e1, e2, ⟨e3, e4⟩, e5, e6⟩
          dsimp only at e1 e2 e3 e4 e5 e6
          simp only [zbo]
          refine M.o_f (decide_eq_false (by omega)) (M.o_pure ⟨⟨e3, by dsimp only; omega⟩, ?_⟩)
          dsimp only
          rw [e6]
          exact ⟨fun h p hp => h p (by omega), fun h p hp => h p (by omega)⟩
        · dsimp only
          refine ⟨fun h p hp => ?_, fun h => ?_⟩
          · obtain rfl : p = k := by omega
            exact h1
          · rcases Nat.eq_zero_or_pos k with g | g
            · omega
            · have a := h 0 (by omega)
              rw [h2 0 g] at a
              cases a
      · rintro ⟨l1, i, l⟩ ⟨⟨a1, a2⟩, a3⟩
        dsimp only at a1 a2 a3 ⊢
        refine M.o_grd (gA2 a1 a2) (M.o_pure ?_)
        rw [← List.length_eq_zero_iff, List.length_take]
        constructor
        · intro h d hd
          obtain ⟨p, hp, rfl⟩ := mem_getD hd default
          exact a3.1 (by omega) p hp
        · intro h
          have := a3.2 fun p hp => h _ (hin p hp)
          omega
theorem late_out (R : Wn.Rv dn tr sp tw dl dh fl) (hD : (zah dn tr sp tw dl dh fl).Ends D) (hl : D.length <= 64) (ho : ∀ d ∈ D, Wn.OkD dn tw d) (hu : W.Pairwise (· < ·)) (hb : ∀ x ∈ W, 0 <= x /\ x < (dn.length : Int)) :
    (zbL dn tr sp tw dl dh fl W).Out (fun y => y.2 = 0 /\ (y.1 = [] ↔ ∀ d ∈ D, ∃ s ∈ Wn.Sd dn tr tw dh d, s ∈ W)) := by
  unfold zbL
  refine M.o_bind (posted_iff R hu hb) ?_
  rintro _ ⟨ar, rfl, h⟩
  dsimp only
  refine M.o_f rfl (M.o_bindE hD (M.o_bind (delete_out R hl ho ar) fun l hq => M.o_pure ⟨rfl, ?_⟩))
  dsimp only
  rw [hq]
  refine forall_congr' fun d => forall_congr' fun hd => ?_
  unfold qm
  rw [List.any_eq_true]
  refine exists_congr fun s => and_congr_right fun hs => ?_
  rw [h]
  rw [Int.toNat_of_nonneg (stretch_in R (ho d hd) s hs).1]
theorem copy_town {l : List Town} (h : l.length <= 1000) : (zcu l).Ends l := M.i_grd (decide_eq_true (by simp; omega)) M.i_pure
theorem demandsx_ends (R : Wn.Rv dn tr sp tw dl dh fl) (hD : (zah dn tr sp tw dl dh fl).Ends D) : (zcc dn tr sp tw dl dh fl).Ends (D, 0) := by
  unfold zcc
  refine M.i_bind (opened_ends R) ?_
  dsimp only
  exact M.i_f rfl (M.i_bind hD M.i_pure)
theorem stretchx_ends (R : Wn.Rv dn tr sp tw dl dh fl) (hD : (zah dn tr sp tw dl dh fl).Ends D) {d : Dem} (hd : d ∈ D) (ho : Wn.OkD dn tw d) : (zbc dn tr sp tw dl dh fl d).Ends (Wn.Sd dn tr tw dh d, 0) := by
  have h := is_ends hD d
  rw [decide_eq_true hd] at h
  have hsh := Wn.P_short R.nx (.inr ho.1)
  have h12 := R.n12
  have hle : (Wn.Sd dn tr tw dh d).length <= (Wn.P dn d.spring).length := List.length_filter_le _ _
  unfold zbc
  refine M.i_bind (opened_ends R) ?_
  dsimp only
  exact M.i_f rfl (M.i_bind h (M.i_f rfl (M.i_bind (stretch_ends R ho) (M.i_grd (decide_eq_true (by omega)) M.i_pure))))
theorem dem_ok (R : Wn.Rv dn tr sp tw dl dh fl) (hm : ∀ d, d ∈ D ↔ d.spring ∈ sp /\ (0 <= d.town /\ d.town < (tw.length : Int)) /\ Wn.stn tw d ∈ Wn.P dn d.spring) : ∀ d ∈ D, Wn.OkD dn tw d := fun d hd => by
  have := (hm d).1 hd
  exact ⟨R.si _ this.1, this.2.1⟩
/-- No demand is beyond what can be met. -/
def Met (dn : List Int) (tr : List Span) (sp : List Int) (tw : List Town) (dl dh : Int) (fl : List Flood) : Prop := ∀ D, (zah dn tr sp tw dl dh fl).Ends D -> ∀ d ∈ D, Wn.Sd dn tr tw dh d ≠ []
theorem kept_out (R : Wn.Rv dn tr sp tw dl dh fl) : (zbZ dn tr sp tw dl dh fl).Out (fun y => ∃ tw', y = (dl, dh, true, tw') /\ Wn.Rv dn tr sp tw' dl dh fl /\ Met dn tr sp tw' dl dh fl) := by
  unfold zbZ
  refine M.o_bind (P := fun x => match x with | .inl _ => False | .inr z => Wn.Rv dn tr sp z.2 dl dh fl /\ Met dn tr sp z.2 dl dh fl) ?_ ?_
  · refine M.o_iter (fun (w : Nat) (t : List Town × Bool) => w = t.1.length + (if t.2 = true then 1 else 0) /\ Wn.Rv dn tr sp t.1 dl dh fl /\ (t.2 = false -> Met dn tr sp t.1 dl dh fl)) ?_ _ _ ⟨rfl, R, fun h => (by cases h)⟩
    rintro _ ⟨l, again⟩ ⟨rfl, R', hM⟩
    dsimp only at R' hM
    simp only [zbK]
    refine M.o_if (fun hb => ?_) (fun hb => M.o_pure ⟨R', hM hb⟩)
    subst hb
    obtain ⟨D, hD, hl, hm⟩ := demands_is R'
    have ho := dem_ok R' hm
    have t8 := R'.t8
    refine M.o_bindE (demandsx_ends R' hD) ?_
    dsimp only
    refine M.o_f rfl (M.o_bind (P := fun x => match x with | .inl _ => False | .inr z => (z.2.1 = false /\ z.2.2 = l /\ ∀ i, i < D.length -> Wn.Sd dn tr l dh (D.getD i default) ≠ []) ∨ (z.2.1 = true /\ Wn.Rv dn tr sp z.2.2 dl dh fl /\ z.2.2.length < l.length)) ?_ ?_)
    · refine M.o_iter (fun (w : Nat) (t : List Town × Bool × Nat) => (t.2.1 = false /\ t.1 = l /\ t.2.2 <= D.length /\ w = D.length - t.2.2 + 1 /\ ∀ i, i < t.2.2 -> Wn.Sd dn tr l dh (D.getD i default) ≠ []) ∨ (w = 0 /\ t.2.1 = true /\ Wn.Rv dn tr sp t.1 dl dh fl /\ t.1.length < l.length)) ?_ _ _ (.inl ⟨rfl, rfl, Nat.zero_le _, rfl, fun i hi => by dsimp only at hi; omega⟩)
      rintro w ⟨l2, ag, i⟩ h
      dsimp only at h
      rcases h with ⟨rfl, rfl, h1, rfl, h2⟩ | ⟨rfl, rfl, h1, h2⟩
      · skip
        simp only [zbz]
        by_cases hi : i < D.length
        · have hd : D.getD i default ∈ D := by rw [getD_el D hi]; exact List.getElem_mem hi
          have hok := ho _ hd
          have hto := hok.2
          refine M.o_t (by rw [decide_eq_true (by omega)]; rfl) (M.o_grdD (by omega) (M.o_bindE (stretchx_ends R' hD hd hok) ?_))
          dsimp only
          refine M.o_f (by rw [decide_eq_false (by omega), decide_eq_false (by omega)]; rfl) (M.o_if (fun hz => ?_) (fun hz => ?_))
          · obtain ⟨q, hq⟩ : ∃ q : Nat, (D.getD i default).town = q := ⟨Int.toNat (D.getD i default).town, by omega⟩
            rw [hq] at hto ⊢
            have e1 : Int.toNat ((q : Int) + 1) = q + 1 := by omega
            rw [Int.toNat_natCast, e1]
            have hlen : (l2.take q ++ l2.drop (q + 1)).length + 1 = l2.length := by rw [List.length_append, List.length_take, List.length_drop]; omega
            refine M.o_grd (gA2 (by omega) (by omega)) (M.o_bindE (copy_town (by rw [List.length_take]; omega)) (M.o_grdD (by rw [List.length_append] at hlen; omega) (M.o_pure ⟨0, by omega, .inr ⟨rfl, rfl, ?_, by dsimp only; omega⟩⟩)))
            refine ⟨R'.n1, R'.n12, R'.nx, R'.tl, R'.hr, R'.s1, R'.s8, R'.sr, R'.si, by dsimp only; omega, fun t ht => ?_, R'.d0, R'.d1, R'.d2, R'.f20, R'.fok⟩
            rcases List.mem_append.1 ht with ht | ht
            · exact R'.tok t (List.mem_of_mem_take ht)
            · exact R'.tok t (List.mem_of_mem_drop ht)
          · have hz := beq_eq_false_iff_ne.1 hz
            refine M.o_pure ⟨D.length - (i + 1) + 1, by omega, .inl ⟨rfl, rfl, hi, rfl, fun k hk => ?_⟩⟩
            rcases Nat.lt_or_eq_of_le (Nat.le_of_lt_succ hk) with g | g
            · exact h2 k g
            · subst g
              intro h
              rw [h] at hz
              exact hz rfl
        · refine M.o_f (by rw [decide_eq_false (by omega)]; rfl) (M.o_pure (.inl ⟨rfl, rfl, fun k hk => h2 k (by omega)⟩))
      · simp only [zbz]
        exact M.o_f (by simp) (M.o_pure (.inr ⟨rfl, h1, h2⟩))
    · rintro (x | ⟨l5, ag, l6⟩) h
      · exact h.elim
      · dsimp only at h ⊢
        rcases h with ⟨rfl, rfl, h⟩ | ⟨rfl, h1, h2⟩
        · refine M.o_pure ⟨l6.length, by simp, by simp, R', fun _ D' hD' d hd => ?_⟩
          rw [hD'.det hD] at hd
          obtain ⟨i, hi, rfl⟩ := mem_getD hd default
          exact h i hi
        · exact M.o_pure ⟨l6.length + 1, by simp; omega, by simp, h1, fun h => (by cases h)⟩
  · rintro (x | ⟨a, b⟩) h
    · exact h.elim
    · exact M.o_pure ⟨b, rfl, h.1, h.2⟩
end Go.Proofs.Ytbaehghammbjdaa
namespace Go.Nm
namespace Wn
/-- A report of a flood. -/
structure Rp (ws : List Int) (r : Int × Int × Bool) : Prop where
  w : r.1 = -1 ∨ r.1 ∈ ws
  s : 0 <= r.2.1 /\ r.2.1 <= 2000
end Wn
end Go.Nm
namespace Go.Proofs.Ytbaehghammbjdaa
open Go Go.Nm
variable {dn : List Int} {tr : List Span} {sp : List Int} {tw : List Town} {dl dh : Int} {fl : List Flood} {ws : List Int}
theorem contains_town (l : List Town) (f : Town -> M Bool) (h : ∀ t ∈ l, (f t).Out (fun _ => True)) : (zaq l f).Out (fun _ => True) := by
  unfold zaq zbT
  refine M.o_bind (P := fun _ => True) (M.o_bind (P := fun _ => True) ?_ ?_) (fun _ _ => M.o_pure trivial)
  · refine M.o_for l.length (fun i (k : Nat) => k = i) ?_ ?_ rfl
    · rintro _ i hi rfl
      simp only [zaB]
      refine M.o_t (decide_eq_true (by omega)) (M.o_grdD (by omega) (M.o_bind (h _ ?_) fun r _ => M.o_if (fun _ => M.o_pure trivial) (fun _ => M.o_pure rfl)))
      rw [getD_el l hi]
      exact List.getElem_mem hi
    · rintro _ rfl
      simp only [zaB]
      exact M.o_f (decide_eq_false (by omega)) (M.o_pure trivial)
  · rintro (x | x) _
    · exact M.o_pure trivial
    · exact M.o_pure trivial
/-- Watches, and what is reported of each flood. -/
structure Jd (dn : List Int) (tr : List Span) (sp : List Int) (tw : List Town) (dl dh : Int) (fl : List Flood) (ws : List Int) (ar : List Bool) (rp : Nat -> Int × Int × Bool) (ix : Int -> Int) : Prop where
  R : Wn.Rv dn tr sp tw dl dh fl
  up : ws.Pairwise (· < ·)
  bd : ∀ x ∈ ws, 0 <= x /\ x < (dn.length : Int)
  post : (zap dn tr sp tw dl dh fl ws).Ends (.inr (dl, dh, ar, 0))
  rep : ∀ i, i < fl.length -> (zan dn tr sp tw dl dh fl (fl.getD i default) ar).Ends (rp i)
  ok : ∀ i, i < fl.length -> Wn.Rp ws (rp i)
  ixe : ∀ v, (zbh ws v).Ends (ix v)
  ix1 : ∀ v, (ix v = -1 /\ v ∉ ws) ∨ ∃ k : Nat, ix v = k /\ k < ws.length /\ ws.getD k 0 = v
variable {ar : List Bool} {rp : Nat -> Int × Int × Bool} {ix : Int -> Int}
end Go.Proofs.Ytbaehghammbjdaa
namespace Go.Nm
structure SOk (c u x : Int) : Prop where
  u0 : 0 <= u
  u1 : u <= c
  x0 : 0 <= x
  x1 : x < 251
theorem SOk.mono {c d u x : Int} (h : SOk c u x) (hd : c <= d) : SOk d u x := ⟨h.u0, Int.le_trans h.u1 hd, h.x0, h.x1⟩
/-- What a stream gives: a number below n. -/
structure Nx (c n : Int) (y : Int × Int × Int) : Prop where
  ok : SOk c y.2.1 y.2.2
  lt : 1 <= n -> 0 <= y.1 /\ y.1 < n
  no : n < 1 -> y.1 = 0
end Go.Nm
namespace Go.Proofs.Ytbaehghammbjdaa
open Go Go.Nm
theorem next_out {b : List UInt8} {c u x n : Int} (h : SOk c u x) (hc : c <= 1000000000000) (hn : n <= 1000000) : (zad b u x n).Out (Nx (c + 1) n) := by
  obtain ⟨u0, u1, x0, x1⟩ := h
  unfold zad
  refine M.o_if (fun hb => ?_) (fun hb => ?_)
  · simp only [Bool.or_eq_true, decide_eq_true_eq, beq_iff_eq] at hb
    refine M.o_pure ⟨⟨u0, by dsimp only; omega, x0, x1⟩, fun h1 => ⟨Int.le_refl _, ?_⟩, fun _ => rfl⟩
    dsimp only
    omega
  · simp only [Bool.or_eq_false_iff, decide_eq_false_iff_not, beq_eq_false_iff_ne, ne_eq] at hb
    have hl : (0 : Int) < (b.length : Int) := by omega
    have m0 := Int.emod_nonneg u (show (b.length : Int) ≠ 0 by omega)
    have m1 := Int.emod_lt_of_pos u hl
    have d0 := Int.ediv_nonneg u0 (show (0 : Int) <= (b.length : Int) by omega)
    have d1 : u / (b.length : Int) <= u := Int.ediv_le_self _ u0
    have y1 : ((b.getD (Int.toNat (u % (b.length : Int))) 0).toNat : Int) < 256 := by
      have := UInt8.toNat_lt (b.getD (Int.toNat (u % (b.length : Int))) 0)
      omega
    have y0 : (0 : Int) <= ((b.getD (Int.toNat (u % (b.length : Int))) 0).toNat : Int) := Int.natCast_nonneg _
    generalize ((b.getD (Int.toNat (u % (b.length : Int))) 0).toNat : Int) = y at *
    generalize u % (b.length : Int) = m at *
    generalize u / (b.length : Int) = d at *
    have hn0 : 0 < n := by omega
    have fin : ∀ z : Int, 0 <= z -> 0 <= z % n /\ z % n < n := fun z hz => ⟨Int.emod_nonneg _ (by omega), Int.emod_lt_of_pos _ hn0⟩
    have pr : ∀ z w : Int, 0 <= z -> Nx (c + 1) n (z % n, u + 1, w % 251) := fun z w hz => ⟨⟨by dsimp only; omega, by dsimp only; omega, by dsimp only; omega, by dsimp only; omega⟩, fun _ => fin z hz, fun h => by omega⟩
    refine M.o_grd (by simp only [Bool.and_eq_true, decide_eq_true_eq]; omega) (M.o_grd (by simp only [Bool.and_eq_true, decide_eq_true_eq]; omega) (M.o_grd (by simp only [Bool.and_eq_true, decide_eq_true_eq]; omega) ?_))
    refine M.o_if (fun h1 => ?_) (fun h1 => ?_)
    · refine M.o_grd (by simp only [Bool.and_eq_true, decide_eq_true_eq]; omega) (M.o_grd (by simp only [Bool.and_eq_true, decide_eq_true_eq]; omega) (M.o_grd (by simp only [Bool.and_eq_true, decide_eq_true_eq]; omega) (M.o_grd (by simp only [Bool.and_eq_true, decide_eq_true_eq]; omega) (M.o_grd (by simp only [Bool.and_eq_true, decide_eq_true_eq]; omega) ?_))))
      refine M.o_grd (by simp only [Bool.and_eq_true, decide_eq_true_eq]; omega) (M.o_grd (by simp only [Bool.and_eq_true, decide_eq_true_eq]; omega) (M.o_grd (by simp only [Bool.and_eq_true, decide_eq_true_eq]; omega) (M.o_grd (by simp only [Bool.and_eq_true, decide_eq_true_eq]; omega) ?_)))
      refine M.o_if (fun h2 => ?_) (fun h2 => ?_)
      · refine M.o_grd (by simp only [Bool.and_eq_true, decide_eq_true_eq]; omega) (M.o_grd (by simp only [Bool.and_eq_true, decide_eq_true_eq]; omega) (M.o_grd (by simp only [Bool.and_eq_true, decide_eq_true_eq]; omega) (M.o_pure (pr _ _ (by omega)))))
      · refine M.o_grd (by simp only [Bool.and_eq_true, decide_eq_true_eq]; omega) (M.o_pure (pr _ _ (by omega)))
    · refine M.o_grd (by simp only [Bool.and_eq_true, decide_eq_true_eq]; omega) (M.o_grd (by simp only [Bool.and_eq_true, decide_eq_true_eq]; omega) (M.o_grd (by simp only [Bool.and_eq_true, decide_eq_true_eq]; omega) (M.o_grd (by simp only [Bool.and_eq_true, decide_eq_true_eq]; omega) (M.o_grd (by simp only [Bool.and_eq_true, decide_eq_true_eq]; omega) ?_))))
      refine M.o_if (fun h2 => ?_) (fun h2 => ?_)
      · refine M.o_grd (by simp only [Bool.and_eq_true, decide_eq_true_eq]; omega) (M.o_grd (by simp only [Bool.and_eq_true, decide_eq_true_eq]; omega) (M.o_grd (by simp only [Bool.and_eq_true, decide_eq_true_eq]; omega) (M.o_pure (pr _ _ (by omega)))))
      · refine M.o_grd (by simp only [Bool.and_eq_true, decide_eq_true_eq]; omega) (M.o_pure (pr _ _ (by omega)))
theorem within_out {b : List UInt8} {c u x lo hi : Int} (h : SOk c u x) (hc : c <= 1000000000000) (h0 : -1000 <= lo) (h1 : lo <= hi) (h2 : hi <= 10000) : (zat b u x lo hi).Out (fun y => SOk (c + 1) y.2.1 y.2.2 /\ lo <= y.1 /\ y.1 <= hi) := by
  unfold zat
  refine M.o_grd (gA2 (by omega) (by omega)) (M.o_grd (gA2 (by omega) (by omega)) (M.o_bind (next_out h hc (by omega)) ?_))
  rintro ⟨r, u', x'⟩ ⟨k, hl, _⟩
  have := hl (by omega)
  dsimp only at this k ⊢
  exact M.o_grd (gA2 (by omega) (by omega)) (M.o_pure ⟨k, by dsimp only; omega, by dsimp only; omega⟩)
end Go.Proofs.Ytbaehghammbjdaa
namespace Go.Nm
theorem SOk.zero : SOk 0 0 0 := ⟨Int.le_refl _, Int.le_refl _, Int.le_refl _, by decide⟩
end Go.Nm
namespace Go.Proofs.Ytbaehghammbjdaa
open Go Go.Nm
end Go.Proofs.Ytbaehghammbjdaa
namespace Go.Proofs.Ytbaehghammbjdaa
open Go Go.Nm
end Go.Proofs.Ytbaehghammbjdaa
namespace Go.Nm
namespace Wn
/-- What is made so far of the first stations. -/
structure Mk (n i : Nat) (l : List Int) (l2 : List Span) (l3 : List Int) : Prop where
  z1 : l.length = i
  z2 : l2.length = i
  nx : ∀ j, j < i -> l.getD j 0 = -1 ∨ ((j : Int) + 1 <= l.getD j 0 /\ l.getD j 0 < n)
  hr : ∀ j, j < i -> 0 <= (l2.getD j default).lo /\ (l2.getD j default).lo <= (l2.getD j default).hi /\ (l2.getD j default).hi <= 1000
  s8 : l3.length <= 8
  sr : l3.Pairwise (· < ·)
  si : ∀ x ∈ l3, 0 <= x /\ x < (i : Int)
theorem getD_app {α : Type} {l : List α} {x d : α} {j : Nat} (h : j < l.length) : (l ++ [x]).getD j d = l.getD j d := by
  simp [List.getD, List.getElem?_append_left h]
theorem getD_appE {α : Type} {l : List α} {x d : α} {j : Nat} (h : l.length = j) : (l ++ [x]).getD j d = x := by
  subst h
  simp [List.getD]
theorem Mk.step {n i : Nat} {l : List Int} {l2 : List Span} {l3 l3' : List Int} {d : Int} {s : Span} (h : Mk n i l l2 l3) (hd : d = -1 ∨ ((i : Int) + 1 <= d /\ d < n)) (hs : 0 <= s.lo /\ s.lo <= s.hi /\ s.hi <= 1000)
    (h3 : l3' = l3 ∨ (l3' = l3 ++ [(i : Int)] /\ l3.length < 8)) : Mk n (i + 1) (l ++ [d]) (l2 ++ [s]) l3' := by
  refine ⟨by simp [h.z1], by simp [h.z2], fun j hj => ?_, fun j hj => ?_, ?_, ?_, fun x hx => ?_⟩
  · rcases Nat.lt_or_eq_of_le (Nat.le_of_lt_succ hj) with e | e
    · rw [getD_app (by rw [h.z1]; exact e)]
      exact h.nx j e
    · subst e
      rw [getD_appE h.z1]
      exact hd
  · rcases Nat.lt_or_eq_of_le (Nat.le_of_lt_succ hj) with e | e
    · rw [getD_app (by rw [h.z2]; exact e)]
      exact h.hr j e
    · subst e
      rw [getD_appE h.z2]
      exact hs
  · rcases h3 with rfl | ⟨rfl, h3⟩
    · exact h.s8
    · simp; omega
  · rcases h3 with rfl | ⟨rfl, h3⟩
    · exact h.sr
    · rw [List.pairwise_append]
      exact ⟨h.sr, List.pairwise_singleton _ _, fun a ha b hb => by
        rw [List.mem_singleton] at hb
        subst hb
        exact (h.si a ha).2⟩
  · rcases h3 with rfl | ⟨rfl, h3⟩
    · have := h.si x hx
      omega
    · rcases List.mem_append.1 hx with hx | hx
      · have := h.si x hx
        omega
      · rw [List.mem_singleton] at hx
        omega
end Wn
end Go.Nm
namespace Go.Proofs.Ytbaehghammbjdaa
open Go Go.Nm
theorem made_j5 {b : List UInt8} {n i : Nat} {l : List Int} {l2 : List Span} {l3 : List Int} {c u x d : Int} (h : Wn.Mk n i l l2 l3) (hi : i < n) (hn : n <= 12) (hS : SOk c u x) (hc : c <= 100000) (hd : d = -1 ∨ ((i : Int) + 1 <= d /\ d < n)) :
    (zas b i l l2 l3 u x d).Out (fun r => match r with | .inl (u', x', i', a1, a2, a3) => i' = i + 1 /\ SOk (c + 3) u' x' /\ Wn.Mk n (i + 1) a1 a2 a3 | .inr _ => False) := by
  have e1 := h.z1
  have e2 := h.z2
  have e8 := h.s8
  unfold zas
  refine M.o_bind (next_out hS (by omega) (by omega)) ?_
  rintro ⟨r5, u5, x5⟩ ⟨k5, g5, _⟩
  have g5 := g5 (by omega)
  dsimp only at k5 g5 ⊢
  refine M.o_grdD (by simp; omega) (M.o_bind (next_out k5 (by omega) (by omega)) ?_)
  rintro ⟨r6, u6, x6⟩ ⟨k6, g6, _⟩
  have g6 := g6 (by omega)
  dsimp only at k6 g6 ⊢
  refine M.o_grd (gA2 (by omega) (by omega)) (M.o_grdD (by simp; omega) ?_)
  unfold zb2
  have hs : 0 <= (⟨r5, r5 + r6⟩ : Span).lo /\ (⟨r5, r5 + r6⟩ : Span).lo <= (⟨r5, r5 + r6⟩ : Span).hi /\ (⟨r5, r5 + r6⟩ : Span).hi <= 1000 := by dsimp only; omega
  refine M.o_if (fun hb => ?_) (fun hb => ?_)
  · have hb' := of_decide_eq_true hb
    refine M.o_bind (next_out k6 (by omega) (by omega)) ?_
    rintro ⟨r7, u7, x7⟩ ⟨k7, g7, _⟩
    dsimp only at k7 g7 ⊢
    refine M.o_if (fun hq => ?_) (fun hq => ?_)
    · exact M.o_grdD (by simp; omega) (M.o_grd (gA2 (by omega) (by omega)) (M.o_pure ⟨rfl, k7.mono (by omega), h.step hd hs (.inr ⟨rfl, by omega⟩)⟩))
    · exact M.o_grd (gA2 (by omega) (by omega)) (M.o_pure ⟨rfl, k7.mono (by omega), h.step hd hs (.inl rfl)⟩)
  · exact M.o_grd (gA2 (by omega) (by omega)) (M.o_pure ⟨rfl, k6.mono (by omega), h.step hd hs (.inl rfl)⟩)
theorem made_stations {b : List UInt8} {n : Nat} {c u x : Int} (h1 : 1 <= n) (hn : n <= 12) (hS : SOk c u x) (hc : c <= 1000) :
    (M.iter (za1 b (n : Int)) (u, x, 0, [], [], [])).Out (fun r => SOk (c + 100) r.1 r.2.1 /\ ∃ l l2 l3, r.2.2 = (l, l2, l3, l3, l2, l) /\ Wn.Mk n n l l2 l3) := by
  refine M.o_for n (fun i (s : Int × Int × Nat × List Int × List Span × List Int) => s.2.2.1 = i /\ SOk (c + 6 * i) s.1 s.2.1 /\ Wn.Mk n i s.2.2.2.1 s.2.2.2.2.1 s.2.2.2.2.2) ?_ ?_ ⟨rfl, hS.mono (by omega), rfl, rfl, fun j hj => by omega, fun j hj => by omega, by simp, List.Pairwise.nil, fun x hx => by cases hx⟩
  · rintro i ⟨u, x, q, l, l2, l3⟩ hi ⟨e1, hS, hM⟩
    dsimp only at e1 hS hM
    subst e1
    simp only [za1]
    have fin : ∀ {c' u' x' d : Int}, SOk c' u' x' -> c' + 3 <= c + 6 * ((q + 1 : Nat) : Int) -> (d = -1 ∨ ((q : Int) + 1 <= d /\ d < n)) →
        ∀ {Q : ((Int × Int × Nat × List Int × List Span × List Int) ⊕ (Int × Int × List Int × List Span × List Int × List Int × List Span × List Int)) -> Prop}, (∀ s', s'.2.2.1 = q + 1 /\ SOk (c + 6 * ((q + 1 : Nat) : Int)) s'.1 s'.2.1 /\ Wn.Mk n (q + 1) s'.2.2.2.1 s'.2.2.2.2.1 s'.2.2.2.2.2 -> Q (.inl s')) →
        (zas b q l l2 l3 u' x' d).Out Q := by
      intro c' u' x' d k1 k2 k3 Q kQ
      refine M.o_mono (made_j5 (b := b) hM hi hn k1 (by omega) k3) ?_
      rintro (⟨u2, x2, i2, a1, a2, a3⟩ | r) hr
      · exact kQ _ ⟨hr.1, hr.2.1.mono k2, hr.2.2⟩
      · exact hr.elim
    refine M.o_t (decide_eq_true (by omega)) (M.o_grd (gA2 (by omega) (by omega)) (M.o_if (fun hb => ?_) (fun hb => fin hS (by omega) (.inl rfl) fun s' h => h)))
    have hb' := of_decide_eq_true hb
    refine M.o_bind (next_out hS (by omega) (by omega)) ?_
    rintro ⟨r, u7, x7⟩ ⟨k7, g7, _⟩
    dsimp only at k7 g7 ⊢
    refine M.o_if (fun hq => ?_) (fun hq => fin k7 (by omega) (.inl rfl) fun s' h => h)
    refine M.o_grd (gA2 (by omega) (by omega)) (M.o_grd (gA2 (by omega) (by omega)) (M.o_bind (within_out k7 (by omega) (by omega) (by omega) (by omega)) ?_))
    rintro ⟨r4, u8, x8⟩ ⟨k8, g8, g9⟩
    dsimp only at k8 g8 g9 ⊢
    have g10 := Int.le_trans g9 (Int.min_le_left ((n : Int) - 1) ((q : Int) + 3))
    exact fin k8 (by omega) (.inr ⟨g8, by omega⟩) fun s' h => h
  · rintro ⟨u, x, q, l, l2, l3⟩ ⟨e1, hS, hM⟩
    dsimp only at e1 hS hM
    subst e1
    simp only [za1]
    exact M.o_f (decide_eq_false (by omega)) (M.o_pure ⟨hS.mono (by omega), l, l2, l3, rfl, hM⟩)
def TwOk (n : Nat) (tw : List Town) : Prop := ∀ t ∈ tw, (0 <= t.station /\ t.station < n) /\ (0 <= t.lead /\ t.lead <= 1000) /\ 0 <= t.alarm /\ t.alarm <= 2000
theorem made_towns {b : List UInt8} {n : Nat} {c u x k : Int} (h1 : 1 <= n) (hn : n <= 12) (hS : SOk c u x) (hc : c <= 10000) (hk : 0 <= k /\ k < 8) :
    (M.iter (zbC b (n : Int)) (u, x, k, [])).Out (fun r => SOk (c + 100) r.1 r.2.1 /\ r.2.2.2.length <= 8 /\ TwOk n r.2.2.2) := by
  refine M.o_iter (fun m (s : Int × Int × Int × List Town) => s.2.2.1 = (m : Int) /\ m <= 8 /\ SOk (c + 4 * (8 - (m : Int))) s.1 s.2.1 /\ s.2.2.2.length + m <= 8 /\ TwOk n s.2.2.2) ?_ (Int.toNat k) _ ⟨by dsimp only; omega, by omega, hS.mono (by omega), by simp; omega, fun t ht => by cases ht⟩
  rintro m ⟨u, x, k, l⟩ ⟨e1, hm, hS, hl, hT⟩
  dsimp only at e1 hS hl hT
  subst e1
  simp only [zbC]
  refine M.o_if (fun hb => ?_) (fun hb => M.o_pure ⟨hS.mono (by omega), by dsimp only; omega, hT⟩)
  have hb := of_decide_eq_true hb
  refine M.o_bind (next_out hS (by omega) (by omega)) ?_
  rintro ⟨r1, u1, x1⟩ ⟨k1, g1, _⟩
  have g1 := g1 (by omega)
  dsimp only at k1 g1 ⊢
  refine M.o_bind (next_out k1 (by omega) (by omega)) ?_
  rintro ⟨r2, u2, x2⟩ ⟨k2, g2, _⟩
  have g2 := g2 (by omega)
  dsimp only at k2 g2 ⊢
  refine M.o_bind (within_out k2 (by omega) (by omega) (by omega) (by omega)) ?_
  rintro ⟨r3, u3, x3⟩ ⟨k3, g3, g4⟩
  dsimp only at k3 g3 g4 ⊢
  refine M.o_grdD (by simp; omega) (M.o_grd (gA2 (by omega) (by omega)) (M.o_pure ⟨m - 1, by omega, by dsimp only; omega, by omega, k3.mono (by omega), by simp; omega, fun t ht => ?_⟩))
  rcases List.mem_append.1 ht with ht | ht
  · exact hT t ht
  · rw [List.mem_singleton] at ht
    subst ht
    dsimp only
    omega
def FlOk (dn sp : List Int) (fl : List Flood) : Prop := ∀ f ∈ fl, f.spring ∈ sp /\ f.stages.length = (Wn.P dn f.spring).length /\ ∀ x ∈ f.stages, 0 <= x /\ x <= 2000
theorem made_stages {b : List UInt8} {dn : List Int} {c u x s : Int} (hd : Wn.Dn dn) (hn : dn.length <= 12) (hs : 0 <= s /\ s < dn.length) (hS : SOk c u x) (hc : c <= 100000) :
    (M.iter (za0 b dn) (u, x, s, [])).Out (fun r => SOk (c + 12) r.1 r.2.1 /\ r.2.2.2.length = (Wn.P dn s).length /\ ∀ x ∈ r.2.2.2, 0 <= x /\ x <= 2000) := by
  have hst : Wn.Stn dn s := .inr hs
  have hsh := Wn.P_short hd hst
  refine M.o_for (Wn.P dn s).length (fun i (t : Int × Int × Int × List Int) => (Wn.P dn t.2.2.1 = (Wn.P dn s).drop i /\ Wn.Stn dn t.2.2.1) /\ SOk (c + i) t.1 t.2.1 /\ t.2.2.2.length = i /\ ∀ x ∈ t.2.2.2, 0 <= x /\ x <= 2000) ?_ ?_ ⟨⟨by rw [List.drop_zero], hst⟩, hS.mono (by omega), rfl, fun x hx => by cases hx⟩
  · rintro i ⟨u, x, q, l⟩ hi ⟨⟨e2, e3⟩, hS, hl, hx⟩
    dsimp only at e2 e3 hS hl hx
    subst hl
    simp only [za0]
    have hdr : (Wn.P dn s).drop l.length = (Wn.P dn s)[l.length] :: (Wn.P dn s).drop (l.length + 1) := List.drop_eq_getElem_cons hi
    have hq : 0 <= q /\ q < dn.length := by
      rcases e3 with rfl | e3
      · rw [Wn.P_none, hdr] at e2
        cases e2
      · exact e3
    rw [Wn.P_cons hd hq.1 hq.2, hdr] at e2
    obtain ⟨_, g2⟩ := List.cons.inj e2
    refine M.o_t (by simp; omega) (M.o_bind (next_out hS (by omega) (by omega)) ?_)
    rintro ⟨r, u1, x1⟩ ⟨k1, g1, _⟩
    have g1 := g1 (by omega)
    dsimp only at k1 g1 ⊢
    refine M.o_grdD (by simp; omega) (M.o_grd (gA2 (by omega) (by omega)) (M.o_pure ⟨⟨g2, hd.next_st hq.1 hq.2⟩, k1.mono (by omega), by simp, fun y hy => ?_⟩))
    rcases List.mem_append.1 hy with hy | hy
    · exact hx y hy
    · rw [List.mem_singleton] at hy
      omega
  · rintro ⟨u, x, q, l⟩ ⟨⟨e2, e3⟩, hS, hl, hx⟩
    dsimp only at e2 e3 hS hl hx
    simp only [za0]
    rw [List.drop_length] at e2
    have hq : q = -1 := by
      rcases e3 with e3 | e3
      · exact e3
      · rw [Wn.P_cons hd e3.1 e3.2] at e2
        cases e2
    subst hq
    exact M.o_f rfl (M.o_pure ⟨hS.mono (by omega), hl, hx⟩)
theorem made_floods {b : List UInt8} {dn sp : List Int} {c u x k : Int} (hd : Wn.Dn dn) (hn : dn.length <= 12) (h1 : 1 <= sp.length) (h8 : sp.length <= 8) (hsp : ∀ x ∈ sp, 0 <= x /\ x < dn.length) (hS : SOk c u x) (hc : c <= 10000) (hk : 0 <= k /\ k < 10) :
    (M.iter (zbe b dn sp) (u, x, k, [])).Out (fun r => SOk (c + 1000) r.2.2.1 r.2.2.2 /\ r.2.1.length <= 20 /\ FlOk dn sp r.2.1) := by
  refine M.o_iter (fun m (s : Int × Int × Int × List Flood) => s.2.2.1 = (m : Int) /\ m <= 10 /\ SOk (c + 20 * (10 - (m : Int))) s.1 s.2.1 /\ s.2.2.2.length + m <= 10 /\ FlOk dn sp s.2.2.2) ?_ (Int.toNat k) _ ⟨by dsimp only; omega, by omega, hS.mono (by omega), by simp; omega, fun t ht => by cases ht⟩
  rintro m ⟨u, x, k, l⟩ ⟨e1, hm, hS, hl, hF⟩
  dsimp only at e1 hS hl hF
  subst e1
  simp only [zbe]
  refine M.o_if (fun hb => ?_) (fun hb => M.o_pure ⟨hS.mono (by omega), by dsimp only; omega, hF⟩)
  have hb := of_decide_eq_true hb
  refine M.o_bind (next_out hS (by omega) (by omega)) ?_
  rintro ⟨r, u1, x1⟩ ⟨k1, g1, _⟩
  have g1 := g1 (by omega)
  dsimp only at k1 g1 ⊢
  refine M.o_grd (gA2 (by omega) (by omega)) ?_
  unfold zb0
  have hm' : sp.getD (Int.toNat r) 0 ∈ sp := by
    have hi : Int.toNat r < sp.length := by omega
    rw [List.getD_eq_getElem?_getD, List.getElem?_eq_getElem hi, Option.getD_some]
    exact List.getElem_mem hi
  refine M.o_bind (made_stages hd hn (hsp _ hm') k1 (by omega)) ?_
  rintro ⟨u2, x2, q2, l2⟩ ⟨k2, g2, g3⟩
  dsimp only at k2 g2 g3 ⊢
  refine M.o_grdD (by simp; omega) (M.o_grd (gA2 (by omega) (by omega)) (M.o_pure ⟨m - 1, by omega, by dsimp only; omega, by omega, k2.mono (by omega), by simp; omega, fun f hf => ?_⟩))
  rcases List.mem_append.1 hf with hf | hf
  · exact hF f hf
  · rw [List.mem_singleton] at hf
    subst hf
    exact ⟨hm', g2, g3⟩
end Go.Proofs.Ytbaehghammbjdaa
namespace Go.Proofs.Ytbaehghammbjdaa
open Go Go.Nm
theorem made_j16 {b : List UInt8} {n : Nat} {l : List Int} {l2 : List Span} {sp : List Int} {c u x : Int} (h1 : 1 <= n) (hn : n <= 12) (hl : l.length = n) (hl2 : l2.length = n) (hd : Wn.Dn l) (ht : ∀ i, i < n -> 0 <= (l2.getD i default).lo /\ (l2.getD i default).lo <= (l2.getD i default).hi /\ (l2.getD i default).hi <= 1000)
    (s1 : 1 <= sp.length) (s8 : sp.length <= 8) (sr : sp.Pairwise (· < ·)) (si : ∀ x ∈ sp, 0 <= x /\ x < (n : Int)) (hS : SOk c u x) (hc : c <= 1000) :
    (za9 b (n : Int) u x l2 l sp).Out (fun y => Wn.Rv y.1 y.2.1 y.2.2.1 y.2.2.2.1 y.2.2.2.2.1 y.2.2.2.2.2.1 y.2.2.2.2.2.2.1 /\ (y.2.2.2.2.1 <= 2 /\ y.2.2.2.2.2.1 <= 4) /\ SOk (c + 5000) y.2.2.2.2.2.2.2.1 y.2.2.2.2.2.2.2.2) := by
  unfold za9
  refine M.o_bind (next_out hS (by omega) (by omega)) ?_
  rintro ⟨r1, u1, x1⟩ ⟨k1, g1, _⟩
  have g1 := g1 (by omega)
  dsimp only at k1 g1 ⊢
  refine M.o_bind (made_towns h1 hn k1 (by omega) g1) ?_
  rintro ⟨u2, x2, a1, tw⟩ ⟨k2, t8, tok⟩
  dsimp only at k2 t8 tok ⊢
  refine M.o_bind (next_out k2 (by omega) (by omega)) ?_
  rintro ⟨r3, u3, x3⟩ ⟨k3, g3, _⟩
  have g3 := g3 (by omega)
  dsimp only at k3 g3 ⊢
  refine M.o_bind (next_out k3 (by omega) (by omega)) ?_
  rintro ⟨r4, u4, x4⟩ ⟨k4, g4, _⟩
  have g4 := g4 (by omega)
  dsimp only at k4 g4 ⊢
  refine M.o_grd (gA2 (by omega) (by omega)) ?_
  unfold zbX
  refine M.o_bind (next_out k4 (by omega) (by omega)) ?_
  rintro ⟨r5, u5, x5⟩ ⟨k5, g5, _⟩
  have g5 := g5 (by omega)
  dsimp only at k5 g5 ⊢
  refine M.o_bind (made_floods hd (by omega) s1 s8 (by rw [hl]; exact si) k5 (by omega) g5) ?_
  rintro ⟨a2, fl, u6, x6⟩ ⟨k6, f20, fok⟩
  dsimp only at k6 f20 fok ⊢
  exact M.o_pure ⟨⟨by rw [hl]; exact h1, by rw [hl]; exact hn, hd, by rw [hl, hl2], fun i hi => ht i (by dsimp only at hi; omega), s1, s8, sr, by rw [hl]; exact si, t8, by rw [hl]; exact tok, g3.1, by dsimp only; omega, by dsimp only; omega, f20, fok⟩, ⟨by dsimp only; omega, by dsimp only; omega⟩, k6.mono (by omega)⟩
theorem made_out {b : List UInt8} {u x : Int} (hS : SOk 0 u x) : (zbN b u x 12).Out (fun y => Wn.Rv y.1 y.2.1 y.2.2.1 y.2.2.2.1 y.2.2.2.2.1 y.2.2.2.2.2.1 y.2.2.2.2.2.2.1 /\ (y.2.2.2.2.1 <= 2 /\ y.2.2.2.2.2.1 <= 4) /\ SOk 10000 y.2.2.2.2.2.2.2.1 y.2.2.2.2.2.2.2.2) := by
  unfold zbN
  refine M.o_bind (within_out hS (by omega) (by omega) (by omega) (by omega)) ?_
  rintro ⟨r, u1, x1⟩ ⟨k1, g1, g2⟩
  dsimp only at k1 g1 g2 ⊢
  obtain ⟨n, rfl⟩ := Int.eq_ofNat_of_zero_le (show 0 <= r by omega)
  refine M.o_bind (made_stations (by omega) (by omega) k1 (by omega)) ?_
  rintro ⟨u2, x2, z⟩ ⟨k2, l, l2, l3, e, hM⟩
  dsimp only at k2 e ⊢
  subst e
  dsimp only
  have hd : Wn.Dn l := fun i hi => by
    have := hM.nx i (by have := hM.z1; omega)
    have := hM.z1
    omega
  refine M.o_if (fun hb => ?_) (fun hb => ?_)
  · refine M.o_mono (made_j16 (b := b) (by omega) (by omega) hM.z1 hM.z2 hd (fun i hi => hM.hr i hi) (by simp) (by simp) (List.pairwise_singleton _ _) (fun x hx => ?_) k2 (by omega)) fun y hy => ⟨hy.1, hy.2.1, hy.2.2.mono (by omega)⟩
    rw [List.mem_singleton] at hx
    omega
  · have hb : l3.length ≠ 0 := by
      have := beq_eq_false_iff_ne.1 hb
      omega
    refine M.o_mono (made_j16 (b := b) (by omega) (by omega) hM.z1 hM.z2 hd (fun i hi => hM.hr i hi) (by omega) hM.s8 hM.sr hM.si k2 (by omega)) fun y hy => ⟨hy.1, hy.2.1, hy.2.2.mono (by omega)⟩
end Go.Proofs.Ytbaehghammbjdaa
