/- Part 6 of the texts on which the proof rests. Conditions: none. -/
import Derived.Test.YtndobgodeicloaaZ5
set_option linter.unusedVariables false
set_option linter.unusedSimpArgs false
set_option linter.unusedSectionVars false
namespace Go.Nm
variable {ws : List Work}
/-- Was a work met? -/
def mt (m : Int → Option Bool) (x : Int) : Prop := (m x).getD false = true
theorem mt_upd (m : Int → Option Bool) (x y : Int) : mt (updF m x true) y ↔ y = x ∨ mt m y := by
  unfold mt updF
  by_cases e : y = x
  · rw [if_pos e]; exact ⟨fun _ => .inl e, fun _ => rfl⟩
  · rw [if_neg e]; exact ⟨fun h => .inr h, fun h => h.elim (fun h => absurd h e) id⟩
/-- Is a work made of another one? -/
def Succ (ws : List Work) (x y : Int) : Prop := 0 ≤ y ∧ y < (ws.length : Int) ∧ x ∈ (ws.getD y.toNat default).of
/-- What a search that finds nothing leaves. -/
structure Srch (ws : List Work) (m m' : Int → Option Bool) (to_ : Int) : Prop where
  up : ∀ x, mt m x → mt m' x
  cl : ∀ x, mt m' x → mt m x ∨ ∀ y, Succ ws x y → mt m' y
  no : ¬ mt m to_ → ¬ mt m' to_
theorem Srch.refl (m : Int → Option Bool) (to_ : Int) : Srch ws m m to_ := ⟨fun _ h => h, fun _ h => .inl h, fun h => h⟩
theorem Srch.trans {a b c : Int → Option Bool} {to_ : Int} (h : Srch ws a b to_) (k : Srch ws b c to_) : Srch ws a c to_ :=
  ⟨fun x hx => k.up x (h.up x hx), fun x hx => by
    rcases k.cl x hx with h1 | h1
    · rcases h.cl x h1 with h2 | h2
      · exact .inl h2
      · exact .inr fun y hy => k.up y (h2 y hy)
    · exact .inr h1, fun hn => k.no (h.no hn)⟩
/-- A line from one work to another one. -/
structure LineOk (ws : List Work) (a b : Int) (l : List Int) : Prop where
  line : lineB ws l = true
  rng : ∀ x ∈ l, 0 ≤ x ∧ x < (ws.length : Int)
  first : ∃ r, l = a :: r
  last : ∃ r, l = r ++ [b]
  len : (l.length : Int) ≤ ws.length - a
theorem LineOk.one {a : Int} (h0 : 0 ≤ a) (h1 : a < ws.length) : LineOk ws a a [a] := ⟨rfl, fun x hx => by rw [List.mem_singleton.1 hx]; exact ⟨h0, h1⟩, ⟨[], rfl⟩, ⟨[], rfl⟩, by simp; omega⟩
theorem LineOk.cons {a x b : Int} {l : List Int} (h0 : 0 ≤ a) (hs : Succ ws a x) (hx : a < x) (h : LineOk ws x b l) : LineOk ws a b ([a] ++ l) := by
  obtain ⟨r, hr⟩ := h.first
  obtain ⟨q, hq⟩ := h.last
  refine ⟨?_, fun y hy => ?_, ⟨l, rfl⟩, ⟨a :: q, by rw [hq]; rfl⟩, ?_⟩
  · have := h.line
    rw [hr] at this ⊢
    show ((ws.getD x.toNat default).of.contains a && lineB ws (x :: r)) = true
    rw [this, Bool.and_true, List.contains_iff_mem]
    exact hs.2.2
  · rcases List.mem_append.1 hy with hy | hy
    · rw [List.mem_singleton.1 hy]; exact ⟨h0, by have := hs.2.1; omega⟩
    · exact h.rng y hy
  · have := h.len
    simp only [List.length_append, List.length_cons, List.length_nil]
    omega
end Go.Nm
namespace Go.Proofs.Ytndobgodeicloaa
open Go Go.Nm
variable {ws : List Work}
theorem made_out' {T : Type} {y : T → Int → M (Bool × T)} {x : Int} (J : Nat → T → Prop) (Q : T → Prop)
    (step : ∀ i t, i < ws.length → J i t → x ∈ (ws.getD i default).of → (y t (i : Int)).Out (fun r => (r.1 = true ∧ J (i + 1) r.2) ∨ (r.1 = false ∧ Q r.2)))
    (skip : ∀ i t, i < ws.length → J i t → x ∉ (ws.getD i default).of → J (i + 1) t) {t0 : T} (h0 : J 0 t0) : (m_notes_web_made_1 y t0 ws x).Out (fun t => J ws.length t ∨ Q t) := by
  unfold m_notes_web_made_1
  refine M.o_bind (P := fun r => match r with | .inl t => Q t | .inr t => J ws.length t) ?_ ?_
  · refine M.o_for ws.length (fun i s => s.1 = i ∧ J i s.2) ?_ ?_ (s := (0, t0)) ⟨rfl, h0⟩
    · rintro i ⟨j, t⟩ hi ⟨rfl, hj⟩
      dsimp only at hi hj ⊢
      simp only [m_notes_web_made_1_b0]
      have ho := webOf_ends (ws := ws) (i := (j : Int)) (by omega) (by omega) x
      rw [Int.toNat_natCast] at ho
      refine M.o_t (by simpa using hi) (M.o_bindE ho ?_)
      cases hc : (ws.getD j default).of.contains x with
      | true =>
        rw [List.contains_iff_mem] at hc
        refine M.o_t rfl (M.o_bind (step j t hi hj hc) ?_)
        rintro ⟨go, t'⟩ hr
        dsimp only at hr ⊢
        rcases hr with ⟨rfl, hr⟩ | ⟨rfl, hr⟩
        · exact M.o_f rfl (M.o_pure ⟨rfl, hr⟩)
        · exact M.o_t rfl (M.o_pure hr)
      | false =>
        have hn : x ∉ (ws.getD j default).of := fun h => by rw [← List.contains_iff_mem] at h; rw [h] at hc; cases hc
        exact M.o_f rfl (M.o_f rfl (M.o_pure ⟨rfl, skip j t hi hj hn⟩))
    · rintro ⟨j, t⟩ ⟨rfl, hj⟩
      dsimp only at hj ⊢
      simp only [m_notes_web_made_1_b0]
      exact M.o_f (by simp) (M.o_pure hj)
  · rintro (t | t) h
    · exact M.o_pure (.inr h)
    · exact M.o_pure (.inl h)
/-- What a search ends in. -/
def OnQ (ws : List Work) (m : Int → Option Bool) (a to_ : Int) (r : List Int × (Int → Option Bool)) : Prop :=
  (r.1 ≠ [] ∧ LineOk ws a to_ r.1) ∨ (r.1 = [] ∧ Srch ws m r.2 to_ ∧ mt r.2 a)
theorem on_out (hB : Built ws) {to_ : Int} : ∀ (d : Nat) (a : Int) (m : Int → Option Bool), 0 ≤ a → a < ws.length → (ws.length : Int) - a ≤ d →
    (m_notes_search_on ws (fun x => m_notes_Line_1 x) m a to_).Out (OnQ ws m a to_) := by
  intro d
  induction d with
  | zero => intro a m h0 h1 hd; omega
  | succ d ih =>
    intro a m h0 h1 hd
    have hlen := hB.len
    suffices h : (m_notes_search_on_F (M.fix m_notes_search_on_F m_notes_search_on_mon) (ws, (fun x => m_notes_Line_1 x), m, a, to_)).Out (OnQ ws m a to_) by
      obtain ⟨r, h2, h3⟩ := h
      exact ⟨r, M.i_fix h2, h3⟩
    simp only [m_notes_search_on_F]
    refine M.o_if (fun hb => ?_) (fun hb => ?_)
    · have e : a = to_ := by simpa using hb
      subst e
      exact M.o_pure (.inl ⟨by simp, LineOk.one h0 h1⟩)
    · have hne : a ≠ to_ := by simpa using hb
      refine M.o_bindE (M.i_pure : (m_notes_web_made ws a).Ends a) ?_
      refine M.o_bind (made_out' (x := a) (fun i t => ∃ mp, t = .inl mp ∧ Srch ws (updF m a true) mp to_ ∧ ∀ y : Nat, y < i → Succ ws a (y : Int) → mt mp (y : Int))
        (fun t => ∃ l mp, t = .inr (l, mp) ∧ l ≠ [] ∧ LineOk ws a to_ l) ?_ ?_ ⟨_, rfl, Srch.refl _ _, fun y hy => by omega⟩) ?_
      · rintro i t hi ⟨mp, rfl, hs, hy⟩ hm
        have hsu : Succ ws a (i : Int) := ⟨by omega, by omega, by rw [Int.toNat_natCast]; exact hm⟩
        have hlt := (hB.at_ i hi).ahead a hm
        have next : ∀ mp', Srch ws (updF m a true) mp' to_ → (∀ x, mt mp x → mt mp' x) → mt mp' (i : Int) → ∃ mp2, (Sum.inl mp' : (Int → Option Bool) ⊕ (List Int × (Int → Option Bool))) = .inl mp2 ∧ Srch ws (updF m a true) mp2 to_ ∧ ∀ y : Nat, y < i + 1 → Succ ws a (y : Int) → mt mp2 (y : Int) :=
          fun mp' h1 h2 h3 => ⟨mp', rfl, h1, fun y hy' hsy => by
            by_cases e : y = i
            · rw [e]; exact h3
            · exact h2 _ (hy y (by omega) hsy)⟩
        have call : (m_notes_search_on ws (fun x => m_notes_Line_1 x) mp (i : Int) to_).Out (OnQ ws mp (i : Int) to_) := ih (i : Int) mp (by omega) (by omega) (by omega)
        have rest : (M.bind ((M.fix m_notes_search_on_F m_notes_search_on_mon) (ws, (fun x => m_notes_Line_1 x), mp, (i : Int), to_)) fun (r4, q_b_s_met) =>
            bif !r4.isEmpty then (
            M.grd (decide ((([(a : Int)]).length + r4.length) * 8 ≤ 140737488355328)) <|
            M.pure (.inr (([(a : Int)]) ++ r4, q_b_s_met)))
            else (
            M.pure (.inl q_b_s_met)) : M ((Int → Option Bool) ⊕ ((List Int) × (Int → Option Bool)))).Out (fun r => (∃ mp', r = .inl mp' ∧ Srch ws (updF m a true) mp' to_ ∧ (∀ x, mt mp x → mt mp' x) ∧ mt mp' (i : Int)) ∨ ∃ l mp', r = .inr (l, mp') ∧ l ≠ [] ∧ LineOk ws a to_ l) := by
          refine M.o_bind call ?_
          rintro ⟨l, mp'⟩ hq
          rcases hq with ⟨h1, h2⟩ | ⟨h1, h2, h3⟩
          · dsimp only at h1 h2 ⊢
            have hll := h2.len
            refine M.o_t (by cases l with | nil => exact absurd rfl h1 | cons x l => rfl) (M.o_grdD (by simp only [List.length_cons, List.length_nil]; omega) (M.o_pure (.inr ⟨_, _, rfl, by simp, LineOk.cons h0 hsu (by omega) h2⟩)))
          · dsimp only at h1 h2 h3 ⊢
            subst h1
            exact M.o_f rfl (M.o_pure (.inl ⟨_, rfl, hs.trans h2, h2.up, h3⟩))
        have fin : ∀ {bd : (Int → Option Bool) → Int → M ((Int → Option Bool) ⊕ ((List Int) × (Int → Option Bool)))}, (bd mp (i : Int)).Out (fun r => (∃ mp', r = .inl mp' ∧ Srch ws (updF m a true) mp' to_ ∧ (∀ x, mt mp x → mt mp' x) ∧ mt mp' (i : Int)) ∨ ∃ l mp', r = .inr (l, mp') ∧ l ≠ [] ∧ LineOk ws a to_ l) →
            (M.yl bd (.inl mp) (i : Int)).Out (fun r => (r.1 = true ∧ ∃ mp, r.2 = .inl mp ∧ Srch ws (updF m a true) mp to_ ∧ ∀ y : Nat, y < i + 1 → Succ ws a (y : Int) → mt mp (y : Int)) ∨ (r.1 = false ∧ ∃ l mp, r.2 = .inr (l, mp) ∧ l ≠ [] ∧ LineOk ws a to_ l)) := by
          intro bd hk
          simp only [M.yl]
          refine M.o_bind hk ?_
          rintro r (⟨mp', rfl, h1, h2, h3⟩ | ⟨l, mp', rfl, h1, h2⟩)
          · exact M.o_pure (.inl ⟨rfl, next mp' h1 h2 h3⟩)
          · exact M.o_pure (.inr ⟨rfl, l, mp', rfl, h1, h2⟩)
        refine fin ?_
        simp only [m_notes_search_on_b0]
        cases hmt : (mp (i : Int)).getD false with
        | true =>
          exact M.o_f rfl (M.o_t rfl (M.o_pure (.inl ⟨mp, rfl, hs, fun x hx => hx, hmt⟩)))
        | false =>
          cases hto : ((i : Int) != to_) with
          | true =>
            exact M.o_t rfl (M.o_bindE (M.i_pure : (m_notes_Line_1 (i : Int)).Ends true) (M.o_f rfl rest))
          | false => exact M.o_f rfl (M.o_f rfl rest)
      · rintro i t hi ⟨mp, rfl, hs, hy⟩ hm
        refine ⟨mp, rfl, hs, fun y hy' hsy => ?_⟩
        by_cases e : y = i
        · subst e
          have := hsy.2.2
          rw [Int.toNat_natCast] at this
          exact absurd this hm
        · exact hy y (by omega) hsy
      · rintro t (⟨mp, rfl, hs, hy⟩ | ⟨l, mp, rfl, h1, h2⟩)
        · refine M.o_pure (.inr ⟨rfl, ⟨fun x hx => hs.up x ((mt_upd m a x).2 (.inr hx)), fun x hx => ?_, fun hn => hs.no fun h => ?_⟩, hs.up a ((mt_upd m a a).2 (.inl rfl))⟩)
          · rcases hs.cl x hx with h3 | h3
            · rcases (mt_upd m a x).1 h3 with rfl | h3
              · refine .inr fun y hy' => ?_
                have := hy y.toNat (by have := hy'.2.1; have := hy'.1; omega) (by rw [Int.toNat_of_nonneg hy'.1]; exact hy')
                rwa [Int.toNat_of_nonneg hy'.1] at this
              · exact .inl h3
            · exact .inr h3
          · rcases (mt_upd m a to_).1 h with h3 | h3
            · exact hne h3.symm
            · exact hn h3
        · refine M.o_grdD (by have := List.length_pos_iff.2 h1; omega) (M.o_pure (.inl ⟨h1, h2⟩))
theorem wy_closed {m : Int → Option Bool} (hc : ∀ x, mt m x → ∀ y, Succ ws x y → mt m y) {a b : Nat} (w : Wy ws a b) (ha : mt m (a : Int)) : mt m (b : Int) := by
  induction w with
  | one h hb => exact hc _ ha _ ⟨by omega, by omega, by rw [Int.toNat_natCast]; exact h⟩
  | more w h hb ih => exact hc _ ih _ ⟨by omega, by omega, by rw [Int.toNat_natCast]; exact h⟩
theorem line_way : ∀ (l : List Int) (a b : Int), LineOk ws a b l → a = b ∨ Wy ws a.toNat b.toNat
  | [], a, b, h => by obtain ⟨r, hr⟩ := h.first; cases hr
  | [x], a, b, h => by
    obtain ⟨r, hr⟩ := h.first
    obtain ⟨q, hq⟩ := h.last
    left
    have h1 : x = a := (List.cons.inj hr).1
    cases q with
    | nil => have h2 : x = b := (List.cons.inj hq).1; omega
    | cons y q => simp at hq
  | x :: y :: l, a, b, h => by
    obtain ⟨r, hr⟩ := h.first
    obtain ⟨q, hq⟩ := h.last
    have h1 : x = a := (List.cons.inj hr).1
    subst h1
    have hl := h.line
    simp only [lineB, Bool.and_eq_true] at hl
    have hm := hl.1
    rw [List.contains_iff_mem] at hm
    have hx := h.rng x (by simp)
    have hy := h.rng y (by simp)
    have hw : Wy ws x.toNat y.toNat := .one (by rw [Int.toNat_of_nonneg hx.1]; exact hm) (by omega)
    have hq2 : ∃ r, y :: l = r ++ [b] := by
      cases q with
      | nil => simp at hq
      | cons z q => exact ⟨q, (List.cons.inj hq).2⟩
    right
    -- the way goes on from y
    have key : ∀ (l : List Int) (y : Int), lineB ws (y :: l) = true → (∀ z ∈ y :: l, 0 ≤ z ∧ z < (ws.length : Int)) → (∃ r, y :: l = r ++ [b]) → Wy ws x.toNat y.toNat → Wy ws x.toNat b.toNat := by
      intro l
      induction l with
      | nil =>
        intro y _ _ hb hw
        obtain ⟨r, hr⟩ := hb
        cases r with
        | nil => rw [← (List.cons.inj hr).1]; exact hw
        | cons z r => simp at hr
      | cons z l ih =>
        intro y hl hr hb hw
        simp only [lineB, Bool.and_eq_true] at hl
        have hm := hl.1
        rw [List.contains_iff_mem] at hm
        have hy := hr y (by simp)
        have hz := hr z (by simp)
        refine ih z hl.2 (fun u hu => hr u (List.mem_cons_of_mem _ hu)) ?_ (.more hw (by rw [Int.toNat_of_nonneg hy.1]; exact hm) (by omega))
        obtain ⟨r, hr⟩ := hb
        cases r with
        | nil => simp at hr
        | cons u r => exact ⟨r, (List.cons.inj hr).2⟩
    exact key l y hl.2 (fun z hz => h.rng z (List.mem_cons_of_mem _ hz)) hq2 hw
/-- A line, or the error that there is none. -/
def LnQ (ws : List Work) (a b : Int) (r : List Int × Int) : Prop := (r.2 = 0 ∧ LineOk ws a b r.1 ∧ (a = b ∨ Wy ws a.toNat b.toNat)) ∨ (r = ([], 5) ∧ a ≠ b ∧ ¬ Wy ws a.toNat b.toNat)
theorem line_out (hB : Built ws) {a b : Int} (a0 : 0 ≤ a) (a1 : a < ws.length) (b0 : 0 ≤ b) (b1 : b < ws.length) : (m_notes_Line ws a b).Out (LnQ ws a b) := by
  have hO := hB.opened
  unfold m_notes_Line
  have ha : inB a 0 ((ws.length : Int) - 1) = true := by unfold inB; simp only [Bool.and_eq_true, decide_eq_true_eq]; omega
  have hb : inB b 0 ((ws.length : Int) - 1) = true := by unfold inB; simp only [Bool.and_eq_true, decide_eq_true_eq]; omega
  refine M.o_t (by simp [hO]) (M.o_f rfl (M.o_f (by rw [ha, hb]; rfl) (M.o_bindE (M.i_pure : (m_notes_web_search ws (fun x => m_notes_Line_1 x)).Ends (fun _ => none)) ?_)))
  unfold m_notes_search_line
  refine M.o_bind (P := OnQ ws (fun _ => none) a b) (M.o_bind (on_out hB (to_ := b) ws.length a (fun _ => none) a0 a1 (by omega)) ?_) ?_
  · rintro ⟨l, m⟩ hq
    exact M.o_pure hq
  · rintro ⟨l, m⟩ hq
    rcases hq with ⟨h1, h2⟩ | ⟨h1, h2, h3⟩
    · dsimp only at h1 h2 ⊢
      exact M.o_t (by cases l with | nil => exact absurd rfl h1 | cons x l => rfl) (M.o_pure (.inl ⟨rfl, h2, line_way l a b h2⟩))
    · dsimp only at h1 h2 h3 ⊢
      subst h1
      have hno : ¬ mt m b := h2.no (fun h => by cases h)
      have hcl : ∀ x, mt m x → ∀ y, Succ ws x y → mt m y := fun x hx => (h2.cl x hx).resolve_left (fun h => by cases h)
      refine M.o_f rfl (M.o_pure (.inr ⟨rfl, fun e => hno (e ▸ h3), fun w => hno ?_⟩))
      have := wy_closed hcl w (by rw [Int.toNat_of_nonneg a0]; exact h3)
      rwa [Int.toNat_of_nonneg b0] at this
end Go.Proofs.Ytndobgodeicloaa
namespace Go.Proofs.Ytndobgodeicloaa
open Go Go.Nm
theorem awake_ends : m_nilometerlaw13_awake.Ends true := ⟨40, by kernel_rfl⟩
end Go.Proofs.Ytndobgodeicloaa
section
set_option maxRecDepth 100000
set_option maxHeartbeats 16000000
namespace Go.Proofs.Ytndobgodeicloaa
open Go Go.Nm
def m_nilometerlaw13_mixed_b0 (l : List Note) (r2 : List Int) : (Nat × (List Note)) → M ((Nat × (List Note)) ⊕ ((List Note) × (List Note))) := fun (s2, l2) =>
  bif decide ((s2 : Int) < (r2.length : Int)) then (
  M.grd (decide ((s2 : Int) < (r2.length : Int))) <|
  M.grd (decide ((0 : Int) ≤ (r2.getD s2 0)) && decide ((r2.getD s2 0) < (l.length : Int))) <|
  M.grd (decide ((l2.length + ([(l.getD (Int.toNat (r2.getD s2 0)) default)]).length) * 24 ≤ 140737488355328)) <|
  M.pure (.inl (s2 + 1, l2 ++ ([(l.getD (Int.toNat (r2.getD s2 0)) default)]))))
  else (
  M.pure (.inr (l2, l2)))
def m_nilometerlaw13_mixed (s_bytes : List UInt8) (s_used : Int) (s_mix : Int) (l : List Note) : M ((List Note) × Int × Int) :=
  M.bind (m_nilometerkit_Mixed s_bytes s_used s_mix (l.length : Int)) fun (r2, q1, q2) =>
  M.bind (M.iter (m_nilometerlaw13_mixed_b0 l r2) (0, [])) fun (l3, l4) =>
  M.pure (l4, q1, q2)
theorem nilometerlaw13_mixed_ok {R : List Chunk} {b_s : Nat} {C_s_bytes : Cells} {v_s_bytes : Value} {C_l : Cells} {v_l : Value} (s_bytes : List UInt8) (s_used : Int) (s_mix : Int) (l : List Note) (hC_s_bytes : Reads R C_s_bytes) (hs_s_bytes : Sl C_s_bytes v_s_bytes s_bytes) (hC_l : Reads R C_l) (hs_l : Sl C_l v_l l) {r : ((List Note) × Int × Int)} (hM : (m_nilometerlaw13_mixed s_bytes s_used s_mix l).Ends r) (w : World) (H : St w w [cBlk b_s [v_s_bytes, I s_used, I s_mix] 158] R) : Ret Try.prog 52 #[Pz b_s, v_l] w fun v w' => ∃ (y0 : List Note) (y1 : Int) (y2 : Int) (u0 : Value), (y0, y1, y2) = r ∧ v = u0 ∧ St w w' [cOwn (α := Note) 30 u0 y0, cBlk b_s [v_s_bytes, I y1, I y2] 158] R := by
 refine ret_of_W Try.func52 rfl rfl rfl ?_
 refine sQ rfl <| sA (.slice none 0 0) rfl <| s_nil <| sQ rfl <| sA (.slice none 0 0) rfl <| s_nil <| W.seq <| sQ rfl <| sM (Pz b_s) rfl ?_
 refine sM v_l rfl ?_
 have hl1z := (hs_l).len_le
 refine s_val (x_lenS T23.und rfl hs_l) ?_
 obtain ⟨r3z, hx2z, hM⟩ := M.e_bind hM
 refine s_call cf46 [Pz b_s, I (l.length : Int)] rfl (nilometerkit_Mixed_ok s_bytes s_used s_mix (l.length : Int) (hC_s_bytes.app _) hs_s_bytes hx2z _ (St.give (T := []) H rfl)) ?_
 rintro vq w4z ⟨r2, q1, q2, u0_1, hr5z, hvq, H2_⟩
 subst hr5z
 subst vq
 try dsimp only at hM
 replace H : St w w4z [cOwn (α := Int) 3 u0_1 r2, cBlk b_s [v_s_bytes, I q1, I q2] 158] R := H.back H2_ rfl
 clear H2_
 have hl6z := ((ownSl (H.get (k := 0) rfl))).len_le
 refine s_val (x_lenS T34.und rfl (ownSl (H.get (k := 0) rfl))) <| sM (I 0) rfl <| s_nil <| W.block ?_
 replace H : St w w4z [cOwn (α := Note) 30 (.slice none 0 0) ([]), cOwn (α := Int) 3 u0_1 r2, cBlk b_s [v_s_bytes, I q1, I q2] 158] R := H.nilOwn (α := Note) 30
 obtain ⟨ex7z, hi8z, hk9z⟩ := M.e_bind hM
 obtain ⟨m0_, hi8z⟩ := M.e_iter hi8z
 refine W.loop (fun m σ W => ∃ (s2 : Nat) (l2 : List Note) (v_l2 : Value) (ρ : Env), σ = upds ρ [(1, v_l), (5, v_l2), (11, u0_1), (12, I (r2.length : Int)), (13, I (s2 : Int))] ∧ M.iterN (m_nilometerlaw13_mixed_b0 l r2) m (s2, l2) = some ex7z ∧ St w W [cOwn (α := Note) 30 v_l2 l2, cOwn (α := Int) 3 u0_1 r2, cBlk b_s [v_s_bytes, I q1, I q2] 158] R) ?_ ?_
 ·exact ⟨_, 0, [], (.slice none 0 0), _, upds_of _ _ ⟨rfl, rfl, rfl, rfl, rfl, trivial⟩, hi8z, H⟩
 rintro m12z σ w10z ⟨s2, l2, v_l2, ρ, rfl, hI11z, H⟩
 obtain ⟨m13z, lt14z, x15z, hM, hN16z⟩ := M.e_iterN hI11z
 simp only [m_nilometerlaw13_mixed_b0] at hM
 clear hI11z
 refine sQ rfl <| sC (s2 : Int) (r2.length : Int) (decide ((s2 : Int) < (r2.length : Int))) rfl rfl rfl <| s_nil <| W.seq ?_
 refine W.cond (decide ((s2 : Int) < (r2.length : Int))) rfl (fun c17z => ?_) (fun c17z => ?_)
 ·replace hM := M.e_t hM c17z
  simp only [qz1, qz2, qz3, qz4, qz5, qz6, ne_eq, qz7] at c17z
  refine W.skip <| W.seq <| W.block <| sQ rfl ?_
  obtain ⟨sd18z, hM⟩ := M.e_gd hM
  refine s_val (x_ix (a := u0_1) (b := I (s2 : Int)) (v := vat u0_1 1 (Int.toNat (s2 : Int))) rfl rfl (Sl.ix (α := Int) T34.und T34.size (ownSl (H.get (k := 1) rfl)) (by omega) (by omega))) <| s_val (x_ld (p := vat u0_1 1 (Int.toNat (s2 : Int))) (v := I (r2.getD s2 0)) rfl (ld_sc Sc3 (At.mono (Int_at (ownSl (H.get (k := 1) rfl)) (i := (s2 : Int)) (by omega) (by omega)) (ownLe _ (H.get (k := 1) rfl))))) <| sA (I (r2.getD s2 0)) rfl <| s_nil <| W.region rfl <| sM v_l2 rfl <| sM v_l rfl <| sM (I (r2.getD s2 0)) rfl ?_
  obtain ⟨sd19z, hM⟩ := M.e_gd hM
  refine s_val (x_ix (a := v_l) (b := I (r2.getD s2 0)) (v := vat v_l 3 (Int.toNat (r2.getD s2 0))) rfl rfl (Sl.ix (α := Note) T23.und T23.size hs_l (by omega) (by omega))) <| s_val (x_ld (p := vat v_l 3 (Int.toNat (r2.getD s2 0))) (v := .agg #[I ((l.getD (Int.toNat (r2.getD s2 0)) default).work), I ((l.getD (Int.toNat (r2.getD s2 0)) default).version), I ((l.getD (Int.toNat (r2.getD s2 0)) default).value)]) rfl (ld_ag Ag30 Sz30 (At.mono (Note_atA hs_l (i := r2.getD s2 0) (by omega) (by omega)) (hC_l.at H)))) ?_
  refine t_bs (α := Note) T23 [.agg #[I ((l.getD (Int.toNat (r2.getD s2 0)) default).work), I ((l.getD (Int.toNat (r2.getD s2 0)) default).version), I ((l.getD (Int.toNat (r2.getD s2 0)) default).value)]] [(l.getD (Int.toNat (r2.getD s2 0)) default)] H rfl (.cons rfl (Flat.rep_enc _ (l.getD (Int.toNat (r2.getD s2 0)) default)) <| .nil) rfl rfl rfl ?_
  intro v20z w21z H
  obtain ⟨sd22z, hM⟩ := M.e_gd hM
  refine t_app (α := Note) (k := 1) (l := l2) (l2 := [(l.getD (Int.toNat (r2.getD s2 0)) default)]) (l' := l2 ++ ([(l.getD (Int.toNat (r2.getD s2 0)) default)])) (vy := v20z) T23 rfl H rfl rfl rfl (ownSl (H.get (k := 0) rfl)) (ownLe _ (H.get (k := 0) rfl)) (rfl) (by first | omega | (simp only [List.length_nil] at *; omega)) ?_
  intro v23z w24z H
  replace H : St w w24z [cOwn (α := Note) 30 v20z ([(l.getD (Int.toNat (r2.getD s2 0)) default)]), cOwn (α := Note) 30 v23z (l2 ++ ([(l.getD (Int.toNat (r2.getD s2 0)) default)])), cOwn (α := Int) 3 u0_1 r2, cBlk b_s [v_s_bytes, I q1, I q2] 158] R := H
  refine sA v23z rfl <| s_nil <| W.region rfl <| sR (s2 : Int) 1 ((s2 : Int) + 1) rfl rfl rfl (by omega) <| sM (I ((s2 : Int) + 1)) rfl <| s_nil ?_
  exact ⟨m13z, lt14z, s2 + 1, l2 ++ ([(l.getD (Int.toNat (r2.getD s2 0)) default)]), v23z, _, upds_of _ _ ⟨rfl, rfl, rfl, rfl, rfl, trivial⟩, M.e_inl hM hN16z, (H.pick [1, 2, 3] (by decide) rfl)⟩
 replace hM := M.e_f hM c17z
 simp only [qz1, qz2, qz3, qz4, qz5, qz6, ne_eq, qz7] at c17z
 refine W.exit ?_
 have hX25z := M.e_inr hM hN16z
 subst hX25z
 replace hM := hk9z
 try dsimp only at hM
 refine sQ rfl <| sM v_l2 rfl <| sA v_l2 rfl <| s_nil ?_
 refine W.ret ?_
 have hr_ := M.e_pure hM
 exact ⟨_, resE_tmp rfl, ⟨l2, q1, q2, v_l2, hr_, rfl, (H.pick [0, 2] (by decide) rfl)⟩⟩

def m_nilometerlaw13_NotesOnce_b0 (r3 : List Work) (r4 : List Note) (l : List Int) (r8 : Int) (l3 : List Int) (l4 : List Int) : Nat → M (Nat ⊕ (Unit ⊕ Unit)) := fun s =>
  bif decide ((s : Int) < (r3.length : Int)) then (
  M.bind (m_notes_Line r3 ((r4.getD (Int.toNat r8) default).work) (s : Int)) fun (r02, r15) =>
  bif !(l4.contains (s : Int)) then (
  M.grd (decide ((s : Int) < (l3.length : Int))) <|
  M.grd (decide ((s : Int) < (l.length : Int))) <|
  bif (((l3.getD s 0) != (l.getD s 0)) || (r15 != 5)) then (
  M.pure (.inr (.inl ())))
  else (
  M.pure (.inl (s + 1))))
  else (
  M.bind (m_notes_Leads r3 r02) fun (r03, r16) =>
  M.grd ((!(!(((r15 != 0) || (r16 != 0)) || (!r03))) || (decide (0 < (r02.length : Int))))) <|
  M.grd ((!(!((((r15 != 0) || (r16 != 0)) || (!r03)) || ((r02.getD 0 0) != ((r4.getD (Int.toNat r8) default).work)))) || (decide ((-9223372036854775808 : Int) ≤ ((r02.length : Int) - 1)) && decide (((r02.length : Int) - 1) ≤ (9223372036854775807 : Int))))) <|
  M.grd ((!(!((((r15 != 0) || (r16 != 0)) || (!r03)) || ((r02.getD 0 0) != ((r4.getD (Int.toNat r8) default).work)))) || (decide ((0 : Int) ≤ ((r02.length : Int) - 1)) && decide (((r02.length : Int) - 1) < (r02.length : Int))))) <|
  bif (((((r15 != 0) || (r16 != 0)) || (!r03)) || ((r02.getD 0 0) != ((r4.getD (Int.toNat r8) default).work))) || ((r02.getD (Int.toNat ((r02.length : Int) - 1)) 0) != (s : Int))) then (
  M.pure (.inr (.inl ())))
  else (
  M.pure (.inl (s + 1)))))
  else (
  M.pure (.inr (.inr ())))
def m_nilometerlaw13_NotesOnce (numbers : List UInt8) (orders : List UInt8) (newer : List UInt8) : M Bool :=
  M.bind (m_nilometerkit_New numbers) fun (r1, r2) =>
  M.bind (m_nilometerlaw13_Made numbers r1 r2 14) fun (r3, q1, q2) =>
  M.bind (m_nilometerlaw13_Noted numbers q1 q2 r3) fun (r4, q12, q22) =>
  M.bind (m_nilometerkit_New orders) fun (r12, r22) =>
  M.bind (m_nilometerkit_New newer) fun (r13, r23) =>
  M.bind (M.pure (valuesR r3 r4, valuesE r3 r4)) fun (l, e) =>
  M.bind (m_nilometerlaw13_mixed orders r12 r22 r4) fun (r5, q13, q23) =>
  M.bind (m_nilometerkit_Stream_Next orders q13 q23 (r5.length : Int)) fun (r6, q14, q24) =>
  M.grd (decide ((0 : Int) ≤ r6) && decide (r6 < (r5.length : Int))) <|
  M.grd (decide ((r5.length + ([(r5.getD (Int.toNat r6) default)]).length) * 24 ≤ 140737488355328)) <|
  M.bind (m_nilometerlaw13_mixed orders q14 q24 (r5 ++ ([(r5.getD (Int.toNat r6) default)]))) fun (r7, q15, q25) =>
  M.bind (M.pure (valuesR r3 r7, valuesE r3 r7)) fun (l2, e2) =>
  bif (((((e != 0) || (e2 != 0)) || ((l.length : Int) != (r3.length : Int))) || (!(decide (l = l2)))) || (l.contains (-1))) then (
  M.pure false)
  else (
  M.bind (m_nilometerkit_Stream_Next newer r13 r23 (r4.length : Int)) fun (r8, q16, q26) =>
  M.grd (decide ((0 : Int) ≤ r8) && decide (r8 < (r4.length : Int))) <|
  M.bind (m_nilometerkit_Stream_Next newer q16 q26 50) fun (r9, q17, q27) =>
  M.grd (decide ((-9223372036854775808 : Int) ≤ (10 + r9)) && decide ((10 + r9) ≤ (9223372036854775807 : Int))) <|
  M.bind (m_nilometerkit_Stream_Next newer q17 q27 2000) fun (r10, q18, q28) =>
  M.grd (decide (r4.length ≤ 1000000)) <|
  M.grd (decide ((r4.length + ([(⟨((r4.getD (Int.toNat r8) default).work : Int), (10 + r9 : Int), (r10 : Int)⟩ : Note)]).length) * 24 ≤ 140737488355328)) <|
  M.bind (m_nilometerlaw13_mixed orders q15 q25 (r4 ++ ([(⟨((r4.getD (Int.toNat r8) default).work : Int), (10 + r9 : Int), (r10 : Int)⟩ : Note)]))) fun (r11, q19, q29) =>
  M.bind (M.pure (valuesR r3 r11, valuesE r3 r11)) fun (l3, e3) =>
  M.bind (M.pure (staleR r3 ([((r4.getD (Int.toNat r8) default).work : Int)]), askedE r3 ([((r4.getD (Int.toNat r8) default).work : Int)]))) fun (l4, e4) =>
  M.bind (m_notes_Fences r3 ([((r4.getD (Int.toNat r8) default).work : Int)]) l4) fun (r0, r14) =>
  M.grd ((!(!(((((e3 != 0) || (e4 != 0)) || (r14 != 0)) || (!r0)) || ((l3.length : Int) != (r3.length : Int)))) || (decide ((0 : Int) ≤ ((r4.getD (Int.toNat r8) default).work)) && decide (((r4.getD (Int.toNat r8) default).work) < (l3.length : Int))))) <|
  bif ((((((e3 != 0) || (e4 != 0)) || (r14 != 0)) || (!r0)) || ((l3.length : Int) != (r3.length : Int))) || ((l3.getD (Int.toNat ((r4.getD (Int.toNat r8) default).work)) 0) != r10)) then (
  M.pure false)
  else (
  M.bind (M.iter (m_nilometerlaw13_NotesOnce_b0 r3 r4 l r8 l3 l4) 0) fun x_ => match x_ with
  | (.inl (_ : Unit)) => (
  M.pure false)
  | (.inr (_ : Unit)) => (
  M.bind (m_nilometerlaw13_awake) fun r17 =>
  M.pure r17)))
theorem nilometerlaw13_NotesOnce_ok {R : List Chunk} {C_numbers : Cells} {v_numbers : Value} {C_orders : Cells} {v_orders : Value} {C_newer : Cells} {v_newer : Value} (numbers : List UInt8) (orders : List UInt8) (newer : List UInt8) (hC_numbers : Reads R C_numbers) (hs_numbers : Sl C_numbers v_numbers numbers) (hC_orders : Reads R C_orders) (hs_orders : Sl C_orders v_orders orders) (hC_newer : Reads R C_newer) (hs_newer : Sl C_newer v_newer newer) {r : Bool} (hM : (m_nilometerlaw13_NotesOnce numbers orders newer).Ends r) (w : World) (H : St w w [] R) : Ret Try.prog 8 #[v_numbers, v_orders, v_newer] w fun v w' => ∃ (y0 : Bool), y0 = r ∧ v = B y0 ∧ St w w' [] R := by
 refine ret_of_W Try.func8 rfl rfl rfl ?_
 refine sQ rfl <| sA (B false) rfl <| s_nil <| sQ rfl <| sM v_numbers rfl ?_
 obtain ⟨r2z, hx1z, hM⟩ := M.e_bind hM
 refine s_call cf40 [v_numbers] rfl (nilometerkit_New_ok numbers (hC_numbers.app _) hs_numbers hx1z _ (St.give (T := []) H rfl)) ?_
 rintro vq w3z ⟨r1, r2, nb0_1, hr4z, hvq, H2_⟩
 subst hr4z
 subst vq
 try dsimp only at hM
 replace H : St w w3z [cBlk nb0_1 [v_numbers, I r1, I r2] 158] R := H.back H2_ rfl
 clear H2_
 refine sA (Pz nb0_1) rfl <| s_nil <| sQ rfl <| sM (Pz nb0_1) rfl ?_
 obtain ⟨r6z, hx5z, hM⟩ := M.e_bind hM
 refine s_call cf41 [Pz nb0_1, I 14] rfl (nilometerlaw13_Made_ok numbers r1 r2 14 (hC_numbers.app _) hs_numbers hx5z _ (St.give (T := []) H rfl)) ?_
 rintro vq w7z ⟨r3, q1, q2, u0_2, rr1_3, Bs2_4, hr8z, hvq, H2_, hf9z⟩
 subst hr8z
 subst vq
 try dsimp only at hM
 replace H : St w w7z [cOwn (α := Raw 2) 60 u0_2 rr1_3, cRo Bs2_4, cBlk nb0_1 [v_numbers, I q1, I q2] 158] R := H.back H2_ rfl
 clear H2_
 refine sA u0_2 rfl <| s_nil <| sQ rfl <| sM (Pz nb0_1) rfl <| sM u0_2 rfl ?_
 obtain ⟨r11z, hx10z, hM⟩ := M.e_bind hM
 refine s_call cf42 [Pz nb0_1, u0_2] rfl (nilometerlaw13_Noted_ok numbers q1 q2 r3 (hC_numbers.app _) hs_numbers (Reads.sup (Reads.of (k := 0) rfl ownLe) (Reads.of (k := 1) rfl roLe)) (rowSl rfl (H.get (k := 0) rfl) (roLe _ (H.get (k := 1) rfl)) hf9z) hx10z _ (St.give (L := [cBlk nb0_1 [v_numbers, I q1, I q2] 158, cOwn (α := Raw 2) 60 u0_2 rr1_3, cRo Bs2_4]) (A := [cBlk nb0_1 [v_numbers, I q1, I q2] 158]) (T := [cOwn (α := Raw 2) 60 u0_2 rr1_3, cRo Bs2_4]) (H.pick [2, 0, 1] (by decide) rfl) rfl)) ?_
 rintro vq w12z ⟨r4, q12, q22, u0_5, hr13z, hvq, H2_⟩
 subst hr13z
 subst vq
 try dsimp only at hM
 replace H : St w w12z [cOwn (α := Note) 30 u0_5 r4, cBlk nb0_1 [v_numbers, I q12, I q22] 158, cOwn (α := Raw 2) 60 u0_2 rr1_3, cRo Bs2_4] R := H.pick [2, 0, 1] (by decide) rfl |>.back H2_ rfl
 clear H2_
 refine sA u0_5 rfl <| s_nil <| sQ rfl <| sM v_orders rfl ?_
 obtain ⟨r15z, hx14z, hM⟩ := M.e_bind hM
 refine s_call cf40 [v_orders] rfl (nilometerkit_New_ok orders (hC_orders.app _) hs_orders hx14z _ (St.give (T := [cOwn (α := Note) 30 u0_5 r4, cBlk nb0_1 [v_numbers, I q12, I q22] 158, cOwn (α := Raw 2) 60 u0_2 rr1_3, cRo Bs2_4]) H rfl)) ?_
 rintro vq w16z ⟨r12, r22, nb0_6, hr17z, hvq, H2_⟩
 subst hr17z
 subst vq
 try dsimp only at hM
 replace H : St w w16z [cBlk nb0_6 [v_orders, I r12, I r22] 158, cOwn (α := Note) 30 u0_5 r4, cBlk nb0_1 [v_numbers, I q12, I q22] 158, cOwn (α := Raw 2) 60 u0_2 rr1_3, cRo Bs2_4] R := H.back H2_ rfl
 clear H2_
 refine sM v_newer rfl ?_
 obtain ⟨r19z, hx18z, hM⟩ := M.e_bind hM
 refine s_call cf40 [v_newer] rfl (nilometerkit_New_ok newer (hC_newer.app _) hs_newer hx18z _ (St.give (T := [cBlk nb0_6 [v_orders, I r12, I r22] 158, cOwn (α := Note) 30 u0_5 r4, cBlk nb0_1 [v_numbers, I q12, I q22] 158, cOwn (α := Raw 2) 60 u0_2 rr1_3, cRo Bs2_4]) H rfl)) ?_
 rintro vq w20z ⟨r13, r23, nb0_7, hr21z, hvq, H2_⟩
 subst hr21z
 subst vq
 try dsimp only at hM
 replace H : St w w20z [cBlk nb0_7 [v_newer, I r13, I r23] 158, cBlk nb0_6 [v_orders, I r12, I r22] 158, cOwn (α := Note) 30 u0_5 r4, cBlk nb0_1 [v_numbers, I q12, I q22] 158, cOwn (α := Raw 2) 60 u0_2 rr1_3, cRo Bs2_4] R := H.back H2_ rfl
 clear H2_
 refine sA (Pz nb0_6) rfl <| sA (Pz nb0_7) rfl <| s_nil <| sQ rfl <| sM u0_2 rfl <| sM u0_5 rfl ?_
 obtain ⟨⟨l, e⟩, hx25z, hM⟩ := M.e_bind hM
 obtain ⟨hq26z, hq27z⟩ := Prod.mk.inj (M.e_pure hx25z)
 try dsimp only at hM
 refine s_call cf21 [u0_2, u0_5] rfl (by have hc_ := (Values_any _ ((rowSl rfl (H.get (k := 4) rfl) (roLe _ (H.get (k := 5) rfl)) hf9z).mono (Cells.sup_le (ownLe _ (H.get (k := 4) rfl)) (roLe _ (H.get (k := 5) rfl)))) ((ownSl (H.get (k := 2) rfl)).mono (ownLe _ (H.get (k := 2) rfl)))); rw [hq26z, hq27z] at hc_; exact hc_) ?_
 rintro _ w22z ⟨u23z, rfl, hs24z, hx_⟩
 obtain ⟨Bs_8, H, hs24z⟩ := H.fresh hx_ hs24z
 clear hx_
 have hl_hs24z := hs24z.len_le
 refine sM (.tuple #[u23z, I e]) rfl <| sX [u23z, I e] u23z rfl rfl <| sX [u23z, I e] (I e) rfl rfl <| sA u23z rfl <| sA (I e) rfl <| s_nil <| sQ rfl <| sM (Pz nb0_6) rfl <| sM u0_5 rfl ?_
 obtain ⟨r29z, hx28z, hM⟩ := M.e_bind hM
 refine s_call cf52 [Pz nb0_6, u0_5] rfl (nilometerlaw13_mixed_ok orders r12 r22 r4 (hC_orders.app _) hs_orders (Reads.of (k := 2) rfl ownLe) (ownSl (H.get (k := 3) rfl)) hx28z _ (St.give (L := [cBlk nb0_6 [v_orders, I r12, I r22] 158, cRo Bs_8, cBlk nb0_7 [v_newer, I r13, I r23] 158, cOwn (α := Note) 30 u0_5 r4, cBlk nb0_1 [v_numbers, I q12, I q22] 158, cOwn (α := Raw 2) 60 u0_2 rr1_3, cRo Bs2_4]) (A := [cBlk nb0_6 [v_orders, I r12, I r22] 158]) (T := [cRo Bs_8, cBlk nb0_7 [v_newer, I r13, I r23] 158, cOwn (α := Note) 30 u0_5 r4, cBlk nb0_1 [v_numbers, I q12, I q22] 158, cOwn (α := Raw 2) 60 u0_2 rr1_3, cRo Bs2_4]) (H.pick [2, 0, 1, 3, 4, 5, 6] (by decide) rfl) rfl)) ?_
 rintro vq w30z ⟨r5, q13, q23, u0_9, hr31z, hvq, H2_⟩
 subst hr31z
 subst vq
 try dsimp only at hM
 replace H : St w w30z [cOwn (α := Note) 30 u0_9 r5, cBlk nb0_6 [v_orders, I q13, I q23] 158, cRo Bs_8, cBlk nb0_7 [v_newer, I r13, I r23] 158, cOwn (α := Note) 30 u0_5 r4, cBlk nb0_1 [v_numbers, I q12, I q22] 158, cOwn (α := Raw 2) 60 u0_2 rr1_3, cRo Bs2_4] R := H.pick [2, 0, 1, 3, 4, 5, 6] (by decide) rfl |>.back H2_ rfl
 clear H2_
 refine sA u0_9 rfl <| s_nil <| sQ rfl <| sM u0_9 rfl <| sM u0_9 rfl <| sM (Pz nb0_6) rfl <| sM u0_9 rfl ?_
 have hl32z := ((ownSl (H.get (k := 0) rfl))).len_le
 refine s_val (x_lenS T23.und rfl (ownSl (H.get (k := 0) rfl))) ?_
 obtain ⟨r34z, hx33z, hM⟩ := M.e_bind hM
 refine s_call cf44 [Pz nb0_6, I (r5.length : Int)] rfl (nilometerkit_Stream_Next_ok orders q13 q23 (r5.length : Int) (hC_orders.app _) hs_orders hx33z _ (St.give (L := [cBlk nb0_6 [v_orders, I q13, I q23] 158, cOwn (α := Note) 30 u0_9 r5, cRo Bs_8, cBlk nb0_7 [v_newer, I r13, I r23] 158, cOwn (α := Note) 30 u0_5 r4, cBlk nb0_1 [v_numbers, I q12, I q22] 158, cOwn (α := Raw 2) 60 u0_2 rr1_3, cRo Bs2_4]) (A := [cBlk nb0_6 [v_orders, I q13, I q23] 158]) (T := [cOwn (α := Note) 30 u0_9 r5, cRo Bs_8, cBlk nb0_7 [v_newer, I r13, I r23] 158, cOwn (α := Note) 30 u0_5 r4, cBlk nb0_1 [v_numbers, I q12, I q22] 158, cOwn (α := Raw 2) 60 u0_2 rr1_3, cRo Bs2_4]) (H.pick [1, 0, 2, 3, 4, 5, 6, 7] (by decide) rfl) rfl)) ?_
 rintro vq w35z ⟨r6, q14, q24, hr36z, hvq, H2_⟩
 subst hr36z
 subst vq
 try dsimp only at hM
 replace H : St w w35z [cBlk nb0_6 [v_orders, I q14, I q24] 158, cOwn (α := Note) 30 u0_9 r5, cRo Bs_8, cBlk nb0_7 [v_newer, I r13, I r23] 158, cOwn (α := Note) 30 u0_5 r4, cBlk nb0_1 [v_numbers, I q12, I q22] 158, cOwn (α := Raw 2) 60 u0_2 rr1_3, cRo Bs2_4] R := H.pick [1, 0, 2, 3, 4, 5, 6, 7] (by decide) rfl |>.back H2_ rfl
 clear H2_
 obtain ⟨sd37z, hM⟩ := M.e_gd hM
 refine s_val (x_ix (a := u0_9) (b := I r6) (v := vat u0_9 3 (Int.toNat r6)) rfl rfl (Sl.ix (α := Note) T23.und T23.size (ownSl (H.get (k := 1) rfl)) (by omega) (by omega))) <| s_val (x_ld (p := vat u0_9 3 (Int.toNat r6)) (v := .agg #[I ((r5.getD (Int.toNat r6) default).work), I ((r5.getD (Int.toNat r6) default).version), I ((r5.getD (Int.toNat r6) default).value)]) rfl (ld_ag Ag30 Sz30 (At.mono (Note_atA (ownSl (H.get (k := 1) rfl)) (i := r6) (by omega) (by omega)) (ownLe _ (H.get (k := 1) rfl))))) ?_
 refine t_bs (α := Note) T23 [.agg #[I ((r5.getD (Int.toNat r6) default).work), I ((r5.getD (Int.toNat r6) default).version), I ((r5.getD (Int.toNat r6) default).value)]] [(r5.getD (Int.toNat r6) default)] H rfl (.cons rfl (Flat.rep_enc _ (r5.getD (Int.toNat r6) default)) <| .nil) rfl rfl rfl ?_
 intro v38z w39z H
 obtain ⟨sd40z, hM⟩ := M.e_gd hM
 refine t_app (α := Note) (k := 2) (l := r5) (l2 := [(r5.getD (Int.toNat r6) default)]) (l' := r5 ++ ([(r5.getD (Int.toNat r6) default)])) (vy := v38z) T23 rfl H rfl rfl rfl (ownSl (H.get (k := 0) rfl)) (ownLe _ (H.get (k := 0) rfl)) (rfl) (by first | omega | (simp only [List.length_nil] at *; omega)) ?_
 intro v41z w42z H
 replace H : St w w42z [cOwn (α := Note) 30 v38z ([(r5.getD (Int.toNat r6) default)]), cBlk nb0_6 [v_orders, I q14, I q24] 158, cOwn (α := Note) 30 v41z (r5 ++ ([(r5.getD (Int.toNat r6) default)])), cRo Bs_8, cBlk nb0_7 [v_newer, I r13, I r23] 158, cOwn (α := Note) 30 u0_5 r4, cBlk nb0_1 [v_numbers, I q12, I q22] 158, cOwn (α := Raw 2) 60 u0_2 rr1_3, cRo Bs2_4] R := H
 refine sA v41z rfl <| s_nil <| sQ rfl <| sM u0_2 rfl <| sM (Pz nb0_6) rfl <| sM v41z rfl ?_
 obtain ⟨r44z, hx43z, hM⟩ := M.e_bind hM
 refine s_call cf52 [Pz nb0_6, v41z] rfl (nilometerlaw13_mixed_ok orders q14 q24 (r5 ++ ([(r5.getD (Int.toNat r6) default)])) (hC_orders.app _) hs_orders (Reads.of (k := 1) rfl ownLe) (ownSl (H.get (k := 2) rfl)) hx43z _ (St.give (L := [cBlk nb0_6 [v_orders, I q14, I q24] 158, cOwn (α := Note) 30 v38z ([(r5.getD (Int.toNat r6) default)]), cOwn (α := Note) 30 v41z (r5 ++ ([(r5.getD (Int.toNat r6) default)])), cRo Bs_8, cBlk nb0_7 [v_newer, I r13, I r23] 158, cOwn (α := Note) 30 u0_5 r4, cBlk nb0_1 [v_numbers, I q12, I q22] 158, cOwn (α := Raw 2) 60 u0_2 rr1_3, cRo Bs2_4]) (A := [cBlk nb0_6 [v_orders, I q14, I q24] 158]) (T := [cOwn (α := Note) 30 v38z ([(r5.getD (Int.toNat r6) default)]), cOwn (α := Note) 30 v41z (r5 ++ ([(r5.getD (Int.toNat r6) default)])), cRo Bs_8, cBlk nb0_7 [v_newer, I r13, I r23] 158, cOwn (α := Note) 30 u0_5 r4, cBlk nb0_1 [v_numbers, I q12, I q22] 158, cOwn (α := Raw 2) 60 u0_2 rr1_3, cRo Bs2_4]) (H.pick [1, 0, 2, 3, 4, 5, 6, 7, 8] (by decide) rfl) rfl)) ?_
 rintro vq w45z ⟨r7, q15, q25, u0_11, hr46z, hvq, H2_⟩
 subst hr46z
 subst vq
 try dsimp only at hM
 replace H : St w w45z [cOwn (α := Note) 30 u0_11 r7, cBlk nb0_6 [v_orders, I q15, I q25] 158, cOwn (α := Note) 30 v38z ([(r5.getD (Int.toNat r6) default)]), cOwn (α := Note) 30 v41z (r5 ++ ([(r5.getD (Int.toNat r6) default)])), cRo Bs_8, cBlk nb0_7 [v_newer, I r13, I r23] 158, cOwn (α := Note) 30 u0_5 r4, cBlk nb0_1 [v_numbers, I q12, I q22] 158, cOwn (α := Raw 2) 60 u0_2 rr1_3, cRo Bs2_4] R := H.pick [1, 0, 2, 3, 4, 5, 6, 7, 8] (by decide) rfl |>.back H2_ rfl
 clear H2_
 obtain ⟨⟨l2, e2⟩, hx50z, hM⟩ := M.e_bind hM
 obtain ⟨hq51z, hq52z⟩ := Prod.mk.inj (M.e_pure hx50z)
 try dsimp only at hM
 refine s_call cf21 [u0_2, u0_11] rfl (by have hc_ := (Values_any _ ((rowSl rfl (H.get (k := 8) rfl) (roLe _ (H.get (k := 9) rfl)) hf9z).mono (Cells.sup_le (ownLe _ (H.get (k := 8) rfl)) (roLe _ (H.get (k := 9) rfl)))) ((ownSl (H.get (k := 0) rfl)).mono (ownLe _ (H.get (k := 0) rfl)))); rw [hq51z, hq52z] at hc_; exact hc_) ?_
 rintro _ w47z ⟨u48z, rfl, hs49z, hx_⟩
 obtain ⟨Bs_12, H, hs49z⟩ := H.fresh hx_ hs49z
 clear hx_
 have hl_hs49z := hs49z.len_le
 refine sM (.tuple #[u48z, I e2]) rfl <| sX [u48z, I e2] u48z rfl rfl <| sX [u48z, I e2] (I e2) rfl rfl <| sA u48z rfl <| sA (I e2) rfl <| s_nil <| W.seq <| sQ rfl <| sM (I e) rfl <| sC e 0 (e != 0) rfl rfl rfl <| sM (B (e != 0)) rfl ?_
 refine g_val (!(e != 0)) (gy_f rfl) (fun hg => x_mv (v := I e2) rfl) <| g_val (!(e != 0)) (gy_f rfl) (fun hg => x_cmp (kd := .i64) (a := e2) (b := 0) (r := e2 != 0) (gd_of (c := !(e != 0)) hg (I e2)) rfl rfl) <| s_val (x_por (b := e != 0) (r := e2 != 0) rfl rfl (fun hb => gd_of (c := !(e != 0)) (by first | exact hb | (rw [hb]; rfl) | simp_all) (B (e2 != 0)))) <| sM (B ((e != 0) || (e2 != 0))) rfl <| g_val (!((e != 0) || (e2 != 0))) (gy_f rfl) (fun hg => x_mv (v := u23z) rfl) <| g_val (!((e != 0) || (e2 != 0))) (gy_f rfl) (fun hg => x_lenS T34.und (gd_of (c := !((e != 0) || (e2 != 0))) hg (u23z)) hs24z) <| g_val (!((e != 0) || (e2 != 0))) (gy_f rfl) (fun hg => x_mv (v := u0_2) rfl) <| g_val (!((e != 0) || (e2 != 0))) (gy_f rfl) (fun hg => x_lenS T22.und (gd_of (c := !((e != 0) || (e2 != 0))) hg (u0_2)) (rowSl rfl (H.get (k := 9) rfl) (roLe _ (H.get (k := 10) rfl)) hf9z)) <| g_val (!((e != 0) || (e2 != 0))) (gy_f rfl) (fun hg => x_cmp (kd := .i64) (a := (l.length : Int)) (b := (r3.length : Int)) (r := (l.length : Int) != (r3.length : Int)) (gd_of (c := !((e != 0) || (e2 != 0))) hg (I (l.length : Int))) (gd_of (c := !((e != 0) || (e2 != 0))) hg (I (r3.length : Int))) rfl) <| s_val (x_por (b := ((e != 0) || (e2 != 0))) (r := (l.length : Int) != (r3.length : Int)) rfl rfl (fun hb => gd_of (c := !((e != 0) || (e2 != 0))) (by first | exact hb | (rw [hb]; rfl) | simp_all) (B ((l.length : Int) != (r3.length : Int))))) <| sM (B (((e != 0) || (e2 != 0)) || ((l.length : Int) != (r3.length : Int)))) rfl <| g_val (!(((e != 0) || (e2 != 0)) || ((l.length : Int) != (r3.length : Int)))) (gy_f rfl) (fun hg => x_mv (v := u23z) rfl) ?_
 refine g_val (!(((e != 0) || (e2 != 0)) || ((l.length : Int) != (r3.length : Int)))) (gy_f rfl) (fun hg => x_mv (v := u48z) rfl) ?_
 refine t_gcall (!(((e != 0) || (e2 != 0)) || ((l.length : Int) != (r3.length : Int)))) (gy_f rfl) cf25 (B (decide (l = l2))) (fun _ => [u23z, u48z]) (fun hg => lst2 (gd_of (c := !(((e != 0) || (e2 != 0)) || ((l.length : Int) != (r3.length : Int)))) hg (u23z)) (gd_of (c := !(((e != 0) || (e2 != 0)) || ((l.length : Int) != (r3.length : Int)))) hg (u48z))) H (fun hg => Ret.mono (same_int _ (hs24z.mono (roLe _ (H.get (k := 5) rfl))) (hs49z.mono (roLe _ (H.get (k := 0) rfl)))) fun v_ w_ ⟨hv_, hx_⟩ => ⟨hv_, H.ext hx_⟩) ?_
 intro w55z H
 refine g_val (!(((e != 0) || (e2 != 0)) || ((l.length : Int) != (r3.length : Int)))) (gy_f rfl) (fun hg => x_not (b := decide (l = l2)) (gd_of (c := !(((e != 0) || (e2 != 0)) || ((l.length : Int) != (r3.length : Int)))) hg (B (decide (l = l2))))) <| s_val (x_por (b := (((e != 0) || (e2 != 0)) || ((l.length : Int) != (r3.length : Int)))) (r := !(decide (l = l2))) rfl rfl (fun hb => gd_of (c := !(((e != 0) || (e2 != 0)) || ((l.length : Int) != (r3.length : Int)))) (by first | exact hb | (rw [hb]; rfl) | simp_all) (B (!(decide (l = l2)))))) <| sM (B ((((e != 0) || (e2 != 0)) || ((l.length : Int) != (r3.length : Int))) || (!(decide (l = l2))))) rfl <| g_val (!((((e != 0) || (e2 != 0)) || ((l.length : Int) != (r3.length : Int))) || (!(decide (l = l2))))) (gy_f rfl) (fun hg => x_mv (v := u23z) rfl) ?_
 refine t_gcall (!((((e != 0) || (e2 != 0)) || ((l.length : Int) != (r3.length : Int))) || (!(decide (l = l2))))) (gy_f rfl) cf45 (B (l.contains (-1))) (fun _ => [u23z, I (-1)]) (fun hg => lst2 (gd_of (c := !((((e != 0) || (e2 != 0)) || ((l.length : Int) != (r3.length : Int))) || (!(decide (l = l2))))) hg (u23z)) rfl) H (fun hg => Ret.mono (contains_int (-1) _ (hs24z.mono (roLe _ (H.get (k := 5) rfl)))) fun v_ w_ ⟨hv_, hx_⟩ => ⟨hv_, H.ext hx_⟩) ?_
 intro w56z H
 refine s_val (x_por (b := ((((e != 0) || (e2 != 0)) || ((l.length : Int) != (r3.length : Int))) || (!(decide (l = l2))))) (r := l.contains (-1)) rfl rfl (fun hb => gd_of (c := !((((e != 0) || (e2 != 0)) || ((l.length : Int) != (r3.length : Int))) || (!(decide (l = l2))))) (by first | exact hb | (rw [hb]; rfl) | simp_all) (B (l.contains (-1))))) <| s_nil ?_
 refine W.cond (((((e != 0) || (e2 != 0)) || ((l.length : Int) != (r3.length : Int))) || (!(decide (l = l2)))) || (l.contains (-1))) rfl (fun c57z => ?_) (fun c57z => ?_)
 ·replace hM := M.e_t hM c57z
  refine sQ rfl <| sA (B false) rfl <| s_nil ?_
  refine W.ret ?_
  have hr_ := M.e_pure hM
  exact ⟨_, resE_tmp rfl, ⟨false, hr_, rfl, (H.pick [] (by decide) rfl)⟩⟩
 replace hM := M.e_f hM c57z
 refine W.skip <| sQ rfl <| sM u0_5 rfl <| sM (Pz nb0_7) rfl <| sM u0_5 rfl ?_
 have hl58z := ((ownSl (H.get (k := 7) rfl))).len_le
 refine s_val (x_lenS T23.und rfl (ownSl (H.get (k := 7) rfl))) ?_
 obtain ⟨r60z, hx59z, hM⟩ := M.e_bind hM
 refine s_call cf44 [Pz nb0_7, I (r4.length : Int)] rfl (nilometerkit_Stream_Next_ok newer r13 r23 (r4.length : Int) (hC_newer.app _) hs_newer hx59z _ (St.give (L := [cBlk nb0_7 [v_newer, I r13, I r23] 158, cRo Bs_12, cOwn (α := Note) 30 u0_11 r7, cBlk nb0_6 [v_orders, I q15, I q25] 158, cOwn (α := Note) 30 v38z ([(r5.getD (Int.toNat r6) default)]), cOwn (α := Note) 30 v41z (r5 ++ ([(r5.getD (Int.toNat r6) default)])), cRo Bs_8, cOwn (α := Note) 30 u0_5 r4, cBlk nb0_1 [v_numbers, I q12, I q22] 158, cOwn (α := Raw 2) 60 u0_2 rr1_3, cRo Bs2_4]) (A := [cBlk nb0_7 [v_newer, I r13, I r23] 158]) (T := [cRo Bs_12, cOwn (α := Note) 30 u0_11 r7, cBlk nb0_6 [v_orders, I q15, I q25] 158, cOwn (α := Note) 30 v38z ([(r5.getD (Int.toNat r6) default)]), cOwn (α := Note) 30 v41z (r5 ++ ([(r5.getD (Int.toNat r6) default)])), cRo Bs_8, cOwn (α := Note) 30 u0_5 r4, cBlk nb0_1 [v_numbers, I q12, I q22] 158, cOwn (α := Raw 2) 60 u0_2 rr1_3, cRo Bs2_4]) (H.pick [6, 0, 1, 2, 3, 4, 5, 7, 8, 9, 10] (by decide) rfl) rfl)) ?_
 rintro vq w61z ⟨r8, q16, q26, hr62z, hvq, H2_⟩
 subst hr62z
 subst vq
 try dsimp only at hM
 replace H : St w w61z [cBlk nb0_7 [v_newer, I q16, I q26] 158, cRo Bs_12, cOwn (α := Note) 30 u0_11 r7, cBlk nb0_6 [v_orders, I q15, I q25] 158, cOwn (α := Note) 30 v38z ([(r5.getD (Int.toNat r6) default)]), cOwn (α := Note) 30 v41z (r5 ++ ([(r5.getD (Int.toNat r6) default)])), cRo Bs_8, cOwn (α := Note) 30 u0_5 r4, cBlk nb0_1 [v_numbers, I q12, I q22] 158, cOwn (α := Raw 2) 60 u0_2 rr1_3, cRo Bs2_4] R := H.pick [6, 0, 1, 2, 3, 4, 5, 7, 8, 9, 10] (by decide) rfl |>.back H2_ rfl
 clear H2_
 obtain ⟨sd63z, hM⟩ := M.e_gd hM
 refine s_val (x_ix (a := u0_5) (b := I r8) (v := vat u0_5 3 (Int.toNat r8)) rfl rfl (Sl.ix (α := Note) T23.und T23.size (ownSl (H.get (k := 7) rfl)) (by omega) (by omega))) <| s_val (x_ld (p := vat u0_5 3 (Int.toNat r8)) (v := .agg #[I ((r4.getD (Int.toNat r8) default).work), I ((r4.getD (Int.toNat r8) default).version), I ((r4.getD (Int.toNat r8) default).value)]) rfl (ld_ag Ag30 Sz30 (At.mono (Note_atA (ownSl (H.get (k := 7) rfl)) (i := r8) (by omega) (by omega)) (ownLe _ (H.get (k := 7) rfl))))) ?_
 refine t_alloc (cs := [I 0, I 0, I 0]) H Al30 rfl ?_
 intro b_13 w64z H
 refine t_st (k := 0) (b := b_13) (off := 0) (cs := [I 0, I 0, I 0]) (vs := [I ((r4.getD (Int.toNat r8) default).work), I ((r4.getD (Int.toNat r8) default).version), I ((r4.getD (Int.toNat r8) default).value)]) (cs' := [I ((r4.getD (Int.toNat r8) default).work), I ((r4.getD (Int.toNat r8) default).version), I ((r4.getD (Int.toNat r8) default).value)]) (v := .agg #[I ((r4.getD (Int.toNat r8) default).work), I ((r4.getD (Int.toNat r8) default).version), I ((r4.getD (Int.toNat r8) default).value)]) (L' := [cBlk b_13 [I ((r4.getD (Int.toNat r8) default).work), I ((r4.getD (Int.toNat r8) default).version), I ((r4.getD (Int.toNat r8) default).value)] 30, cBlk nb0_7 [v_newer, I q16, I q26] 158, cRo Bs_12, cOwn (α := Note) 30 u0_11 r7, cBlk nb0_6 [v_orders, I q15, I q25] 158, cOwn (α := Note) 30 v38z ([(r5.getD (Int.toNat r6) default)]), cOwn (α := Note) 30 v41z (r5 ++ ([(r5.getD (Int.toNat r6) default)])), cRo Bs_8, cOwn (α := Note) 30 u0_5 r4, cBlk nb0_1 [v_numbers, I q12, I q22] 158, cOwn (α := Raw 2) 60 u0_2 rr1_3, cRo Bs2_4]) H rfl rfl rfl Sz30 rfl rfl rfl rfl rfl rfl ?_
 intro w65z H
 refine s_nil <| sQ rfl <| sM (Pz nb0_7) rfl ?_
 obtain ⟨r67z, hx66z, hM⟩ := M.e_bind hM
 refine s_call cf44 [Pz nb0_7, I 50] rfl (nilometerkit_Stream_Next_ok newer q16 q26 50 (hC_newer.app _) hs_newer hx66z _ (St.give (L := [cBlk nb0_7 [v_newer, I q16, I q26] 158, cBlk b_13 [I ((r4.getD (Int.toNat r8) default).work), I ((r4.getD (Int.toNat r8) default).version), I ((r4.getD (Int.toNat r8) default).value)] 30, cRo Bs_12, cOwn (α := Note) 30 u0_11 r7, cBlk nb0_6 [v_orders, I q15, I q25] 158, cOwn (α := Note) 30 v38z ([(r5.getD (Int.toNat r6) default)]), cOwn (α := Note) 30 v41z (r5 ++ ([(r5.getD (Int.toNat r6) default)])), cRo Bs_8, cOwn (α := Note) 30 u0_5 r4, cBlk nb0_1 [v_numbers, I q12, I q22] 158, cOwn (α := Raw 2) 60 u0_2 rr1_3, cRo Bs2_4]) (A := [cBlk nb0_7 [v_newer, I q16, I q26] 158]) (T := [cBlk b_13 [I ((r4.getD (Int.toNat r8) default).work), I ((r4.getD (Int.toNat r8) default).version), I ((r4.getD (Int.toNat r8) default).value)] 30, cRo Bs_12, cOwn (α := Note) 30 u0_11 r7, cBlk nb0_6 [v_orders, I q15, I q25] 158, cOwn (α := Note) 30 v38z ([(r5.getD (Int.toNat r6) default)]), cOwn (α := Note) 30 v41z (r5 ++ ([(r5.getD (Int.toNat r6) default)])), cRo Bs_8, cOwn (α := Note) 30 u0_5 r4, cBlk nb0_1 [v_numbers, I q12, I q22] 158, cOwn (α := Raw 2) 60 u0_2 rr1_3, cRo Bs2_4]) (H.pick [1, 0, 2, 3, 4, 5, 6, 7, 8, 9, 10, 11] (by decide) rfl) rfl)) ?_
 rintro vq w68z ⟨r9, q17, q27, hr69z, hvq, H2_⟩
 subst hr69z
 subst vq
 try dsimp only at hM
 replace H : St w w68z [cBlk nb0_7 [v_newer, I q17, I q27] 158, cBlk b_13 [I ((r4.getD (Int.toNat r8) default).work), I ((r4.getD (Int.toNat r8) default).version), I ((r4.getD (Int.toNat r8) default).value)] 30, cRo Bs_12, cOwn (α := Note) 30 u0_11 r7, cBlk nb0_6 [v_orders, I q15, I q25] 158, cOwn (α := Note) 30 v38z ([(r5.getD (Int.toNat r6) default)]), cOwn (α := Note) 30 v41z (r5 ++ ([(r5.getD (Int.toNat r6) default)])), cRo Bs_8, cOwn (α := Note) 30 u0_5 r4, cBlk nb0_1 [v_numbers, I q12, I q22] 158, cOwn (α := Raw 2) 60 u0_2 rr1_3, cRo Bs2_4] R := H.pick [1, 0, 2, 3, 4, 5, 6, 7, 8, 9, 10, 11] (by decide) rfl |>.back H2_ rfl
 clear H2_
 obtain ⟨sd70z, hM⟩ := M.e_gd hM
 refine sR 10 r9 (10 + r9) rfl rfl rfl (by omega) <| sM (Pz nb0_7) rfl ?_
 obtain ⟨r72z, hx71z, hM⟩ := M.e_bind hM
 refine s_call cf44 [Pz nb0_7, I 2000] rfl (nilometerkit_Stream_Next_ok newer q17 q27 2000 (hC_newer.app _) hs_newer hx71z _ (St.give (T := [cBlk b_13 [I ((r4.getD (Int.toNat r8) default).work), I ((r4.getD (Int.toNat r8) default).version), I ((r4.getD (Int.toNat r8) default).value)] 30, cRo Bs_12, cOwn (α := Note) 30 u0_11 r7, cBlk nb0_6 [v_orders, I q15, I q25] 158, cOwn (α := Note) 30 v38z ([(r5.getD (Int.toNat r6) default)]), cOwn (α := Note) 30 v41z (r5 ++ ([(r5.getD (Int.toNat r6) default)])), cRo Bs_8, cOwn (α := Note) 30 u0_5 r4, cBlk nb0_1 [v_numbers, I q12, I q22] 158, cOwn (α := Raw 2) 60 u0_2 rr1_3, cRo Bs2_4]) H rfl)) ?_
 rintro vq w73z ⟨r10, q18, q28, hr74z, hvq, H2_⟩
 subst hr74z
 subst vq
 try dsimp only at hM
 replace H : St w w73z [cBlk nb0_7 [v_newer, I q18, I q28] 158, cBlk b_13 [I ((r4.getD (Int.toNat r8) default).work), I ((r4.getD (Int.toNat r8) default).version), I ((r4.getD (Int.toNat r8) default).value)] 30, cRo Bs_12, cOwn (α := Note) 30 u0_11 r7, cBlk nb0_6 [v_orders, I q15, I q25] 158, cOwn (α := Note) 30 v38z ([(r5.getD (Int.toNat r6) default)]), cOwn (α := Note) 30 v41z (r5 ++ ([(r5.getD (Int.toNat r6) default)])), cRo Bs_8, cOwn (α := Note) 30 u0_5 r4, cBlk nb0_1 [v_numbers, I q12, I q22] 158, cOwn (α := Raw 2) 60 u0_2 rr1_3, cRo Bs2_4] R := H.back H2_ rfl
 clear H2_
 refine s_val (x_fa (a := Pz b_13) (v := Oz b_13 1) rfl (fa_blk (o := 0) Fd30_1 Sz3)) ?_
 refine t_st (k := 1) (b := b_13) (off := 1) (cs := [I ((r4.getD (Int.toNat r8) default).work), I ((r4.getD (Int.toNat r8) default).version), I ((r4.getD (Int.toNat r8) default).value)]) (vs := [I (10 + r9)]) (cs' := [I ((r4.getD (Int.toNat r8) default).work), I (10 + r9), I ((r4.getD (Int.toNat r8) default).value)]) (v := I (10 + r9)) (L' := [cBlk nb0_7 [v_newer, I q18, I q28] 158, cBlk b_13 [I ((r4.getD (Int.toNat r8) default).work), I (10 + r9), I ((r4.getD (Int.toNat r8) default).value)] 30, cRo Bs_12, cOwn (α := Note) 30 u0_11 r7, cBlk nb0_6 [v_orders, I q15, I q25] 158, cOwn (α := Note) 30 v38z ([(r5.getD (Int.toNat r6) default)]), cOwn (α := Note) 30 v41z (r5 ++ ([(r5.getD (Int.toNat r6) default)])), cRo Bs_8, cOwn (α := Note) 30 u0_5 r4, cBlk nb0_1 [v_numbers, I q12, I q22] 158, cOwn (α := Raw 2) 60 u0_2 rr1_3, cRo Bs2_4]) H rfl rfl rfl Sz3 rfl rfl rfl rfl rfl rfl ?_
 intro w75z H
 refine s_val (x_fa (a := Pz b_13) (v := Oz b_13 2) rfl (fa_blk (o := 0) Fd30_2 Sz3)) ?_
 refine t_st (k := 1) (b := b_13) (off := 2) (cs := [I ((r4.getD (Int.toNat r8) default).work), I (10 + r9), I ((r4.getD (Int.toNat r8) default).value)]) (vs := [I r10]) (cs' := [I ((r4.getD (Int.toNat r8) default).work), I (10 + r9), I r10]) (v := I r10) (L' := [cBlk nb0_7 [v_newer, I q18, I q28] 158, cBlk b_13 [I ((r4.getD (Int.toNat r8) default).work), I (10 + r9), I r10] 30, cRo Bs_12, cOwn (α := Note) 30 u0_11 r7, cBlk nb0_6 [v_orders, I q15, I q25] 158, cOwn (α := Note) 30 v38z ([(r5.getD (Int.toNat r6) default)]), cOwn (α := Note) 30 v41z (r5 ++ ([(r5.getD (Int.toNat r6) default)])), cRo Bs_8, cOwn (α := Note) 30 u0_5 r4, cBlk nb0_1 [v_numbers, I q12, I q22] 158, cOwn (α := Raw 2) 60 u0_2 rr1_3, cRo Bs2_4]) H rfl rfl rfl Sz3 rfl rfl rfl rfl rfl rfl ?_
 intro w76z H
 refine s_nil <| W.seq ?_
 refine W.drawT (fun W => St w W [cBlk nb0_7 [v_newer, I q18, I q28] 158, cBlk b_13 [I ((r4.getD (Int.toNat r8) default).work), I (10 + r9), I r10] 30, cRo Bs_12, cOwn (α := Note) 30 u0_11 r7, cOwn (α := Note) 30 v38z ([(r5.getD (Int.toNat r6) default)]), cOwn (α := Note) 30 v41z (r5 ++ ([(r5.getD (Int.toNat r6) default)])), cRo Bs_8, cOwn (α := Note) 30 u0_5 r4, cBlk nb0_1 [v_numbers, I q12, I q22] 158, cOwn (α := Raw 2) 60 u0_2 rr1_3, cRo Bs2_4] R) (.q 0 (.q 1 (.q 2 (.q 4 (.l2 3 (.l 5 (.l 6 (.l 7 (.l 8 (.q 9 (.q 10 (.q 11 (.q 12 (.q 13 .nil))))))))) 5 (.l 3 (.l 6 (.l 7 (.l 8 (.q 9 (.q 10 (.q 11 (.q 12 (.q 13 .nil)))))))))))))) mixed (by decide +kernel) rfl ?_
 intro w77z hx_
 replace H : St w w77z [cBlk nb0_7 [v_newer, I q18, I q28] 158, cBlk b_13 [I ((r4.getD (Int.toNat r8) default).work), I (10 + r9), I r10] 30, cRo Bs_12, cOwn (α := Note) 30 u0_11 r7, cBlk nb0_6 [v_orders, I q15, I q25] 158, cOwn (α := Note) 30 v38z ([(r5.getD (Int.toNat r6) default)]), cOwn (α := Note) 30 v41z (r5 ++ ([(r5.getD (Int.toNat r6) default)])), cRo Bs_8, cOwn (α := Note) 30 u0_5 r4, cBlk nb0_1 [v_numbers, I q12, I q22] 158, cOwn (α := Raw 2) 60 u0_2 rr1_3, cRo Bs2_4] R := H.ext hx_
 clear hx_
 refine ⟨(H.pick [0, 1, 2, 3, 5, 6, 7, 8, 9, 10, 11] (by decide) rfl), ?_⟩
 refine t_q rfl (fun w' H => x_mv (v := u0_2) rfl) ?_
 refine t_q rfl (fun w' H => x_mv (v := Pz nb0_6) rfl) ?_
 refine t_q rfl (fun w' H => x_mv (v := u0_5) rfl) ?_
 refine t_q rfl (fun w' H => x_ld (p := Pz b_13) (v := .agg #[I ((r4.getD (Int.toNat r8) default).work), I (10 + r9), I r10]) rfl (ldb_ag (ds := [I ((r4.getD (Int.toNat r8) default).work), I (10 + r9), I r10]) Ag30 Sz30 (H.blk (k := 1) rfl) rfl rfl)) ?_
 refine t_l2 rfl rfl ?_ ?_
 ·skip
  obtain ⟨sd101z, hM⟩ := M.e_gd hM
  refine s_call cf19 [u0_5] rfl (copy_note _ ((ownSl (H.get (k := 8) rfl)).mono (ownLe _ (H.get (k := 8) rfl))) (by omega)) ?_
  rintro v103z w102z ⟨ho_, hx_⟩
  replace H : St w w102z [cOwn (α := Note) 30 v103z r4, cBlk nb0_7 [v_newer, I q18, I q28] 158, cBlk b_13 [I ((r4.getD (Int.toNat r8) default).work), I (10 + r9), I r10] 30, cRo Bs_12, cOwn (α := Note) 30 u0_11 r7, cBlk nb0_6 [v_orders, I q15, I q25] 158, cOwn (α := Note) 30 v38z ([(r5.getD (Int.toNat r6) default)]), cOwn (α := Note) 30 v41z (r5 ++ ([(r5.getD (Int.toNat r6) default)])), cRo Bs_8, cOwn (α := Note) 30 u0_5 r4, cBlk nb0_1 [v_numbers, I q12, I q22] 158, cOwn (α := Raw 2) 60 u0_2 rr1_3, cRo Bs2_4] R := H.ownOf hx_ ho_
  clear hx_ ho_
  refine s_nil ⟨(H.pick [1, 2, 3, 4, 6, 7, 8, 9, 10, 11, 12] (by decide) rfl), ?_⟩
  refine t_l rfl ?_
  refine t_bs (α := Note) T23 [.agg #[I ((r4.getD (Int.toNat r8) default).work), I (10 + r9), I r10]] [(⟨((r4.getD (Int.toNat r8) default).work : Int), (10 + r9 : Int), (r10 : Int)⟩ : Note)] H rfl (.cons rfl (Flat.rep_enc _ (⟨((r4.getD (Int.toNat r8) default).work : Int), (10 + r9 : Int), (r10 : Int)⟩ : Note)) <| .nil) rfl rfl rfl ?_
  intro v104z w105z H
  refine s_nil ⟨(H.pick [2, 3, 4, 5, 7, 8, 9, 10, 11, 12, 13] (by decide) rfl), ?_⟩
  refine t_l rfl ?_
  obtain ⟨sd106z, hM⟩ := M.e_gd hM
  refine t_app (α := Note) (k := 1) (l := r4) (l2 := [(⟨((r4.getD (Int.toNat r8) default).work : Int), (10 + r9 : Int), (r10 : Int)⟩ : Note)]) (l' := r4 ++ ([(⟨((r4.getD (Int.toNat r8) default).work : Int), (10 + r9 : Int), (r10 : Int)⟩ : Note)])) (vy := v104z) T23 rfl H rfl rfl rfl (ownSl (H.get (k := 0) rfl)) (ownLe _ (H.get (k := 0) rfl)) (rfl) (by first | omega | (simp only [List.length_nil] at *; omega)) ?_
  intro v107z w108z H
  replace H : St w w108z [cOwn (α := Note) 30 v104z ([(⟨((r4.getD (Int.toNat r8) default).work : Int), (10 + r9 : Int), (r10 : Int)⟩ : Note)]), cOwn (α := Note) 30 v107z (r4 ++ ([(⟨((r4.getD (Int.toNat r8) default).work : Int), (10 + r9 : Int), (r10 : Int)⟩ : Note)])), cBlk nb0_7 [v_newer, I q18, I q28] 158, cBlk b_13 [I ((r4.getD (Int.toNat r8) default).work), I (10 + r9), I r10] 30, cRo Bs_12, cOwn (α := Note) 30 u0_11 r7, cBlk nb0_6 [v_orders, I q15, I q25] 158, cOwn (α := Note) 30 v38z ([(r5.getD (Int.toNat r6) default)]), cOwn (α := Note) 30 v41z (r5 ++ ([(r5.getD (Int.toNat r6) default)])), cRo Bs_8, cOwn (α := Note) 30 u0_5 r4, cBlk nb0_1 [v_numbers, I q12, I q22] 158, cOwn (α := Raw 2) 60 u0_2 rr1_3, cRo Bs2_4] R := H
  refine s_nil ⟨(H.pick [2, 3, 4, 5, 7, 8, 9, 10, 11, 12, 13] (by decide) rfl), ?_⟩
  refine t_l rfl ?_
  obtain ⟨r110z, hx109z, hM⟩ := M.e_bind hM
  refine s_call cf52 [Pz nb0_6, v107z] rfl (nilometerlaw13_mixed_ok orders q15 q25 (r4 ++ ([(⟨((r4.getD (Int.toNat r8) default).work : Int), (10 + r9 : Int), (r10 : Int)⟩ : Note)])) (hC_orders.app _) hs_orders (Reads.of (k := 1) rfl ownLe) (ownSl (H.get (k := 1) rfl)) hx109z _ (St.give (L := [cBlk nb0_6 [v_orders, I q15, I q25] 158, cOwn (α := Note) 30 v104z ([(⟨((r4.getD (Int.toNat r8) default).work : Int), (10 + r9 : Int), (r10 : Int)⟩ : Note)]), cOwn (α := Note) 30 v107z (r4 ++ ([(⟨((r4.getD (Int.toNat r8) default).work : Int), (10 + r9 : Int), (r10 : Int)⟩ : Note)])), cBlk nb0_7 [v_newer, I q18, I q28] 158, cBlk b_13 [I ((r4.getD (Int.toNat r8) default).work), I (10 + r9), I r10] 30, cRo Bs_12, cOwn (α := Note) 30 u0_11 r7, cOwn (α := Note) 30 v38z ([(r5.getD (Int.toNat r6) default)]), cOwn (α := Note) 30 v41z (r5 ++ ([(r5.getD (Int.toNat r6) default)])), cRo Bs_8, cOwn (α := Note) 30 u0_5 r4, cBlk nb0_1 [v_numbers, I q12, I q22] 158, cOwn (α := Raw 2) 60 u0_2 rr1_3, cRo Bs2_4]) (A := [cBlk nb0_6 [v_orders, I q15, I q25] 158]) (T := [cOwn (α := Note) 30 v104z ([(⟨((r4.getD (Int.toNat r8) default).work : Int), (10 + r9 : Int), (r10 : Int)⟩ : Note)]), cOwn (α := Note) 30 v107z (r4 ++ ([(⟨((r4.getD (Int.toNat r8) default).work : Int), (10 + r9 : Int), (r10 : Int)⟩ : Note)])), cBlk nb0_7 [v_newer, I q18, I q28] 158, cBlk b_13 [I ((r4.getD (Int.toNat r8) default).work), I (10 + r9), I r10] 30, cRo Bs_12, cOwn (α := Note) 30 u0_11 r7, cOwn (α := Note) 30 v38z ([(r5.getD (Int.toNat r6) default)]), cOwn (α := Note) 30 v41z (r5 ++ ([(r5.getD (Int.toNat r6) default)])), cRo Bs_8, cOwn (α := Note) 30 u0_5 r4, cBlk nb0_1 [v_numbers, I q12, I q22] 158, cOwn (α := Raw 2) 60 u0_2 rr1_3, cRo Bs2_4]) (H.pick [6, 0, 1, 2, 3, 4, 5, 7, 8, 9, 10, 11, 12, 13] (by decide) rfl) rfl)) ?_
  rintro vq w111z ⟨r11, q19, q29, u0_16, hr112z, hvq, H2_⟩
  subst hr112z
  subst vq
  try dsimp only at hM
  replace H : St w w111z [cOwn (α := Note) 30 u0_16 r11, cBlk nb0_6 [v_orders, I q19, I q29] 158, cOwn (α := Note) 30 v104z ([(⟨((r4.getD (Int.toNat r8) default).work : Int), (10 + r9 : Int), (r10 : Int)⟩ : Note)]), cOwn (α := Note) 30 v107z (r4 ++ ([(⟨((r4.getD (Int.toNat r8) default).work : Int), (10 + r9 : Int), (r10 : Int)⟩ : Note)])), cBlk nb0_7 [v_newer, I q18, I q28] 158, cBlk b_13 [I ((r4.getD (Int.toNat r8) default).work), I (10 + r9), I r10] 30, cRo Bs_12, cOwn (α := Note) 30 u0_11 r7, cOwn (α := Note) 30 v38z ([(r5.getD (Int.toNat r6) default)]), cOwn (α := Note) 30 v41z (r5 ++ ([(r5.getD (Int.toNat r6) default)])), cRo Bs_8, cOwn (α := Note) 30 u0_5 r4, cBlk nb0_1 [v_numbers, I q12, I q22] 158, cOwn (α := Raw 2) 60 u0_2 rr1_3, cRo Bs2_4] R := H.pick [6, 0, 1, 2, 3, 4, 5, 7, 8, 9, 10, 11, 12, 13] (by decide) rfl |>.back H2_ rfl
  clear H2_
  refine s_nil ⟨(H.pick [4, 5, 6, 7, 8, 9, 10, 11, 12, 13, 14] (by decide) rfl), ?_⟩
  refine t_l rfl ?_
  obtain ⟨⟨l3, e3⟩, hx116z, hM⟩ := M.e_bind hM
  obtain ⟨hq117z, hq118z⟩ := Prod.mk.inj (M.e_pure hx116z)
  try dsimp only at hM
  refine s_call cf21 [u0_2, u0_16] rfl (by have hc_ := (Values_any _ ((rowSl rfl (H.get (k := 13) rfl) (roLe _ (H.get (k := 14) rfl)) hf9z).mono (Cells.sup_le (ownLe _ (H.get (k := 13) rfl)) (roLe _ (H.get (k := 14) rfl)))) ((ownSl (H.get (k := 0) rfl)).mono (ownLe _ (H.get (k := 0) rfl)))); rw [hq117z, hq118z] at hc_; exact hc_) ?_
  rintro _ w113z ⟨u114z, rfl, hs115z, hx_⟩
  obtain ⟨Bs_17, H, hs115z⟩ := H.fresh hx_ hs115z
  clear hx_
  have hl_hs115z := hs115z.len_le
  refine s_nil ⟨(H.pick [5, 6, 7, 8, 9, 10, 11, 12, 13, 14, 15] (by decide) rfl), ?_⟩
  refine t_q rfl (fun w' H => x_mv (v := .tuple #[u114z, I e3]) rfl) ?_
  refine t_q rfl (fun w' H => x_ext (vs := [u114z, I e3]) (v := u114z) rfl rfl) ?_
  refine t_q rfl (fun w' H => x_ext (vs := [u114z, I e3]) (v := I e3) rfl rfl) ?_
  refine t_q rfl (fun w' H => x_as (v := u114z) rfl) ?_
  refine t_q rfl (fun w' H => x_as (v := I e3) rfl) ?_
  refine t_nil ?_
  refine sQ rfl <| sM u0_2 rfl <| s_val (x_fa (a := Pz b_13) (v := Pz b_13) rfl (fa_blk (o := 0) Fd30_0 Sz3)) <| s_val (x_ld (p := Pz b_13) (v := I ((r4.getD (Int.toNat r8) default).work)) rfl (ldb_sc Sc3 (H.blk (k := 6) rfl) rfl)) ?_
  refine t_bs (α := Int) T34 [I ((r4.getD (Int.toNat r8) default).work)] [((r4.getD (Int.toNat r8) default).work : Int)] H rfl (.cons rfl (Flat.rep_enc _ ((r4.getD (Int.toNat r8) default).work : Int)) <| .nil) rfl rfl rfl ?_
  intro v119z w120z H
  obtain ⟨⟨l4, e4⟩, hx124z, hM⟩ := M.e_bind hM
  obtain ⟨hq125z, hq126z⟩ := Prod.mk.inj (M.e_pure hx124z)
  try dsimp only at hM
  refine s_call cf32 [u0_2, v119z] rfl (by have hc_ := (Stale_any _ ((rowSl rfl (H.get (k := 15) rfl) (roLe _ (H.get (k := 16) rfl)) hf9z).mono (Cells.sup_le (ownLe _ (H.get (k := 15) rfl)) (roLe _ (H.get (k := 16) rfl)))) ((ownSl (H.get (k := 0) rfl)).mono (ownLe _ (H.get (k := 0) rfl)))); rw [hq125z, hq126z] at hc_; exact hc_) ?_
  rintro _ w121z ⟨u122z, rfl, hs123z, hx_⟩
  obtain ⟨Bs_19, H, hs123z⟩ := H.fresh hx_ hs123z
  clear hx_
  have hl_hs123z := hs123z.len_le
  refine sM (.tuple #[u122z, I e4]) rfl <| sX [u122z, I e4] u122z rfl rfl <| sX [u122z, I e4] (I e4) rfl rfl <| sA u122z rfl <| sA (I e4) rfl <| s_nil <| sQ rfl <| sM u0_2 rfl <| s_val (x_fa (a := Pz b_13) (v := Pz b_13) rfl (fa_blk (o := 0) Fd30_0 Sz3)) <| s_val (x_ld (p := Pz b_13) (v := I ((r4.getD (Int.toNat r8) default).work)) rfl (ldb_sc Sc3 (H.blk (k := 8) rfl) rfl)) ?_
  refine t_bs (α := Int) T34 [I ((r4.getD (Int.toNat r8) default).work)] [((r4.getD (Int.toNat r8) default).work : Int)] H rfl (.cons rfl (Flat.rep_enc _ ((r4.getD (Int.toNat r8) default).work : Int)) <| .nil) rfl rfl rfl ?_
  intro v127z w128z H
  refine sM u122z rfl ?_
  obtain ⟨r130z, hx129z, hM⟩ := M.e_bind hM
  refine s_call cf34 [u0_2, v127z, u122z] rfl (notes_Fences_ok r3 ([((r4.getD (Int.toNat r8) default).work : Int)]) l4 (Reads.sup (Reads.of (k := 17) rfl ownLe) (Reads.of (k := 18) rfl roLe)) (rowSl rfl (H.get (k := 17) rfl) (roLe _ (H.get (k := 18) rfl)) hf9z) (Reads.of (k := 0) rfl ownLe) (ownSl (H.get (k := 0) rfl)) (Reads.of (k := 1) rfl roLe) hs123z hx129z _ (St.give (T := [cOwn (α := Int) 3 v127z ([((r4.getD (Int.toNat r8) default).work : Int)]), cRo Bs_19, cOwn (α := Int) 3 v119z ([((r4.getD (Int.toNat r8) default).work : Int)]), cRo Bs_17, cOwn (α := Note) 30 u0_16 r11, cBlk nb0_6 [v_orders, I q19, I q29] 158, cOwn (α := Note) 30 v104z ([(⟨((r4.getD (Int.toNat r8) default).work : Int), (10 + r9 : Int), (r10 : Int)⟩ : Note)]), cOwn (α := Note) 30 v107z (r4 ++ ([(⟨((r4.getD (Int.toNat r8) default).work : Int), (10 + r9 : Int), (r10 : Int)⟩ : Note)])), cBlk nb0_7 [v_newer, I q18, I q28] 158, cBlk b_13 [I ((r4.getD (Int.toNat r8) default).work), I (10 + r9), I r10] 30, cRo Bs_12, cOwn (α := Note) 30 u0_11 r7, cOwn (α := Note) 30 v38z ([(r5.getD (Int.toNat r6) default)]), cOwn (α := Note) 30 v41z (r5 ++ ([(r5.getD (Int.toNat r6) default)])), cRo Bs_8, cOwn (α := Note) 30 u0_5 r4, cBlk nb0_1 [v_numbers, I q12, I q22] 158, cOwn (α := Raw 2) 60 u0_2 rr1_3, cRo Bs2_4]) H rfl)) ?_
  rintro vq w131z ⟨r0, r14, hr132z, hvq, H2_⟩
  subst hr132z
  subst vq
  try dsimp only at hM
  replace H : St w w131z [cOwn (α := Int) 3 v127z ([((r4.getD (Int.toNat r8) default).work : Int)]), cRo Bs_19, cOwn (α := Int) 3 v119z ([((r4.getD (Int.toNat r8) default).work : Int)]), cRo Bs_17, cOwn (α := Note) 30 u0_16 r11, cBlk nb0_6 [v_orders, I q19, I q29] 158, cOwn (α := Note) 30 v104z ([(⟨((r4.getD (Int.toNat r8) default).work : Int), (10 + r9 : Int), (r10 : Int)⟩ : Note)]), cOwn (α := Note) 30 v107z (r4 ++ ([(⟨((r4.getD (Int.toNat r8) default).work : Int), (10 + r9 : Int), (r10 : Int)⟩ : Note)])), cBlk nb0_7 [v_newer, I q18, I q28] 158, cBlk b_13 [I ((r4.getD (Int.toNat r8) default).work), I (10 + r9), I r10] 30, cRo Bs_12, cOwn (α := Note) 30 u0_11 r7, cOwn (α := Note) 30 v38z ([(r5.getD (Int.toNat r6) default)]), cOwn (α := Note) 30 v41z (r5 ++ ([(r5.getD (Int.toNat r6) default)])), cRo Bs_8, cOwn (α := Note) 30 u0_5 r4, cBlk nb0_1 [v_numbers, I q12, I q22] 158, cOwn (α := Raw 2) 60 u0_2 rr1_3, cRo Bs2_4] R := H.back H2_ rfl
  clear H2_
  refine sM (.tuple #[B r0, I r14]) rfl <| sX [B r0, I r14] (B r0) rfl rfl <| sX [B r0, I r14] (I r14) rfl rfl <| sA (B r0) rfl <| sA (I r14) rfl <| s_nil <| W.seq <| W.seq ?_
  refine W.draw (fun W => St w W [cOwn (α := Int) 3 v127z ([((r4.getD (Int.toNat r8) default).work : Int)]), cRo Bs_19, cOwn (α := Int) 3 v119z ([((r4.getD (Int.toNat r8) default).work : Int)]), cRo Bs_17, cOwn (α := Note) 30 u0_16 r11, cBlk nb0_6 [v_orders, I q19, I q29] 158, cOwn (α := Note) 30 v104z ([(⟨((r4.getD (Int.toNat r8) default).work : Int), (10 + r9 : Int), (r10 : Int)⟩ : Note)]), cOwn (α := Note) 30 v107z (r4 ++ ([(⟨((r4.getD (Int.toNat r8) default).work : Int), (10 + r9 : Int), (r10 : Int)⟩ : Note)])), cBlk nb0_7 [v_newer, I q18, I q28] 158, cBlk b_13 [I ((r4.getD (Int.toNat r8) default).work), I (10 + r9), I r10] 30, cRo Bs_12, cOwn (α := Note) 30 u0_11 r7, cOwn (α := Note) 30 v38z ([(r5.getD (Int.toNat r6) default)]), cOwn (α := Note) 30 v41z (r5 ++ ([(r5.getD (Int.toNat r6) default)])), cRo Bs_8, cOwn (α := Note) 30 u0_5 r4, cBlk nb0_1 [v_numbers, I q12, I q22] 158, cOwn (α := Raw 2) 60 u0_2 rr1_3, cRo Bs2_4] R) [(0, true), (1, true), (2, true), (3, true), (4, true), (5, true), (6, true), (7, true), (8, true), (9, true), (10, true), (11, true), (12, true), (13, true), (14, true), (15, true), (16, true), (17, true), (18, true), (19, true), (20, true), (21, true), (22, true), (23, true), (24, true), (25, true), (26, true), (27, true), (28, true), (29, true), (30, true)] mixed (by decide +kernel) rfl ?_
  intro w133z hx_
  replace H : St w w133z [cOwn (α := Int) 3 v127z ([((r4.getD (Int.toNat r8) default).work : Int)]), cRo Bs_19, cOwn (α := Int) 3 v119z ([((r4.getD (Int.toNat r8) default).work : Int)]), cRo Bs_17, cOwn (α := Note) 30 u0_16 r11, cBlk nb0_6 [v_orders, I q19, I q29] 158, cOwn (α := Note) 30 v104z ([(⟨((r4.getD (Int.toNat r8) default).work : Int), (10 + r9 : Int), (r10 : Int)⟩ : Note)]), cOwn (α := Note) 30 v107z (r4 ++ ([(⟨((r4.getD (Int.toNat r8) default).work : Int), (10 + r9 : Int), (r10 : Int)⟩ : Note)])), cBlk nb0_7 [v_newer, I q18, I q28] 158, cBlk b_13 [I ((r4.getD (Int.toNat r8) default).work), I (10 + r9), I r10] 30, cRo Bs_12, cOwn (α := Note) 30 u0_11 r7, cOwn (α := Note) 30 v38z ([(r5.getD (Int.toNat r6) default)]), cOwn (α := Note) 30 v41z (r5 ++ ([(r5.getD (Int.toNat r6) default)])), cRo Bs_8, cOwn (α := Note) 30 u0_5 r4, cBlk nb0_1 [v_numbers, I q12, I q22] 158, cOwn (α := Raw 2) 60 u0_2 rr1_3, cRo Bs2_4] R := H.ext hx_
  clear hx_
  refine ⟨(H.pick [0, 1, 2, 3, 4, 5, 6, 7, 8, 9, 10, 11, 12, 13, 14, 15, 16, 17, 18] (by decide) rfl), ?_⟩
  refine d_q rfl (fun w' H => x_mv (v := I e3) rfl) ?_
  refine d_q rfl (fun w' H => x_cmp (kd := .i64) (a := e3) (b := 0) (r := e3 != 0) rfl rfl rfl) ?_
  refine d_q rfl (fun w' H => x_mv (v := B (e3 != 0)) rfl) ?_
  refine d_qg (!(e3 != 0)) rfl (gy_f rfl) (fun hg => (fun w' H => x_mv (v := I e4) rfl)) ?_
  refine d_qg (!(e3 != 0)) rfl (gy_f rfl) (fun hg => (fun w' H => x_cmp (kd := .i64) (a := e4) (b := 0) (r := e4 != 0) (gd_of (c := !(e3 != 0)) hg (I e4)) rfl rfl)) ?_
  refine d_q rfl (fun w' H => x_por (b := e3 != 0) (r := e4 != 0) rfl rfl (fun hb => gd_of (c := !(e3 != 0)) (by first | exact hb | (rw [hb]; rfl) | simp_all) (B (e4 != 0)))) ?_
  refine d_q rfl (fun w' H => x_mv (v := B ((e3 != 0) || (e4 != 0))) rfl) ?_
  refine d_qg (!((e3 != 0) || (e4 != 0))) rfl (gy_f rfl) (fun hg => (fun w' H => x_mv (v := I r14) rfl)) ?_
  refine d_qg (!((e3 != 0) || (e4 != 0))) rfl (gy_f rfl) (fun hg => (fun w' H => x_cmp (kd := .i64) (a := r14) (b := 0) (r := r14 != 0) (gd_of (c := !((e3 != 0) || (e4 != 0))) hg (I r14)) rfl rfl)) ?_
  refine d_q rfl (fun w' H => x_por (b := ((e3 != 0) || (e4 != 0))) (r := r14 != 0) rfl rfl (fun hb => gd_of (c := !((e3 != 0) || (e4 != 0))) (by first | exact hb | (rw [hb]; rfl) | simp_all) (B (r14 != 0)))) ?_
  refine d_q rfl (fun w' H => x_mv (v := B (((e3 != 0) || (e4 != 0)) || (r14 != 0))) rfl) ?_
  refine d_qg (!(((e3 != 0) || (e4 != 0)) || (r14 != 0))) rfl (gy_f rfl) (fun hg => (fun w' H => x_mv (v := B r0) rfl)) ?_
  refine d_qg (!(((e3 != 0) || (e4 != 0)) || (r14 != 0))) rfl (gy_f rfl) (fun hg => (fun w' H => x_not (b := r0) (gd_of (c := !(((e3 != 0) || (e4 != 0)) || (r14 != 0))) hg (B r0)))) ?_
  refine d_q rfl (fun w' H => x_por (b := (((e3 != 0) || (e4 != 0)) || (r14 != 0))) (r := !r0) rfl rfl (fun hb => gd_of (c := !(((e3 != 0) || (e4 != 0)) || (r14 != 0))) (by first | exact hb | (rw [hb]; rfl) | simp_all) (B (!r0)))) ?_
  refine d_q rfl (fun w' H => x_mv (v := B ((((e3 != 0) || (e4 != 0)) || (r14 != 0)) || (!r0))) rfl) ?_
  refine d_qg (!((((e3 != 0) || (e4 != 0)) || (r14 != 0)) || (!r0))) rfl (gy_f rfl) (fun hg => (fun w' H => x_mv (v := u114z) rfl)) ?_
  refine d_qg (!((((e3 != 0) || (e4 != 0)) || (r14 != 0)) || (!r0))) rfl (gy_f rfl) (fun hg => (fun w' H => x_lenS T34.und (gd_of (c := !((((e3 != 0) || (e4 != 0)) || (r14 != 0)) || (!r0))) hg (u114z)) hs115z)) ?_
  refine d_qg (!((((e3 != 0) || (e4 != 0)) || (r14 != 0)) || (!r0))) rfl (gy_f rfl) (fun hg => (fun w' H => x_mv (v := u0_2) rfl)) ?_
  refine d_qg (!((((e3 != 0) || (e4 != 0)) || (r14 != 0)) || (!r0))) rfl (gy_f rfl) (fun hg => (fun w' H => x_lenS T22.und (gd_of (c := !((((e3 != 0) || (e4 != 0)) || (r14 != 0)) || (!r0))) hg (u0_2)) (rowSl rfl (H.get (k := 17) rfl) (roLe _ (H.get (k := 18) rfl)) hf9z))) ?_
  refine d_qg (!((((e3 != 0) || (e4 != 0)) || (r14 != 0)) || (!r0))) rfl (gy_f rfl) (fun hg => (fun w' H => x_cmp (kd := .i64) (a := (l3.length : Int)) (b := (r3.length : Int)) (r := (l3.length : Int) != (r3.length : Int)) (gd_of (c := !((((e3 != 0) || (e4 != 0)) || (r14 != 0)) || (!r0))) hg (I (l3.length : Int))) (gd_of (c := !((((e3 != 0) || (e4 != 0)) || (r14 != 0)) || (!r0))) hg (I (r3.length : Int))) rfl)) ?_
  refine d_q rfl (fun w' H => x_por (b := ((((e3 != 0) || (e4 != 0)) || (r14 != 0)) || (!r0))) (r := (l3.length : Int) != (r3.length : Int)) rfl rfl (fun hb => gd_of (c := !((((e3 != 0) || (e4 != 0)) || (r14 != 0)) || (!r0))) (by first | exact hb | (rw [hb]; rfl) | simp_all) (B ((l3.length : Int) != (r3.length : Int))))) ?_
  refine d_q rfl (fun w' H => x_mv (v := B (((((e3 != 0) || (e4 != 0)) || (r14 != 0)) || (!r0)) || ((l3.length : Int) != (r3.length : Int)))) rfl) ?_
  refine d_qg (!(((((e3 != 0) || (e4 != 0)) || (r14 != 0)) || (!r0)) || ((l3.length : Int) != (r3.length : Int)))) rfl (gy_f rfl) (fun hg => (fun w' H => x_mv (v := u114z) rfl)) ?_
  refine d_qg (!(((((e3 != 0) || (e4 != 0)) || (r14 != 0)) || (!r0)) || ((l3.length : Int) != (r3.length : Int)))) rfl (gy_f rfl) (fun hg => (fun w' H => x_fa (a := Pz b_13) (v := Pz b_13) rfl (fa_blk (o := 0) Fd30_0 Sz3))) ?_
  refine d_qg (!(((((e3 != 0) || (e4 != 0)) || (r14 != 0)) || (!r0)) || ((l3.length : Int) != (r3.length : Int)))) rfl (gy_f rfl) (fun hg => (fun w' H => x_ld (p := Pz b_13) (v := I ((r4.getD (Int.toNat r8) default).work)) (gd_of (c := !(((((e3 != 0) || (e4 != 0)) || (r14 != 0)) || (!r0)) || ((l3.length : Int) != (r3.length : Int)))) hg (Pz b_13)) (ldb_sc Sc3 (H.blk (k := 9) rfl) rfl))) ?_
  obtain ⟨sd136z, hM⟩ := M.e_grd hM
  replace sd136z := M.imp_of sd136z
  simp only [Bool.and_eq_true, decide_eq_true_eq] at sd136z
  refine d_qg (!(((((e3 != 0) || (e4 != 0)) || (r14 != 0)) || (!r0)) || ((l3.length : Int) != (r3.length : Int)))) rfl (gy_f rfl) (fun hg => (fun w' H => x_ix (a := u114z) (b := I ((r4.getD (Int.toNat r8) default).work)) (v := vat u114z 1 (Int.toNat ((r4.getD (Int.toNat r8) default).work))) (gd_of (c := !(((((e3 != 0) || (e4 != 0)) || (r14 != 0)) || (!r0)) || ((l3.length : Int) != (r3.length : Int)))) hg (u114z)) (gd_of (c := !(((((e3 != 0) || (e4 != 0)) || (r14 != 0)) || (!r0)) || ((l3.length : Int) != (r3.length : Int)))) hg (I ((r4.getD (Int.toNat r8) default).work))) (Sl.ix (α := Int) T34.und T34.size hs115z (by have h1_ := sd136z.resolve_left (by rw [hg]; decide); first | exact h1_ | exact h1_.1 | exact h1_.2 | omega | (have hx_ := hg; simp at hx_; omega)) (by have h1_ := sd136z.resolve_left (by rw [hg]; decide); first | exact h1_ | exact h1_.1 | exact h1_.2 | omega | (have hx_ := hg; simp at hx_; omega))))) ?_
  refine d_qg (!(((((e3 != 0) || (e4 != 0)) || (r14 != 0)) || (!r0)) || ((l3.length : Int) != (r3.length : Int)))) rfl (gy_f rfl) (fun hg => (fun w' H => x_ld (p := vat u114z 1 (Int.toNat ((r4.getD (Int.toNat r8) default).work))) (v := I (l3.getD (Int.toNat ((r4.getD (Int.toNat r8) default).work)) 0)) (gd_of (c := !(((((e3 != 0) || (e4 != 0)) || (r14 != 0)) || (!r0)) || ((l3.length : Int) != (r3.length : Int)))) hg (vat u114z 1 (Int.toNat ((r4.getD (Int.toNat r8) default).work)))) (ld_sc Sc3 (At.mono (Int_at hs115z (i := (r4.getD (Int.toNat r8) default).work) (by have h1_ := sd136z.resolve_left (by rw [hg]; decide); first | exact h1_ | exact h1_.1 | exact h1_.2 | omega | (have hx_ := hg; simp at hx_; omega)) (by have h1_ := sd136z.resolve_left (by rw [hg]; decide); first | exact h1_ | exact h1_.1 | exact h1_.2 | omega | (have hx_ := hg; simp at hx_; omega))) (roLe _ (H.get (k := 3) rfl)))))) ?_
  refine d_qg (!(((((e3 != 0) || (e4 != 0)) || (r14 != 0)) || (!r0)) || ((l3.length : Int) != (r3.length : Int)))) rfl (gy_f rfl) (fun hg => (fun w' H => x_fa (a := Pz b_13) (v := Oz b_13 2) rfl (fa_blk (o := 0) Fd30_2 Sz3))) ?_
  refine d_qg (!(((((e3 != 0) || (e4 != 0)) || (r14 != 0)) || (!r0)) || ((l3.length : Int) != (r3.length : Int)))) rfl (gy_f rfl) (fun hg => (fun w' H => x_ld (p := Oz b_13 2) (v := I r10) (gd_of (c := !(((((e3 != 0) || (e4 != 0)) || (r14 != 0)) || (!r0)) || ((l3.length : Int) != (r3.length : Int)))) hg (Oz b_13 2)) (ldb_sc Sc3 (H.blk (k := 9) rfl) rfl))) ?_
  refine d_qg (!(((((e3 != 0) || (e4 != 0)) || (r14 != 0)) || (!r0)) || ((l3.length : Int) != (r3.length : Int)))) rfl (gy_f rfl) (fun hg => (fun w' H => x_cmp (kd := .i64) (a := l3.getD (Int.toNat ((r4.getD (Int.toNat r8) default).work)) 0) (b := r10) (r := (l3.getD (Int.toNat ((r4.getD (Int.toNat r8) default).work)) 0) != r10) (gd_of (c := !(((((e3 != 0) || (e4 != 0)) || (r14 != 0)) || (!r0)) || ((l3.length : Int) != (r3.length : Int)))) hg (I (l3.getD (Int.toNat ((r4.getD (Int.toNat r8) default).work)) 0))) (gd_of (c := !(((((e3 != 0) || (e4 != 0)) || (r14 != 0)) || (!r0)) || ((l3.length : Int) != (r3.length : Int)))) hg (I r10)) rfl)) ?_
  refine d_q rfl (fun w' H => x_por (b := (((((e3 != 0) || (e4 != 0)) || (r14 != 0)) || (!r0)) || ((l3.length : Int) != (r3.length : Int)))) (r := (l3.getD (Int.toNat ((r4.getD (Int.toNat r8) default).work)) 0) != r10) rfl rfl (fun hb => gd_of (c := !(((((e3 != 0) || (e4 != 0)) || (r14 != 0)) || (!r0)) || ((l3.length : Int) != (r3.length : Int)))) (by first | exact hb | (rw [hb]; rfl) | simp_all) (B ((l3.getD (Int.toNat ((r4.getD (Int.toNat r8) default).work)) 0) != r10)))) ?_
  refine d_nil ?_
  refine W.cond ((((((e3 != 0) || (e4 != 0)) || (r14 != 0)) || (!r0)) || ((l3.length : Int) != (r3.length : Int))) || ((l3.getD (Int.toNat ((r4.getD (Int.toNat r8) default).work)) 0) != r10)) rfl (fun c137z => ?_) (fun c137z => ?_)
  ·replace hM := M.e_t hM c137z
   refine sQ rfl <| sA (B false) rfl <| s_nil ?_
   refine W.ret ?_
   have hr_ := M.e_pure hM
   exact ⟨_, resE_tmp rfl, ⟨false, hr_, rfl, (H.pick [] (by decide) rfl)⟩⟩
  replace hM := M.e_f hM c137z
  refine W.skip <| W.seq <| sQ rfl <| sM u0_2 rfl ?_
  have hl138z := ((rowSl rfl (H.get (k := 17) rfl) (roLe _ (H.get (k := 18) rfl)) hf9z)).len_le
  refine s_val (x_lenS T22.und rfl (rowSl rfl (H.get (k := 17) rfl) (roLe _ (H.get (k := 18) rfl)) hf9z)) <| sM (I 0) rfl <| s_nil <| W.block ?_
  obtain ⟨ex139z, hi140z, hk141z⟩ := M.e_bind hM
  obtain ⟨m0_, hi140z⟩ := M.e_iter hi140z
  refine W.loop (fun m σ W => ∃ (s : Nat) (ρ : Env), σ = upds ρ [(8, u0_2), (12, u23z), (17, Pz b_13), (18, u114z), (19, u122z), (163, I (r3.length : Int)), (164, I (s : Int))] ∧ M.iterN (m_nilometerlaw13_NotesOnce_b0 r3 r4 l r8 l3 l4) m s = some ex139z ∧ St w W [cOwn (α := Int) 3 v127z ([((r4.getD (Int.toNat r8) default).work : Int)]), cRo Bs_19, cOwn (α := Int) 3 v119z ([((r4.getD (Int.toNat r8) default).work : Int)]), cRo Bs_17, cOwn (α := Note) 30 u0_16 r11, cBlk nb0_6 [v_orders, I q19, I q29] 158, cOwn (α := Note) 30 v104z ([(⟨((r4.getD (Int.toNat r8) default).work : Int), (10 + r9 : Int), (r10 : Int)⟩ : Note)]), cOwn (α := Note) 30 v107z (r4 ++ ([(⟨((r4.getD (Int.toNat r8) default).work : Int), (10 + r9 : Int), (r10 : Int)⟩ : Note)])), cBlk nb0_7 [v_newer, I q18, I q28] 158, cBlk b_13 [I ((r4.getD (Int.toNat r8) default).work), I (10 + r9), I r10] 30, cRo Bs_12, cOwn (α := Note) 30 u0_11 r7, cOwn (α := Note) 30 v38z ([(r5.getD (Int.toNat r6) default)]), cOwn (α := Note) 30 v41z (r5 ++ ([(r5.getD (Int.toNat r6) default)])), cRo Bs_8, cOwn (α := Note) 30 u0_5 r4, cBlk nb0_1 [v_numbers, I q12, I q22] 158, cOwn (α := Raw 2) 60 u0_2 rr1_3, cRo Bs2_4] R) ?_ ?_
  ·exact ⟨_, 0, _, upds_of _ _ ⟨rfl, rfl, rfl, rfl, rfl, rfl, rfl, trivial⟩, hi140z, H⟩
  rintro m144z σ w142z ⟨s, ρ, rfl, hI143z, H⟩
  obtain ⟨m145z, lt146z, x147z, hM, hN148z⟩ := M.e_iterN hI143z
  simp only [m_nilometerlaw13_NotesOnce_b0] at hM
  clear hI143z
  refine sQ rfl <| sC (s : Int) (r3.length : Int) (decide ((s : Int) < (r3.length : Int))) rfl rfl rfl <| s_nil <| W.seq ?_
  refine W.cond (decide ((s : Int) < (r3.length : Int))) rfl (fun c149z => ?_) (fun c149z => ?_)
  ·replace hM := M.e_t hM c149z
   simp only [qz1, qz2, qz3, qz4, qz5, qz6, ne_eq, qz7] at c149z
   refine W.skip <| W.seq <| W.block <| sQ rfl <| sM (I (s : Int)) rfl <| sA (I (s : Int)) rfl <| s_nil <| sQ rfl <| sM u0_2 rfl <| s_val (x_fa (a := Pz b_13) (v := Pz b_13) rfl (fa_blk (o := 0) Fd30_0 Sz3)) ?_
   refine s_val (x_ld (p := Pz b_13) (v := I ((r4.getD (Int.toNat r8) default).work)) rfl (ldb_sc Sc3 (H.blk (k := 9) rfl) rfl)) <| sM (I (s : Int)) rfl ?_
   obtain ⟨r151z, hx150z, hM⟩ := M.e_bind hM
   refine s_call cf53 [u0_2, I ((r4.getD (Int.toNat r8) default).work), I (s : Int)] rfl (notes_Line_ok r3 ((r4.getD (Int.toNat r8) default).work) (s : Int) (Reads.sup (Reads.of (k := 17) rfl ownLe) (Reads.of (k := 18) rfl roLe)) (rowSl rfl (H.get (k := 17) rfl) (roLe _ (H.get (k := 18) rfl)) hf9z) hx150z _ (St.give (T := [cOwn (α := Int) 3 v127z ([((r4.getD (Int.toNat r8) default).work : Int)]), cRo Bs_19, cOwn (α := Int) 3 v119z ([((r4.getD (Int.toNat r8) default).work : Int)]), cRo Bs_17, cOwn (α := Note) 30 u0_16 r11, cBlk nb0_6 [v_orders, I q19, I q29] 158, cOwn (α := Note) 30 v104z ([(⟨((r4.getD (Int.toNat r8) default).work : Int), (10 + r9 : Int), (r10 : Int)⟩ : Note)]), cOwn (α := Note) 30 v107z (r4 ++ ([(⟨((r4.getD (Int.toNat r8) default).work : Int), (10 + r9 : Int), (r10 : Int)⟩ : Note)])), cBlk nb0_7 [v_newer, I q18, I q28] 158, cBlk b_13 [I ((r4.getD (Int.toNat r8) default).work), I (10 + r9), I r10] 30, cRo Bs_12, cOwn (α := Note) 30 u0_11 r7, cOwn (α := Note) 30 v38z ([(r5.getD (Int.toNat r6) default)]), cOwn (α := Note) 30 v41z (r5 ++ ([(r5.getD (Int.toNat r6) default)])), cRo Bs_8, cOwn (α := Note) 30 u0_5 r4, cBlk nb0_1 [v_numbers, I q12, I q22] 158, cOwn (α := Raw 2) 60 u0_2 rr1_3, cRo Bs2_4]) H rfl)) ?_
   rintro vq w152z ⟨r02, r15, u0_21, hr153z, hvq, H2_⟩
   subst hr153z
   subst vq
   try dsimp only at hM
   replace H : St w w152z [cOwn (α := Int) 3 u0_21 r02, cOwn (α := Int) 3 v127z ([((r4.getD (Int.toNat r8) default).work : Int)]), cRo Bs_19, cOwn (α := Int) 3 v119z ([((r4.getD (Int.toNat r8) default).work : Int)]), cRo Bs_17, cOwn (α := Note) 30 u0_16 r11, cBlk nb0_6 [v_orders, I q19, I q29] 158, cOwn (α := Note) 30 v104z ([(⟨((r4.getD (Int.toNat r8) default).work : Int), (10 + r9 : Int), (r10 : Int)⟩ : Note)]), cOwn (α := Note) 30 v107z (r4 ++ ([(⟨((r4.getD (Int.toNat r8) default).work : Int), (10 + r9 : Int), (r10 : Int)⟩ : Note)])), cBlk nb0_7 [v_newer, I q18, I q28] 158, cBlk b_13 [I ((r4.getD (Int.toNat r8) default).work), I (10 + r9), I r10] 30, cRo Bs_12, cOwn (α := Note) 30 u0_11 r7, cOwn (α := Note) 30 v38z ([(r5.getD (Int.toNat r6) default)]), cOwn (α := Note) 30 v41z (r5 ++ ([(r5.getD (Int.toNat r6) default)])), cRo Bs_8, cOwn (α := Note) 30 u0_5 r4, cBlk nb0_1 [v_numbers, I q12, I q22] 158, cOwn (α := Raw 2) 60 u0_2 rr1_3, cRo Bs2_4] R := H.back H2_ rfl
   clear H2_
   refine sM (.tuple #[u0_21, I r15]) rfl <| sX [u0_21, I r15] u0_21 rfl rfl <| sX [u0_21, I r15] (I r15) rfl rfl <| sA u0_21 rfl <| sA (I r15) rfl <| s_nil <| W.seq <| sQ rfl <| sM u122z rfl <| sM (I (s : Int)) rfl ?_
   refine s_call cf45 [u122z, I (s : Int)] rfl (contains_int (s : Int) _ (hs123z.mono (roLe _ (H.get (k := 2) rfl)))) ?_
   rintro _ w154z ⟨rfl, hx_⟩
   replace H : St w w154z [cOwn (α := Int) 3 u0_21 r02, cOwn (α := Int) 3 v127z ([((r4.getD (Int.toNat r8) default).work : Int)]), cRo Bs_19, cOwn (α := Int) 3 v119z ([((r4.getD (Int.toNat r8) default).work : Int)]), cRo Bs_17, cOwn (α := Note) 30 u0_16 r11, cBlk nb0_6 [v_orders, I q19, I q29] 158, cOwn (α := Note) 30 v104z ([(⟨((r4.getD (Int.toNat r8) default).work : Int), (10 + r9 : Int), (r10 : Int)⟩ : Note)]), cOwn (α := Note) 30 v107z (r4 ++ ([(⟨((r4.getD (Int.toNat r8) default).work : Int), (10 + r9 : Int), (r10 : Int)⟩ : Note)])), cBlk nb0_7 [v_newer, I q18, I q28] 158, cBlk b_13 [I ((r4.getD (Int.toNat r8) default).work), I (10 + r9), I r10] 30, cRo Bs_12, cOwn (α := Note) 30 u0_11 r7, cOwn (α := Note) 30 v38z ([(r5.getD (Int.toNat r6) default)]), cOwn (α := Note) 30 v41z (r5 ++ ([(r5.getD (Int.toNat r6) default)])), cRo Bs_8, cOwn (α := Note) 30 u0_5 r4, cBlk nb0_1 [v_numbers, I q12, I q22] 158, cOwn (α := Raw 2) 60 u0_2 rr1_3, cRo Bs2_4] R := H.ext hx_
   clear hx_
   refine s_val (x_not (b := l4.contains (s : Int)) rfl) <| s_nil ?_
   refine W.cond (!(l4.contains (s : Int))) rfl (fun c155z => ?_) (fun c155z => ?_)
   ·replace hM := M.e_t hM c155z
    refine W.seq <| W.seq ?_
    refine W.draw (fun W => St w W [cOwn (α := Int) 3 u0_21 r02, cOwn (α := Int) 3 v127z ([((r4.getD (Int.toNat r8) default).work : Int)]), cRo Bs_19, cOwn (α := Int) 3 v119z ([((r4.getD (Int.toNat r8) default).work : Int)]), cRo Bs_17, cOwn (α := Note) 30 u0_16 r11, cBlk nb0_6 [v_orders, I q19, I q29] 158, cOwn (α := Note) 30 v104z ([(⟨((r4.getD (Int.toNat r8) default).work : Int), (10 + r9 : Int), (r10 : Int)⟩ : Note)]), cOwn (α := Note) 30 v107z (r4 ++ ([(⟨((r4.getD (Int.toNat r8) default).work : Int), (10 + r9 : Int), (r10 : Int)⟩ : Note)])), cBlk nb0_7 [v_newer, I q18, I q28] 158, cBlk b_13 [I ((r4.getD (Int.toNat r8) default).work), I (10 + r9), I r10] 30, cRo Bs_12, cOwn (α := Note) 30 u0_11 r7, cOwn (α := Note) 30 v38z ([(r5.getD (Int.toNat r6) default)]), cOwn (α := Note) 30 v41z (r5 ++ ([(r5.getD (Int.toNat r6) default)])), cRo Bs_8, cOwn (α := Note) 30 u0_5 r4, cBlk nb0_1 [v_numbers, I q12, I q22] 158, cOwn (α := Raw 2) 60 u0_2 rr1_3, cRo Bs2_4] R) [(0, true), (1, true), (2, true), (3, true), (4, true), (5, true), (6, true), (7, true), (8, true), (9, true), (10, true), (11, true), (12, true)] mixed (by decide +kernel) rfl ?_
    intro w156z hx_
    replace H : St w w156z [cOwn (α := Int) 3 u0_21 r02, cOwn (α := Int) 3 v127z ([((r4.getD (Int.toNat r8) default).work : Int)]), cRo Bs_19, cOwn (α := Int) 3 v119z ([((r4.getD (Int.toNat r8) default).work : Int)]), cRo Bs_17, cOwn (α := Note) 30 u0_16 r11, cBlk nb0_6 [v_orders, I q19, I q29] 158, cOwn (α := Note) 30 v104z ([(⟨((r4.getD (Int.toNat r8) default).work : Int), (10 + r9 : Int), (r10 : Int)⟩ : Note)]), cOwn (α := Note) 30 v107z (r4 ++ ([(⟨((r4.getD (Int.toNat r8) default).work : Int), (10 + r9 : Int), (r10 : Int)⟩ : Note)])), cBlk nb0_7 [v_newer, I q18, I q28] 158, cBlk b_13 [I ((r4.getD (Int.toNat r8) default).work), I (10 + r9), I r10] 30, cRo Bs_12, cOwn (α := Note) 30 u0_11 r7, cOwn (α := Note) 30 v38z ([(r5.getD (Int.toNat r6) default)]), cOwn (α := Note) 30 v41z (r5 ++ ([(r5.getD (Int.toNat r6) default)])), cRo Bs_8, cOwn (α := Note) 30 u0_5 r4, cBlk nb0_1 [v_numbers, I q12, I q22] 158, cOwn (α := Raw 2) 60 u0_2 rr1_3, cRo Bs2_4] R := H.ext hx_
    clear hx_
    refine ⟨(H.pick [0, 1, 2, 3, 4, 5, 6, 7, 8, 9, 10, 11, 12, 13, 14, 15, 16, 17, 18, 19] (by decide) rfl), ?_⟩
    refine d_q rfl (fun w' H => x_mv (v := u114z) rfl) ?_
    refine d_q rfl (fun w' H => x_mv (v := I (s : Int)) rfl) ?_
    obtain ⟨sd157z, hM⟩ := M.e_gd hM
    refine d_q rfl (fun w' H => x_ix (a := u114z) (b := I (s : Int)) (v := vat u114z 1 (Int.toNat (s : Int))) rfl rfl (Sl.ix (α := Int) T34.und T34.size hs115z (by omega) (by omega))) ?_
    refine d_q rfl (fun w' H => x_ld (p := vat u114z 1 (Int.toNat (s : Int))) (v := I (l3.getD s 0)) rfl (ld_sc Sc3 (At.mono (Int_at hs115z (i := (s : Int)) (by omega) (by omega)) (roLe _ (H.get (k := 4) rfl))))) ?_
    refine d_q rfl (fun w' H => x_mv (v := u23z) rfl) ?_
    refine d_q rfl (fun w' H => x_mv (v := I (s : Int)) rfl) ?_
    obtain ⟨sd158z, hM⟩ := M.e_gd hM
    refine d_q rfl (fun w' H => x_ix (a := u23z) (b := I (s : Int)) (v := vat u23z 1 (Int.toNat (s : Int))) rfl rfl (Sl.ix (α := Int) T34.und T34.size hs24z (by omega) (by omega))) ?_
    refine d_q rfl (fun w' H => x_ld (p := vat u23z 1 (Int.toNat (s : Int))) (v := I (l.getD s 0)) rfl (ld_sc Sc3 (At.mono (Int_at hs24z (i := (s : Int)) (by omega) (by omega)) (roLe _ (H.get (k := 15) rfl))))) ?_
    refine d_q rfl (fun w' H => x_cmp (kd := .i64) (a := l3.getD s 0) (b := l.getD s 0) (r := (l3.getD s 0) != (l.getD s 0)) rfl rfl rfl) ?_
    refine d_q rfl (fun w' H => x_mv (v := B ((l3.getD s 0) != (l.getD s 0))) rfl) ?_
    refine d_qg (!((l3.getD s 0) != (l.getD s 0))) rfl (gy_f rfl) (fun hg => (fun w' H => x_mv (v := I r15) rfl)) ?_
    refine d_qg (!((l3.getD s 0) != (l.getD s 0))) rfl (gy_f rfl) (fun hg => (fun w' H => x_cmp (kd := .i64) (a := r15) (b := 5) (r := r15 != 5) (gd_of (c := !((l3.getD s 0) != (l.getD s 0))) hg (I r15)) rfl rfl)) ?_
    refine d_q rfl (fun w' H => x_por (b := (l3.getD s 0) != (l.getD s 0)) (r := r15 != 5) rfl rfl (fun hb => gd_of (c := !((l3.getD s 0) != (l.getD s 0))) (by first | exact hb | (rw [hb]; rfl) | simp_all) (B (r15 != 5)))) ?_
    refine d_nil ?_
    refine W.cond (((l3.getD s 0) != (l.getD s 0)) || (r15 != 5)) rfl (fun c159z => ?_) (fun c159z => ?_)
    ·replace hM := M.e_t hM c159z
     refine sQ rfl <| sA (B false) rfl <| s_nil ?_
     refine W.ret ?_
     have hX160z := M.e_inr hM hN148z
     subst hX160z
     replace hM := hk141z
     try dsimp only at hM
     have hr_ := M.e_pure hM
     exact ⟨_, resE_tmp rfl, ⟨false, hr_, rfl, (H.pick [] (by decide) rfl)⟩⟩
    replace hM := M.e_f hM c159z
    refine W.skip ?_
    refine W.exit ?_
    refine W.region rfl <| sR (s : Int) 1 ((s : Int) + 1) rfl rfl rfl (by omega) <| sM (I ((s : Int) + 1)) rfl <| s_nil ?_
    exact ⟨m145z, lt146z, s + 1, _, upds_of _ _ ⟨rfl, rfl, rfl, rfl, rfl, rfl, rfl, trivial⟩, M.e_inl hM hN148z, (H.pick [1, 2, 3, 4, 5, 6, 7, 8, 9, 10, 11, 12, 13, 14, 15, 16, 17, 18, 19] (by decide) rfl)⟩
   replace hM := M.e_f hM c155z
   refine W.skip <| sQ rfl <| sM u0_2 rfl <| sM u0_21 rfl ?_
   obtain ⟨r162z, hx161z, hM⟩ := M.e_bind hM
   refine s_call cf51 [u0_2, u0_21] rfl (notes_Leads_ok r3 r02 (Reads.sup (Reads.of (k := 18) rfl ownLe) (Reads.of (k := 19) rfl roLe)) (rowSl rfl (H.get (k := 18) rfl) (roLe _ (H.get (k := 19) rfl)) hf9z) (Reads.of (k := 0) rfl ownLe) (ownSl (H.get (k := 0) rfl)) hx161z _ (St.give (T := [cOwn (α := Int) 3 u0_21 r02, cOwn (α := Int) 3 v127z ([((r4.getD (Int.toNat r8) default).work : Int)]), cRo Bs_19, cOwn (α := Int) 3 v119z ([((r4.getD (Int.toNat r8) default).work : Int)]), cRo Bs_17, cOwn (α := Note) 30 u0_16 r11, cBlk nb0_6 [v_orders, I q19, I q29] 158, cOwn (α := Note) 30 v104z ([(⟨((r4.getD (Int.toNat r8) default).work : Int), (10 + r9 : Int), (r10 : Int)⟩ : Note)]), cOwn (α := Note) 30 v107z (r4 ++ ([(⟨((r4.getD (Int.toNat r8) default).work : Int), (10 + r9 : Int), (r10 : Int)⟩ : Note)])), cBlk nb0_7 [v_newer, I q18, I q28] 158, cBlk b_13 [I ((r4.getD (Int.toNat r8) default).work), I (10 + r9), I r10] 30, cRo Bs_12, cOwn (α := Note) 30 u0_11 r7, cOwn (α := Note) 30 v38z ([(r5.getD (Int.toNat r6) default)]), cOwn (α := Note) 30 v41z (r5 ++ ([(r5.getD (Int.toNat r6) default)])), cRo Bs_8, cOwn (α := Note) 30 u0_5 r4, cBlk nb0_1 [v_numbers, I q12, I q22] 158, cOwn (α := Raw 2) 60 u0_2 rr1_3, cRo Bs2_4]) H rfl)) ?_
   rintro vq w163z ⟨r03, r16, hr164z, hvq, H2_⟩
   subst hr164z
   subst vq
   try dsimp only at hM
   replace H : St w w163z [cOwn (α := Int) 3 u0_21 r02, cOwn (α := Int) 3 v127z ([((r4.getD (Int.toNat r8) default).work : Int)]), cRo Bs_19, cOwn (α := Int) 3 v119z ([((r4.getD (Int.toNat r8) default).work : Int)]), cRo Bs_17, cOwn (α := Note) 30 u0_16 r11, cBlk nb0_6 [v_orders, I q19, I q29] 158, cOwn (α := Note) 30 v104z ([(⟨((r4.getD (Int.toNat r8) default).work : Int), (10 + r9 : Int), (r10 : Int)⟩ : Note)]), cOwn (α := Note) 30 v107z (r4 ++ ([(⟨((r4.getD (Int.toNat r8) default).work : Int), (10 + r9 : Int), (r10 : Int)⟩ : Note)])), cBlk nb0_7 [v_newer, I q18, I q28] 158, cBlk b_13 [I ((r4.getD (Int.toNat r8) default).work), I (10 + r9), I r10] 30, cRo Bs_12, cOwn (α := Note) 30 u0_11 r7, cOwn (α := Note) 30 v38z ([(r5.getD (Int.toNat r6) default)]), cOwn (α := Note) 30 v41z (r5 ++ ([(r5.getD (Int.toNat r6) default)])), cRo Bs_8, cOwn (α := Note) 30 u0_5 r4, cBlk nb0_1 [v_numbers, I q12, I q22] 158, cOwn (α := Raw 2) 60 u0_2 rr1_3, cRo Bs2_4] R := H.back H2_ rfl
   clear H2_
   refine sM (.tuple #[B r03, I r16]) rfl <| sX [B r03, I r16] (B r03) rfl rfl <| sX [B r03, I r16] (I r16) rfl rfl <| sA (B r03) rfl <| sA (I r16) rfl <| s_nil <| W.seq ?_
   refine W.draw (fun W => St w W [cOwn (α := Int) 3 u0_21 r02, cOwn (α := Int) 3 v127z ([((r4.getD (Int.toNat r8) default).work : Int)]), cRo Bs_19, cOwn (α := Int) 3 v119z ([((r4.getD (Int.toNat r8) default).work : Int)]), cRo Bs_17, cOwn (α := Note) 30 u0_16 r11, cBlk nb0_6 [v_orders, I q19, I q29] 158, cOwn (α := Note) 30 v104z ([(⟨((r4.getD (Int.toNat r8) default).work : Int), (10 + r9 : Int), (r10 : Int)⟩ : Note)]), cOwn (α := Note) 30 v107z (r4 ++ ([(⟨((r4.getD (Int.toNat r8) default).work : Int), (10 + r9 : Int), (r10 : Int)⟩ : Note)])), cBlk nb0_7 [v_newer, I q18, I q28] 158, cBlk b_13 [I ((r4.getD (Int.toNat r8) default).work), I (10 + r9), I r10] 30, cRo Bs_12, cOwn (α := Note) 30 u0_11 r7, cOwn (α := Note) 30 v38z ([(r5.getD (Int.toNat r6) default)]), cOwn (α := Note) 30 v41z (r5 ++ ([(r5.getD (Int.toNat r6) default)])), cRo Bs_8, cOwn (α := Note) 30 u0_5 r4, cBlk nb0_1 [v_numbers, I q12, I q22] 158, cOwn (α := Raw 2) 60 u0_2 rr1_3, cRo Bs2_4] R) [(0, true), (1, true), (2, true), (3, true), (4, true), (5, true), (6, true), (7, true), (8, true), (9, true), (10, true), (11, true), (12, true), (13, true), (14, true), (15, true), (16, true), (17, true), (18, true), (19, true), (20, true), (21, true), (22, true), (23, true), (24, true), (25, true), (26, true), (27, true)] mixed (by decide +kernel) rfl ?_
   intro w165z hx_
   replace H : St w w165z [cOwn (α := Int) 3 u0_21 r02, cOwn (α := Int) 3 v127z ([((r4.getD (Int.toNat r8) default).work : Int)]), cRo Bs_19, cOwn (α := Int) 3 v119z ([((r4.getD (Int.toNat r8) default).work : Int)]), cRo Bs_17, cOwn (α := Note) 30 u0_16 r11, cBlk nb0_6 [v_orders, I q19, I q29] 158, cOwn (α := Note) 30 v104z ([(⟨((r4.getD (Int.toNat r8) default).work : Int), (10 + r9 : Int), (r10 : Int)⟩ : Note)]), cOwn (α := Note) 30 v107z (r4 ++ ([(⟨((r4.getD (Int.toNat r8) default).work : Int), (10 + r9 : Int), (r10 : Int)⟩ : Note)])), cBlk nb0_7 [v_newer, I q18, I q28] 158, cBlk b_13 [I ((r4.getD (Int.toNat r8) default).work), I (10 + r9), I r10] 30, cRo Bs_12, cOwn (α := Note) 30 u0_11 r7, cOwn (α := Note) 30 v38z ([(r5.getD (Int.toNat r6) default)]), cOwn (α := Note) 30 v41z (r5 ++ ([(r5.getD (Int.toNat r6) default)])), cRo Bs_8, cOwn (α := Note) 30 u0_5 r4, cBlk nb0_1 [v_numbers, I q12, I q22] 158, cOwn (α := Raw 2) 60 u0_2 rr1_3, cRo Bs2_4] R := H.ext hx_
   clear hx_
   refine ⟨(H.pick [0, 1, 2, 3, 4, 5, 6, 7, 8, 9, 10, 11, 12, 13, 14, 15, 16, 17, 18, 19] (by decide) rfl), ?_⟩
   refine d_q rfl (fun w' H => x_mv (v := I r15) rfl) ?_
   refine d_q rfl (fun w' H => x_cmp (kd := .i64) (a := r15) (b := 0) (r := r15 != 0) rfl rfl rfl) ?_
   refine d_q rfl (fun w' H => x_mv (v := B (r15 != 0)) rfl) ?_
   refine d_qg (!(r15 != 0)) rfl (gy_f rfl) (fun hg => (fun w' H => x_mv (v := I r16) rfl)) ?_
   refine d_qg (!(r15 != 0)) rfl (gy_f rfl) (fun hg => (fun w' H => x_cmp (kd := .i64) (a := r16) (b := 0) (r := r16 != 0) (gd_of (c := !(r15 != 0)) hg (I r16)) rfl rfl)) ?_
   refine d_q rfl (fun w' H => x_por (b := r15 != 0) (r := r16 != 0) rfl rfl (fun hb => gd_of (c := !(r15 != 0)) (by first | exact hb | (rw [hb]; rfl) | simp_all) (B (r16 != 0)))) ?_
   refine d_q rfl (fun w' H => x_mv (v := B ((r15 != 0) || (r16 != 0))) rfl) ?_
   refine d_qg (!((r15 != 0) || (r16 != 0))) rfl (gy_f rfl) (fun hg => (fun w' H => x_mv (v := B r03) rfl)) ?_
   refine d_qg (!((r15 != 0) || (r16 != 0))) rfl (gy_f rfl) (fun hg => (fun w' H => x_not (b := r03) (gd_of (c := !((r15 != 0) || (r16 != 0))) hg (B r03)))) ?_
   refine d_q rfl (fun w' H => x_por (b := ((r15 != 0) || (r16 != 0))) (r := !r03) rfl rfl (fun hb => gd_of (c := !((r15 != 0) || (r16 != 0))) (by first | exact hb | (rw [hb]; rfl) | simp_all) (B (!r03)))) ?_
   refine d_q rfl (fun w' H => x_mv (v := B (((r15 != 0) || (r16 != 0)) || (!r03))) rfl) ?_
   refine d_qg (!(((r15 != 0) || (r16 != 0)) || (!r03))) rfl (gy_f rfl) (fun hg => (fun w' H => x_mv (v := u0_21) rfl)) ?_
   obtain ⟨sd166z, hM⟩ := M.e_grd hM
   replace sd166z := M.imp_of sd166z
   simp only [Bool.and_eq_true, decide_eq_true_eq] at sd166z
   refine d_qg (!(((r15 != 0) || (r16 != 0)) || (!r03))) rfl (gy_f rfl) (fun hg => (fun w' H => x_ix (a := u0_21) (b := I 0) (v := vat u0_21 1 (Int.toNat 0)) (gd_of (c := !(((r15 != 0) || (r16 != 0)) || (!r03))) hg (u0_21)) rfl (Sl.ix (α := Int) T34.und T34.size (ownSl (H.get (k := 0) rfl)) (by have h1_ := sd166z.resolve_left (by rw [hg]; decide); first | exact h1_ | exact h1_.1 | exact h1_.2 | omega | (have hx_ := hg; simp at hx_; omega)) (by have h1_ := sd166z.resolve_left (by rw [hg]; decide); first | exact h1_ | exact h1_.1 | exact h1_.2 | omega | (have hx_ := hg; simp at hx_; omega))))) ?_
   refine d_qg (!(((r15 != 0) || (r16 != 0)) || (!r03))) rfl (gy_f rfl) (fun hg => (fun w' H => x_ld (p := vat u0_21 1 (Int.toNat 0)) (v := I (r02.getD 0 0)) (gd_of (c := !(((r15 != 0) || (r16 != 0)) || (!r03))) hg (vat u0_21 1 (Int.toNat 0))) (ld_sc Sc3 (At.mono (Int_at (ownSl (H.get (k := 0) rfl)) (i := 0) (by have h1_ := sd166z.resolve_left (by rw [hg]; decide); first | exact h1_ | exact h1_.1 | exact h1_.2 | omega | (have hx_ := hg; simp at hx_; omega)) (by have h1_ := sd166z.resolve_left (by rw [hg]; decide); first | exact h1_ | exact h1_.1 | exact h1_.2 | omega | (have hx_ := hg; simp at hx_; omega))) (ownLe _ (H.get (k := 0) rfl)))))) ?_
   refine d_qg (!(((r15 != 0) || (r16 != 0)) || (!r03))) rfl (gy_f rfl) (fun hg => (fun w' H => x_fa (a := Pz b_13) (v := Pz b_13) rfl (fa_blk (o := 0) Fd30_0 Sz3))) ?_
   refine d_qg (!(((r15 != 0) || (r16 != 0)) || (!r03))) rfl (gy_f rfl) (fun hg => (fun w' H => x_ld (p := Pz b_13) (v := I ((r4.getD (Int.toNat r8) default).work)) (gd_of (c := !(((r15 != 0) || (r16 != 0)) || (!r03))) hg (Pz b_13)) (ldb_sc Sc3 (H.blk (k := 10) rfl) rfl))) ?_
   refine d_qg (!(((r15 != 0) || (r16 != 0)) || (!r03))) rfl (gy_f rfl) (fun hg => (fun w' H => x_cmp (kd := .i64) (a := r02.getD 0 0) (b := (r4.getD (Int.toNat r8) default).work) (r := (r02.getD 0 0) != ((r4.getD (Int.toNat r8) default).work)) (gd_of (c := !(((r15 != 0) || (r16 != 0)) || (!r03))) hg (I (r02.getD 0 0))) (gd_of (c := !(((r15 != 0) || (r16 != 0)) || (!r03))) hg (I ((r4.getD (Int.toNat r8) default).work))) rfl)) ?_
   refine d_q rfl (fun w' H => x_por (b := (((r15 != 0) || (r16 != 0)) || (!r03))) (r := (r02.getD 0 0) != ((r4.getD (Int.toNat r8) default).work)) rfl rfl (fun hb => gd_of (c := !(((r15 != 0) || (r16 != 0)) || (!r03))) (by first | exact hb | (rw [hb]; rfl) | simp_all) (B ((r02.getD 0 0) != ((r4.getD (Int.toNat r8) default).work))))) ?_
   refine d_q rfl (fun w' H => x_mv (v := B ((((r15 != 0) || (r16 != 0)) || (!r03)) || ((r02.getD 0 0) != ((r4.getD (Int.toNat r8) default).work)))) rfl) ?_
   refine d_qg (!((((r15 != 0) || (r16 != 0)) || (!r03)) || ((r02.getD 0 0) != ((r4.getD (Int.toNat r8) default).work)))) rfl (gy_f rfl) (fun hg => (fun w' H => x_mv (v := u0_21) rfl)) ?_
   refine d_qg (!((((r15 != 0) || (r16 != 0)) || (!r03)) || ((r02.getD 0 0) != ((r4.getD (Int.toNat r8) default).work)))) rfl (gy_f rfl) (fun hg => (fun w' H => x_mv (v := u0_21) rfl)) ?_
   refine d_qg (!((((r15 != 0) || (r16 != 0)) || (!r03)) || ((r02.getD 0 0) != ((r4.getD (Int.toNat r8) default).work)))) rfl (gy_f rfl) (fun hg => (fun w' H => x_lenS T34.und (gd_of (c := !((((r15 != 0) || (r16 != 0)) || (!r03)) || ((r02.getD 0 0) != ((r4.getD (Int.toNat r8) default).work)))) hg (u0_21)) (ownSl (H.get (k := 0) rfl)))) ?_
   obtain ⟨sd168z, hM⟩ := M.e_grd hM
   replace sd168z := M.imp_of sd168z
   simp only [Bool.and_eq_true, decide_eq_true_eq] at sd168z
   refine d_qg (!((((r15 != 0) || (r16 != 0)) || (!r03)) || ((r02.getD 0 0) != ((r4.getD (Int.toNat r8) default).work)))) rfl (gy_f rfl) (fun hg => (fun w' H => x_ari (a := (r02.length : Int)) (b := 1) (r := (r02.length : Int) - 1) (gd_of (c := !((((r15 != 0) || (r16 != 0)) || (!r03)) || ((r02.getD 0 0) != ((r4.getD (Int.toNat r8) default).work)))) hg (I (r02.length : Int))) rfl rfl (by have h1_ := sd168z.resolve_left (by rw [hg]; decide); first | exact h1_ | exact h1_.1 | exact h1_.2 | omega | (have hx_ := hg; simp at hx_; omega)))) ?_
   obtain ⟨sd169z, hM⟩ := M.e_grd hM
   replace sd169z := M.imp_of sd169z
   simp only [Bool.and_eq_true, decide_eq_true_eq] at sd169z
   refine d_qg (!((((r15 != 0) || (r16 != 0)) || (!r03)) || ((r02.getD 0 0) != ((r4.getD (Int.toNat r8) default).work)))) rfl (gy_f rfl) (fun hg => (fun w' H => x_ix (a := u0_21) (b := I ((r02.length : Int) - 1)) (v := vat u0_21 1 (Int.toNat ((r02.length : Int) - 1))) (gd_of (c := !((((r15 != 0) || (r16 != 0)) || (!r03)) || ((r02.getD 0 0) != ((r4.getD (Int.toNat r8) default).work)))) hg (u0_21)) (gd_of (c := !((((r15 != 0) || (r16 != 0)) || (!r03)) || ((r02.getD 0 0) != ((r4.getD (Int.toNat r8) default).work)))) hg (I ((r02.length : Int) - 1))) (Sl.ix (α := Int) T34.und T34.size (ownSl (H.get (k := 0) rfl)) (by have h1_ := sd168z.resolve_left (by rw [hg]; decide); have h2_ := sd169z.resolve_left (by rw [hg]; decide); first | exact h1_ | exact h1_.1 | exact h1_.2 | exact h2_ | exact h2_.1 | exact h2_.2 | omega | (have hx_ := hg; simp at hx_; omega)) (by have h1_ := sd168z.resolve_left (by rw [hg]; decide); have h2_ := sd169z.resolve_left (by rw [hg]; decide); first | exact h1_ | exact h1_.1 | exact h1_.2 | exact h2_ | exact h2_.1 | exact h2_.2 | omega | (have hx_ := hg; simp at hx_; omega))))) ?_
   refine d_qg (!((((r15 != 0) || (r16 != 0)) || (!r03)) || ((r02.getD 0 0) != ((r4.getD (Int.toNat r8) default).work)))) rfl (gy_f rfl) (fun hg => (fun w' H => x_ld (p := vat u0_21 1 (Int.toNat ((r02.length : Int) - 1))) (v := I (r02.getD (Int.toNat ((r02.length : Int) - 1)) 0)) (gd_of (c := !((((r15 != 0) || (r16 != 0)) || (!r03)) || ((r02.getD 0 0) != ((r4.getD (Int.toNat r8) default).work)))) hg (vat u0_21 1 (Int.toNat ((r02.length : Int) - 1)))) (ld_sc Sc3 (At.mono (Int_at (ownSl (H.get (k := 0) rfl)) (i := (r02.length : Int) - 1) (by have h1_ := sd168z.resolve_left (by rw [hg]; decide); have h2_ := sd169z.resolve_left (by rw [hg]; decide); first | exact h1_ | exact h1_.1 | exact h1_.2 | exact h2_ | exact h2_.1 | exact h2_.2 | omega | (have hx_ := hg; simp at hx_; omega)) (by have h1_ := sd168z.resolve_left (by rw [hg]; decide); have h2_ := sd169z.resolve_left (by rw [hg]; decide); first | exact h1_ | exact h1_.1 | exact h1_.2 | exact h2_ | exact h2_.1 | exact h2_.2 | omega | (have hx_ := hg; simp at hx_; omega))) (ownLe _ (H.get (k := 0) rfl)))))) ?_
   refine d_qg (!((((r15 != 0) || (r16 != 0)) || (!r03)) || ((r02.getD 0 0) != ((r4.getD (Int.toNat r8) default).work)))) rfl (gy_f rfl) (fun hg => (fun w' H => x_mv (v := I (s : Int)) rfl)) ?_
   refine d_qg (!((((r15 != 0) || (r16 != 0)) || (!r03)) || ((r02.getD 0 0) != ((r4.getD (Int.toNat r8) default).work)))) rfl (gy_f rfl) (fun hg => (fun w' H => x_cmp (kd := .i64) (a := r02.getD (Int.toNat ((r02.length : Int) - 1)) 0) (b := (s : Int)) (r := (r02.getD (Int.toNat ((r02.length : Int) - 1)) 0) != (s : Int)) (gd_of (c := !((((r15 != 0) || (r16 != 0)) || (!r03)) || ((r02.getD 0 0) != ((r4.getD (Int.toNat r8) default).work)))) hg (I (r02.getD (Int.toNat ((r02.length : Int) - 1)) 0))) (gd_of (c := !((((r15 != 0) || (r16 != 0)) || (!r03)) || ((r02.getD 0 0) != ((r4.getD (Int.toNat r8) default).work)))) hg (I (s : Int))) rfl)) ?_
   refine d_q rfl (fun w' H => x_por (b := ((((r15 != 0) || (r16 != 0)) || (!r03)) || ((r02.getD 0 0) != ((r4.getD (Int.toNat r8) default).work)))) (r := (r02.getD (Int.toNat ((r02.length : Int) - 1)) 0) != (s : Int)) rfl rfl (fun hb => gd_of (c := !((((r15 != 0) || (r16 != 0)) || (!r03)) || ((r02.getD 0 0) != ((r4.getD (Int.toNat r8) default).work)))) (by first | exact hb | (rw [hb]; rfl) | simp_all) (B ((r02.getD (Int.toNat ((r02.length : Int) - 1)) 0) != (s : Int))))) ?_
   refine d_nil ?_
   refine W.cond (((((r15 != 0) || (r16 != 0)) || (!r03)) || ((r02.getD 0 0) != ((r4.getD (Int.toNat r8) default).work))) || ((r02.getD (Int.toNat ((r02.length : Int) - 1)) 0) != (s : Int))) rfl (fun c170z => ?_) (fun c170z => ?_)
   ·replace hM := M.e_t hM c170z
    refine sQ rfl <| sA (B false) rfl <| s_nil ?_
    refine W.ret ?_
    have hX171z := M.e_inr hM hN148z
    subst hX171z
    replace hM := hk141z
    try dsimp only at hM
    have hr_ := M.e_pure hM
    exact ⟨_, resE_tmp rfl, ⟨false, hr_, rfl, (H.pick [] (by decide) rfl)⟩⟩
   replace hM := M.e_f hM c170z
   refine W.skip <| W.region rfl <| sR (s : Int) 1 ((s : Int) + 1) rfl rfl rfl (by omega) <| sM (I ((s : Int) + 1)) rfl <| s_nil ?_
   exact ⟨m145z, lt146z, s + 1, _, upds_of _ _ ⟨rfl, rfl, rfl, rfl, rfl, rfl, rfl, trivial⟩, M.e_inl hM hN148z, (H.pick [1, 2, 3, 4, 5, 6, 7, 8, 9, 10, 11, 12, 13, 14, 15, 16, 17, 18, 19] (by decide) rfl)⟩
  replace hM := M.e_f hM c149z
  simp only [qz1, qz2, qz3, qz4, qz5, qz6, ne_eq, qz7] at c149z
  refine W.exit ?_
  have hX172z := M.e_inr hM hN148z
  subst hX172z
  replace hM := hk141z
  try dsimp only at hM
  refine sQ rfl ?_
  obtain ⟨r174z, hx173z, hM⟩ := M.e_bind hM
  refine s_call cf17 [] rfl (nilometerlaw13_awake_ok hx173z _ (St.give (T := [cOwn (α := Int) 3 v127z ([((r4.getD (Int.toNat r8) default).work : Int)]), cRo Bs_19, cOwn (α := Int) 3 v119z ([((r4.getD (Int.toNat r8) default).work : Int)]), cRo Bs_17, cOwn (α := Note) 30 u0_16 r11, cBlk nb0_6 [v_orders, I q19, I q29] 158, cOwn (α := Note) 30 v104z ([(⟨((r4.getD (Int.toNat r8) default).work : Int), (10 + r9 : Int), (r10 : Int)⟩ : Note)]), cOwn (α := Note) 30 v107z (r4 ++ ([(⟨((r4.getD (Int.toNat r8) default).work : Int), (10 + r9 : Int), (r10 : Int)⟩ : Note)])), cBlk nb0_7 [v_newer, I q18, I q28] 158, cBlk b_13 [I ((r4.getD (Int.toNat r8) default).work), I (10 + r9), I r10] 30, cRo Bs_12, cOwn (α := Note) 30 u0_11 r7, cOwn (α := Note) 30 v38z ([(r5.getD (Int.toNat r6) default)]), cOwn (α := Note) 30 v41z (r5 ++ ([(r5.getD (Int.toNat r6) default)])), cRo Bs_8, cOwn (α := Note) 30 u0_5 r4, cBlk nb0_1 [v_numbers, I q12, I q22] 158, cOwn (α := Raw 2) 60 u0_2 rr1_3, cRo Bs2_4]) H rfl)) ?_
  rintro vq w175z ⟨r17, hr176z, hvq, H2_⟩
  subst hr176z
  subst vq
  try dsimp only at hM
  replace H : St w w175z [cOwn (α := Int) 3 v127z ([((r4.getD (Int.toNat r8) default).work : Int)]), cRo Bs_19, cOwn (α := Int) 3 v119z ([((r4.getD (Int.toNat r8) default).work : Int)]), cRo Bs_17, cOwn (α := Note) 30 u0_16 r11, cBlk nb0_6 [v_orders, I q19, I q29] 158, cOwn (α := Note) 30 v104z ([(⟨((r4.getD (Int.toNat r8) default).work : Int), (10 + r9 : Int), (r10 : Int)⟩ : Note)]), cOwn (α := Note) 30 v107z (r4 ++ ([(⟨((r4.getD (Int.toNat r8) default).work : Int), (10 + r9 : Int), (r10 : Int)⟩ : Note)])), cBlk nb0_7 [v_newer, I q18, I q28] 158, cBlk b_13 [I ((r4.getD (Int.toNat r8) default).work), I (10 + r9), I r10] 30, cRo Bs_12, cOwn (α := Note) 30 u0_11 r7, cOwn (α := Note) 30 v38z ([(r5.getD (Int.toNat r6) default)]), cOwn (α := Note) 30 v41z (r5 ++ ([(r5.getD (Int.toNat r6) default)])), cRo Bs_8, cOwn (α := Note) 30 u0_5 r4, cBlk nb0_1 [v_numbers, I q12, I q22] 158, cOwn (α := Raw 2) 60 u0_2 rr1_3, cRo Bs2_4] R := H.back H2_ rfl
  clear H2_
  refine sA (B r17) rfl <| s_nil ?_
  refine W.ret ?_
  have hr_ := M.e_pure hM
  exact ⟨_, resE_tmp rfl, ⟨r17, hr_, rfl, (H.pick [] (by decide) rfl)⟩⟩
 skip
 refine t_bs (α := Note) T23 [.agg #[I ((r4.getD (Int.toNat r8) default).work), I (10 + r9), I r10]] [(⟨((r4.getD (Int.toNat r8) default).work : Int), (10 + r9 : Int), (r10 : Int)⟩ : Note)] H rfl (.cons rfl (Flat.rep_enc _ (⟨((r4.getD (Int.toNat r8) default).work : Int), (10 + r9 : Int), (r10 : Int)⟩ : Note)) <| .nil) rfl rfl rfl ?_
 intro v177z w178z H
 refine s_nil ⟨(H.pick [1, 2, 3, 4, 6, 7, 8, 9, 10, 11, 12] (by decide) rfl), ?_⟩
 refine t_l rfl ?_
 obtain ⟨sd179z, hM⟩ := M.e_gd hM
 refine s_call cf19 [u0_5] rfl (copy_note _ ((ownSl (H.get (k := 9) rfl)).mono (ownLe _ (H.get (k := 9) rfl))) (by omega)) ?_
 rintro v181z w180z ⟨ho_, hx_⟩
 replace H : St w w180z [cOwn (α := Note) 30 v181z r4, cOwn (α := Note) 30 v177z ([(⟨((r4.getD (Int.toNat r8) default).work : Int), (10 + r9 : Int), (r10 : Int)⟩ : Note)]), cBlk nb0_7 [v_newer, I q18, I q28] 158, cBlk b_13 [I ((r4.getD (Int.toNat r8) default).work), I (10 + r9), I r10] 30, cRo Bs_12, cOwn (α := Note) 30 u0_11 r7, cBlk nb0_6 [v_orders, I q15, I q25] 158, cOwn (α := Note) 30 v38z ([(r5.getD (Int.toNat r6) default)]), cOwn (α := Note) 30 v41z (r5 ++ ([(r5.getD (Int.toNat r6) default)])), cRo Bs_8, cOwn (α := Note) 30 u0_5 r4, cBlk nb0_1 [v_numbers, I q12, I q22] 158, cOwn (α := Raw 2) 60 u0_2 rr1_3, cRo Bs2_4] R := H.ownOf hx_ ho_
 clear hx_ ho_
 refine s_nil ⟨(H.pick [2, 3, 4, 5, 7, 8, 9, 10, 11, 12, 13] (by decide) rfl), ?_⟩
 refine t_l rfl ?_
 obtain ⟨sd182z, hM⟩ := M.e_gd hM
 refine t_app (α := Note) (k := 0) (l := r4) (l2 := [(⟨((r4.getD (Int.toNat r8) default).work : Int), (10 + r9 : Int), (r10 : Int)⟩ : Note)]) (l' := r4 ++ ([(⟨((r4.getD (Int.toNat r8) default).work : Int), (10 + r9 : Int), (r10 : Int)⟩ : Note)])) (vy := v177z) T23 rfl H rfl rfl rfl (ownSl (H.get (k := 1) rfl)) (ownLe _ (H.get (k := 1) rfl)) (rfl) (by first | omega | (simp only [List.length_nil] at *; omega)) ?_
 intro v183z w184z H
 replace H : St w w184z [cOwn (α := Note) 30 v183z (r4 ++ ([(⟨((r4.getD (Int.toNat r8) default).work : Int), (10 + r9 : Int), (r10 : Int)⟩ : Note)])), cOwn (α := Note) 30 v177z ([(⟨((r4.getD (Int.toNat r8) default).work : Int), (10 + r9 : Int), (r10 : Int)⟩ : Note)]), cBlk nb0_7 [v_newer, I q18, I q28] 158, cBlk b_13 [I ((r4.getD (Int.toNat r8) default).work), I (10 + r9), I r10] 30, cRo Bs_12, cOwn (α := Note) 30 u0_11 r7, cBlk nb0_6 [v_orders, I q15, I q25] 158, cOwn (α := Note) 30 v38z ([(r5.getD (Int.toNat r6) default)]), cOwn (α := Note) 30 v41z (r5 ++ ([(r5.getD (Int.toNat r6) default)])), cRo Bs_8, cOwn (α := Note) 30 u0_5 r4, cBlk nb0_1 [v_numbers, I q12, I q22] 158, cOwn (α := Raw 2) 60 u0_2 rr1_3, cRo Bs2_4] R := H
 refine s_nil ⟨(H.pick [2, 3, 4, 5, 7, 8, 9, 10, 11, 12, 13] (by decide) rfl), ?_⟩
 refine t_l rfl ?_
 obtain ⟨r186z, hx185z, hM⟩ := M.e_bind hM
 refine s_call cf52 [Pz nb0_6, v183z] rfl (nilometerlaw13_mixed_ok orders q15 q25 (r4 ++ ([(⟨((r4.getD (Int.toNat r8) default).work : Int), (10 + r9 : Int), (r10 : Int)⟩ : Note)])) (hC_orders.app _) hs_orders (Reads.of (k := 0) rfl ownLe) (ownSl (H.get (k := 0) rfl)) hx185z _ (St.give (L := [cBlk nb0_6 [v_orders, I q15, I q25] 158, cOwn (α := Note) 30 v183z (r4 ++ ([(⟨((r4.getD (Int.toNat r8) default).work : Int), (10 + r9 : Int), (r10 : Int)⟩ : Note)])), cOwn (α := Note) 30 v177z ([(⟨((r4.getD (Int.toNat r8) default).work : Int), (10 + r9 : Int), (r10 : Int)⟩ : Note)]), cBlk nb0_7 [v_newer, I q18, I q28] 158, cBlk b_13 [I ((r4.getD (Int.toNat r8) default).work), I (10 + r9), I r10] 30, cRo Bs_12, cOwn (α := Note) 30 u0_11 r7, cOwn (α := Note) 30 v38z ([(r5.getD (Int.toNat r6) default)]), cOwn (α := Note) 30 v41z (r5 ++ ([(r5.getD (Int.toNat r6) default)])), cRo Bs_8, cOwn (α := Note) 30 u0_5 r4, cBlk nb0_1 [v_numbers, I q12, I q22] 158, cOwn (α := Raw 2) 60 u0_2 rr1_3, cRo Bs2_4]) (A := [cBlk nb0_6 [v_orders, I q15, I q25] 158]) (T := [cOwn (α := Note) 30 v183z (r4 ++ ([(⟨((r4.getD (Int.toNat r8) default).work : Int), (10 + r9 : Int), (r10 : Int)⟩ : Note)])), cOwn (α := Note) 30 v177z ([(⟨((r4.getD (Int.toNat r8) default).work : Int), (10 + r9 : Int), (r10 : Int)⟩ : Note)]), cBlk nb0_7 [v_newer, I q18, I q28] 158, cBlk b_13 [I ((r4.getD (Int.toNat r8) default).work), I (10 + r9), I r10] 30, cRo Bs_12, cOwn (α := Note) 30 u0_11 r7, cOwn (α := Note) 30 v38z ([(r5.getD (Int.toNat r6) default)]), cOwn (α := Note) 30 v41z (r5 ++ ([(r5.getD (Int.toNat r6) default)])), cRo Bs_8, cOwn (α := Note) 30 u0_5 r4, cBlk nb0_1 [v_numbers, I q12, I q22] 158, cOwn (α := Raw 2) 60 u0_2 rr1_3, cRo Bs2_4]) (H.pick [6, 0, 1, 2, 3, 4, 5, 7, 8, 9, 10, 11, 12, 13] (by decide) rfl) rfl)) ?_
 rintro vq w187z ⟨r11, q19, q29, u0_16, hr188z, hvq, H2_⟩
 subst hr188z
 subst vq
 try dsimp only at hM
 replace H : St w w187z [cOwn (α := Note) 30 u0_16 r11, cBlk nb0_6 [v_orders, I q19, I q29] 158, cOwn (α := Note) 30 v183z (r4 ++ ([(⟨((r4.getD (Int.toNat r8) default).work : Int), (10 + r9 : Int), (r10 : Int)⟩ : Note)])), cOwn (α := Note) 30 v177z ([(⟨((r4.getD (Int.toNat r8) default).work : Int), (10 + r9 : Int), (r10 : Int)⟩ : Note)]), cBlk nb0_7 [v_newer, I q18, I q28] 158, cBlk b_13 [I ((r4.getD (Int.toNat r8) default).work), I (10 + r9), I r10] 30, cRo Bs_12, cOwn (α := Note) 30 u0_11 r7, cOwn (α := Note) 30 v38z ([(r5.getD (Int.toNat r6) default)]), cOwn (α := Note) 30 v41z (r5 ++ ([(r5.getD (Int.toNat r6) default)])), cRo Bs_8, cOwn (α := Note) 30 u0_5 r4, cBlk nb0_1 [v_numbers, I q12, I q22] 158, cOwn (α := Raw 2) 60 u0_2 rr1_3, cRo Bs2_4] R := H.pick [6, 0, 1, 2, 3, 4, 5, 7, 8, 9, 10, 11, 12, 13] (by decide) rfl |>.back H2_ rfl
 clear H2_
 refine s_nil ⟨(H.pick [4, 5, 6, 7, 8, 9, 10, 11, 12, 13, 14] (by decide) rfl), ?_⟩
 refine t_l rfl ?_
 obtain ⟨⟨l3, e3⟩, hx192z, hM⟩ := M.e_bind hM
 obtain ⟨hq193z, hq194z⟩ := Prod.mk.inj (M.e_pure hx192z)
 try dsimp only at hM
 refine s_call cf21 [u0_2, u0_16] rfl (by have hc_ := (Values_any _ ((rowSl rfl (H.get (k := 13) rfl) (roLe _ (H.get (k := 14) rfl)) hf9z).mono (Cells.sup_le (ownLe _ (H.get (k := 13) rfl)) (roLe _ (H.get (k := 14) rfl)))) ((ownSl (H.get (k := 0) rfl)).mono (ownLe _ (H.get (k := 0) rfl)))); rw [hq193z, hq194z] at hc_; exact hc_) ?_
 rintro _ w189z ⟨u190z, rfl, hs191z, hx_⟩
 obtain ⟨Bs_17, H, hs191z⟩ := H.fresh hx_ hs191z
 clear hx_
 have hl_hs191z := hs191z.len_le
 refine s_nil ⟨(H.pick [5, 6, 7, 8, 9, 10, 11, 12, 13, 14, 15] (by decide) rfl), ?_⟩
 refine t_q rfl (fun w' H => x_mv (v := .tuple #[u190z, I e3]) rfl) ?_
 refine t_q rfl (fun w' H => x_ext (vs := [u190z, I e3]) (v := u190z) rfl rfl) ?_
 refine t_q rfl (fun w' H => x_ext (vs := [u190z, I e3]) (v := I e3) rfl rfl) ?_
 refine t_q rfl (fun w' H => x_as (v := u190z) rfl) ?_
 refine t_q rfl (fun w' H => x_as (v := I e3) rfl) ?_
 refine t_nil ?_
 refine sQ rfl <| sM u0_2 rfl <| s_val (x_fa (a := Pz b_13) (v := Pz b_13) rfl (fa_blk (o := 0) Fd30_0 Sz3)) <| s_val (x_ld (p := Pz b_13) (v := I ((r4.getD (Int.toNat r8) default).work)) rfl (ldb_sc Sc3 (H.blk (k := 6) rfl) rfl)) ?_
 refine t_bs (α := Int) T34 [I ((r4.getD (Int.toNat r8) default).work)] [((r4.getD (Int.toNat r8) default).work : Int)] H rfl (.cons rfl (Flat.rep_enc _ ((r4.getD (Int.toNat r8) default).work : Int)) <| .nil) rfl rfl rfl ?_
 intro v195z w196z H
 obtain ⟨⟨l4, e4⟩, hx200z, hM⟩ := M.e_bind hM
 obtain ⟨hq201z, hq202z⟩ := Prod.mk.inj (M.e_pure hx200z)
 try dsimp only at hM
 refine s_call cf32 [u0_2, v195z] rfl (by have hc_ := (Stale_any _ ((rowSl rfl (H.get (k := 15) rfl) (roLe _ (H.get (k := 16) rfl)) hf9z).mono (Cells.sup_le (ownLe _ (H.get (k := 15) rfl)) (roLe _ (H.get (k := 16) rfl)))) ((ownSl (H.get (k := 0) rfl)).mono (ownLe _ (H.get (k := 0) rfl)))); rw [hq201z, hq202z] at hc_; exact hc_) ?_
 rintro _ w197z ⟨u198z, rfl, hs199z, hx_⟩
 obtain ⟨Bs_19, H, hs199z⟩ := H.fresh hx_ hs199z
 clear hx_
 have hl_hs199z := hs199z.len_le
 refine sM (.tuple #[u198z, I e4]) rfl <| sX [u198z, I e4] u198z rfl rfl <| sX [u198z, I e4] (I e4) rfl rfl <| sA u198z rfl <| sA (I e4) rfl <| s_nil <| sQ rfl <| sM u0_2 rfl <| s_val (x_fa (a := Pz b_13) (v := Pz b_13) rfl (fa_blk (o := 0) Fd30_0 Sz3)) <| s_val (x_ld (p := Pz b_13) (v := I ((r4.getD (Int.toNat r8) default).work)) rfl (ldb_sc Sc3 (H.blk (k := 8) rfl) rfl)) ?_
 refine t_bs (α := Int) T34 [I ((r4.getD (Int.toNat r8) default).work)] [((r4.getD (Int.toNat r8) default).work : Int)] H rfl (.cons rfl (Flat.rep_enc _ ((r4.getD (Int.toNat r8) default).work : Int)) <| .nil) rfl rfl rfl ?_
 intro v203z w204z H
 refine sM u198z rfl ?_
 obtain ⟨r206z, hx205z, hM⟩ := M.e_bind hM
 refine s_call cf34 [u0_2, v203z, u198z] rfl (notes_Fences_ok r3 ([((r4.getD (Int.toNat r8) default).work : Int)]) l4 (Reads.sup (Reads.of (k := 17) rfl ownLe) (Reads.of (k := 18) rfl roLe)) (rowSl rfl (H.get (k := 17) rfl) (roLe _ (H.get (k := 18) rfl)) hf9z) (Reads.of (k := 0) rfl ownLe) (ownSl (H.get (k := 0) rfl)) (Reads.of (k := 1) rfl roLe) hs199z hx205z _ (St.give (T := [cOwn (α := Int) 3 v203z ([((r4.getD (Int.toNat r8) default).work : Int)]), cRo Bs_19, cOwn (α := Int) 3 v195z ([((r4.getD (Int.toNat r8) default).work : Int)]), cRo Bs_17, cOwn (α := Note) 30 u0_16 r11, cBlk nb0_6 [v_orders, I q19, I q29] 158, cOwn (α := Note) 30 v183z (r4 ++ ([(⟨((r4.getD (Int.toNat r8) default).work : Int), (10 + r9 : Int), (r10 : Int)⟩ : Note)])), cOwn (α := Note) 30 v177z ([(⟨((r4.getD (Int.toNat r8) default).work : Int), (10 + r9 : Int), (r10 : Int)⟩ : Note)]), cBlk nb0_7 [v_newer, I q18, I q28] 158, cBlk b_13 [I ((r4.getD (Int.toNat r8) default).work), I (10 + r9), I r10] 30, cRo Bs_12, cOwn (α := Note) 30 u0_11 r7, cOwn (α := Note) 30 v38z ([(r5.getD (Int.toNat r6) default)]), cOwn (α := Note) 30 v41z (r5 ++ ([(r5.getD (Int.toNat r6) default)])), cRo Bs_8, cOwn (α := Note) 30 u0_5 r4, cBlk nb0_1 [v_numbers, I q12, I q22] 158, cOwn (α := Raw 2) 60 u0_2 rr1_3, cRo Bs2_4]) H rfl)) ?_
 rintro vq w207z ⟨r0, r14, hr208z, hvq, H2_⟩
 subst hr208z
 subst vq
 try dsimp only at hM
 replace H : St w w207z [cOwn (α := Int) 3 v203z ([((r4.getD (Int.toNat r8) default).work : Int)]), cRo Bs_19, cOwn (α := Int) 3 v195z ([((r4.getD (Int.toNat r8) default).work : Int)]), cRo Bs_17, cOwn (α := Note) 30 u0_16 r11, cBlk nb0_6 [v_orders, I q19, I q29] 158, cOwn (α := Note) 30 v183z (r4 ++ ([(⟨((r4.getD (Int.toNat r8) default).work : Int), (10 + r9 : Int), (r10 : Int)⟩ : Note)])), cOwn (α := Note) 30 v177z ([(⟨((r4.getD (Int.toNat r8) default).work : Int), (10 + r9 : Int), (r10 : Int)⟩ : Note)]), cBlk nb0_7 [v_newer, I q18, I q28] 158, cBlk b_13 [I ((r4.getD (Int.toNat r8) default).work), I (10 + r9), I r10] 30, cRo Bs_12, cOwn (α := Note) 30 u0_11 r7, cOwn (α := Note) 30 v38z ([(r5.getD (Int.toNat r6) default)]), cOwn (α := Note) 30 v41z (r5 ++ ([(r5.getD (Int.toNat r6) default)])), cRo Bs_8, cOwn (α := Note) 30 u0_5 r4, cBlk nb0_1 [v_numbers, I q12, I q22] 158, cOwn (α := Raw 2) 60 u0_2 rr1_3, cRo Bs2_4] R := H.back H2_ rfl
 clear H2_
 refine sM (.tuple #[B r0, I r14]) rfl <| sX [B r0, I r14] (B r0) rfl rfl <| sX [B r0, I r14] (I r14) rfl rfl <| sA (B r0) rfl <| sA (I r14) rfl <| s_nil <| W.seq <| W.seq ?_
 refine W.draw (fun W => St w W [cOwn (α := Int) 3 v203z ([((r4.getD (Int.toNat r8) default).work : Int)]), cRo Bs_19, cOwn (α := Int) 3 v195z ([((r4.getD (Int.toNat r8) default).work : Int)]), cRo Bs_17, cOwn (α := Note) 30 u0_16 r11, cBlk nb0_6 [v_orders, I q19, I q29] 158, cOwn (α := Note) 30 v183z (r4 ++ ([(⟨((r4.getD (Int.toNat r8) default).work : Int), (10 + r9 : Int), (r10 : Int)⟩ : Note)])), cOwn (α := Note) 30 v177z ([(⟨((r4.getD (Int.toNat r8) default).work : Int), (10 + r9 : Int), (r10 : Int)⟩ : Note)]), cBlk nb0_7 [v_newer, I q18, I q28] 158, cBlk b_13 [I ((r4.getD (Int.toNat r8) default).work), I (10 + r9), I r10] 30, cRo Bs_12, cOwn (α := Note) 30 u0_11 r7, cOwn (α := Note) 30 v38z ([(r5.getD (Int.toNat r6) default)]), cOwn (α := Note) 30 v41z (r5 ++ ([(r5.getD (Int.toNat r6) default)])), cRo Bs_8, cOwn (α := Note) 30 u0_5 r4, cBlk nb0_1 [v_numbers, I q12, I q22] 158, cOwn (α := Raw 2) 60 u0_2 rr1_3, cRo Bs2_4] R) [(0, true), (1, true), (2, true), (3, true), (4, true), (5, true), (6, true), (7, true), (8, true), (9, true), (10, true), (11, true), (12, true), (13, true), (14, true), (15, true), (16, true), (17, true), (18, true), (19, true), (20, true), (21, true), (22, true), (23, true), (24, true), (25, true), (26, true), (27, true), (28, true), (29, true), (30, true)] mixed (by decide +kernel) rfl ?_
 intro w209z hx_
 replace H : St w w209z [cOwn (α := Int) 3 v203z ([((r4.getD (Int.toNat r8) default).work : Int)]), cRo Bs_19, cOwn (α := Int) 3 v195z ([((r4.getD (Int.toNat r8) default).work : Int)]), cRo Bs_17, cOwn (α := Note) 30 u0_16 r11, cBlk nb0_6 [v_orders, I q19, I q29] 158, cOwn (α := Note) 30 v183z (r4 ++ ([(⟨((r4.getD (Int.toNat r8) default).work : Int), (10 + r9 : Int), (r10 : Int)⟩ : Note)])), cOwn (α := Note) 30 v177z ([(⟨((r4.getD (Int.toNat r8) default).work : Int), (10 + r9 : Int), (r10 : Int)⟩ : Note)]), cBlk nb0_7 [v_newer, I q18, I q28] 158, cBlk b_13 [I ((r4.getD (Int.toNat r8) default).work), I (10 + r9), I r10] 30, cRo Bs_12, cOwn (α := Note) 30 u0_11 r7, cOwn (α := Note) 30 v38z ([(r5.getD (Int.toNat r6) default)]), cOwn (α := Note) 30 v41z (r5 ++ ([(r5.getD (Int.toNat r6) default)])), cRo Bs_8, cOwn (α := Note) 30 u0_5 r4, cBlk nb0_1 [v_numbers, I q12, I q22] 158, cOwn (α := Raw 2) 60 u0_2 rr1_3, cRo Bs2_4] R := H.ext hx_
 clear hx_
 refine ⟨(H.pick [0, 1, 2, 3, 4, 5, 6, 7, 8, 9, 10, 11, 12, 13, 14, 15, 16, 17, 18] (by decide) rfl), ?_⟩
 refine d_q rfl (fun w' H => x_mv (v := I e3) rfl) ?_
 refine d_q rfl (fun w' H => x_cmp (kd := .i64) (a := e3) (b := 0) (r := e3 != 0) rfl rfl rfl) ?_
 refine d_q rfl (fun w' H => x_mv (v := B (e3 != 0)) rfl) ?_
 refine d_qg (!(e3 != 0)) rfl (gy_f rfl) (fun hg => (fun w' H => x_mv (v := I e4) rfl)) ?_
 refine d_qg (!(e3 != 0)) rfl (gy_f rfl) (fun hg => (fun w' H => x_cmp (kd := .i64) (a := e4) (b := 0) (r := e4 != 0) (gd_of (c := !(e3 != 0)) hg (I e4)) rfl rfl)) ?_
 refine d_q rfl (fun w' H => x_por (b := e3 != 0) (r := e4 != 0) rfl rfl (fun hb => gd_of (c := !(e3 != 0)) (by first | exact hb | (rw [hb]; rfl) | simp_all) (B (e4 != 0)))) ?_
 refine d_q rfl (fun w' H => x_mv (v := B ((e3 != 0) || (e4 != 0))) rfl) ?_
 refine d_qg (!((e3 != 0) || (e4 != 0))) rfl (gy_f rfl) (fun hg => (fun w' H => x_mv (v := I r14) rfl)) ?_
 refine d_qg (!((e3 != 0) || (e4 != 0))) rfl (gy_f rfl) (fun hg => (fun w' H => x_cmp (kd := .i64) (a := r14) (b := 0) (r := r14 != 0) (gd_of (c := !((e3 != 0) || (e4 != 0))) hg (I r14)) rfl rfl)) ?_
 refine d_q rfl (fun w' H => x_por (b := ((e3 != 0) || (e4 != 0))) (r := r14 != 0) rfl rfl (fun hb => gd_of (c := !((e3 != 0) || (e4 != 0))) (by first | exact hb | (rw [hb]; rfl) | simp_all) (B (r14 != 0)))) ?_
 refine d_q rfl (fun w' H => x_mv (v := B (((e3 != 0) || (e4 != 0)) || (r14 != 0))) rfl) ?_
 refine d_qg (!(((e3 != 0) || (e4 != 0)) || (r14 != 0))) rfl (gy_f rfl) (fun hg => (fun w' H => x_mv (v := B r0) rfl)) ?_
 refine d_qg (!(((e3 != 0) || (e4 != 0)) || (r14 != 0))) rfl (gy_f rfl) (fun hg => (fun w' H => x_not (b := r0) (gd_of (c := !(((e3 != 0) || (e4 != 0)) || (r14 != 0))) hg (B r0)))) ?_
 refine d_q rfl (fun w' H => x_por (b := (((e3 != 0) || (e4 != 0)) || (r14 != 0))) (r := !r0) rfl rfl (fun hb => gd_of (c := !(((e3 != 0) || (e4 != 0)) || (r14 != 0))) (by first | exact hb | (rw [hb]; rfl) | simp_all) (B (!r0)))) ?_
 refine d_q rfl (fun w' H => x_mv (v := B ((((e3 != 0) || (e4 != 0)) || (r14 != 0)) || (!r0))) rfl) ?_
 refine d_qg (!((((e3 != 0) || (e4 != 0)) || (r14 != 0)) || (!r0))) rfl (gy_f rfl) (fun hg => (fun w' H => x_mv (v := u190z) rfl)) ?_
 refine d_qg (!((((e3 != 0) || (e4 != 0)) || (r14 != 0)) || (!r0))) rfl (gy_f rfl) (fun hg => (fun w' H => x_lenS T34.und (gd_of (c := !((((e3 != 0) || (e4 != 0)) || (r14 != 0)) || (!r0))) hg (u190z)) hs191z)) ?_
 refine d_qg (!((((e3 != 0) || (e4 != 0)) || (r14 != 0)) || (!r0))) rfl (gy_f rfl) (fun hg => (fun w' H => x_mv (v := u0_2) rfl)) ?_
 refine d_qg (!((((e3 != 0) || (e4 != 0)) || (r14 != 0)) || (!r0))) rfl (gy_f rfl) (fun hg => (fun w' H => x_lenS T22.und (gd_of (c := !((((e3 != 0) || (e4 != 0)) || (r14 != 0)) || (!r0))) hg (u0_2)) (rowSl rfl (H.get (k := 17) rfl) (roLe _ (H.get (k := 18) rfl)) hf9z))) ?_
 refine d_qg (!((((e3 != 0) || (e4 != 0)) || (r14 != 0)) || (!r0))) rfl (gy_f rfl) (fun hg => (fun w' H => x_cmp (kd := .i64) (a := (l3.length : Int)) (b := (r3.length : Int)) (r := (l3.length : Int) != (r3.length : Int)) (gd_of (c := !((((e3 != 0) || (e4 != 0)) || (r14 != 0)) || (!r0))) hg (I (l3.length : Int))) (gd_of (c := !((((e3 != 0) || (e4 != 0)) || (r14 != 0)) || (!r0))) hg (I (r3.length : Int))) rfl)) ?_
 refine d_q rfl (fun w' H => x_por (b := ((((e3 != 0) || (e4 != 0)) || (r14 != 0)) || (!r0))) (r := (l3.length : Int) != (r3.length : Int)) rfl rfl (fun hb => gd_of (c := !((((e3 != 0) || (e4 != 0)) || (r14 != 0)) || (!r0))) (by first | exact hb | (rw [hb]; rfl) | simp_all) (B ((l3.length : Int) != (r3.length : Int))))) ?_
 refine d_q rfl (fun w' H => x_mv (v := B (((((e3 != 0) || (e4 != 0)) || (r14 != 0)) || (!r0)) || ((l3.length : Int) != (r3.length : Int)))) rfl) ?_
 refine d_qg (!(((((e3 != 0) || (e4 != 0)) || (r14 != 0)) || (!r0)) || ((l3.length : Int) != (r3.length : Int)))) rfl (gy_f rfl) (fun hg => (fun w' H => x_mv (v := u190z) rfl)) ?_
 refine d_qg (!(((((e3 != 0) || (e4 != 0)) || (r14 != 0)) || (!r0)) || ((l3.length : Int) != (r3.length : Int)))) rfl (gy_f rfl) (fun hg => (fun w' H => x_fa (a := Pz b_13) (v := Pz b_13) rfl (fa_blk (o := 0) Fd30_0 Sz3))) ?_
 refine d_qg (!(((((e3 != 0) || (e4 != 0)) || (r14 != 0)) || (!r0)) || ((l3.length : Int) != (r3.length : Int)))) rfl (gy_f rfl) (fun hg => (fun w' H => x_ld (p := Pz b_13) (v := I ((r4.getD (Int.toNat r8) default).work)) (gd_of (c := !(((((e3 != 0) || (e4 != 0)) || (r14 != 0)) || (!r0)) || ((l3.length : Int) != (r3.length : Int)))) hg (Pz b_13)) (ldb_sc Sc3 (H.blk (k := 9) rfl) rfl))) ?_
 obtain ⟨sd212z, hM⟩ := M.e_grd hM
 replace sd212z := M.imp_of sd212z
 simp only [Bool.and_eq_true, decide_eq_true_eq] at sd212z
 refine d_qg (!(((((e3 != 0) || (e4 != 0)) || (r14 != 0)) || (!r0)) || ((l3.length : Int) != (r3.length : Int)))) rfl (gy_f rfl) (fun hg => (fun w' H => x_ix (a := u190z) (b := I ((r4.getD (Int.toNat r8) default).work)) (v := vat u190z 1 (Int.toNat ((r4.getD (Int.toNat r8) default).work))) (gd_of (c := !(((((e3 != 0) || (e4 != 0)) || (r14 != 0)) || (!r0)) || ((l3.length : Int) != (r3.length : Int)))) hg (u190z)) (gd_of (c := !(((((e3 != 0) || (e4 != 0)) || (r14 != 0)) || (!r0)) || ((l3.length : Int) != (r3.length : Int)))) hg (I ((r4.getD (Int.toNat r8) default).work))) (Sl.ix (α := Int) T34.und T34.size hs191z (by have h1_ := sd212z.resolve_left (by rw [hg]; decide); first | exact h1_ | exact h1_.1 | exact h1_.2 | omega | (have hx_ := hg; simp at hx_; omega)) (by have h1_ := sd212z.resolve_left (by rw [hg]; decide); first | exact h1_ | exact h1_.1 | exact h1_.2 | omega | (have hx_ := hg; simp at hx_; omega))))) ?_
 refine d_qg (!(((((e3 != 0) || (e4 != 0)) || (r14 != 0)) || (!r0)) || ((l3.length : Int) != (r3.length : Int)))) rfl (gy_f rfl) (fun hg => (fun w' H => x_ld (p := vat u190z 1 (Int.toNat ((r4.getD (Int.toNat r8) default).work))) (v := I (l3.getD (Int.toNat ((r4.getD (Int.toNat r8) default).work)) 0)) (gd_of (c := !(((((e3 != 0) || (e4 != 0)) || (r14 != 0)) || (!r0)) || ((l3.length : Int) != (r3.length : Int)))) hg (vat u190z 1 (Int.toNat ((r4.getD (Int.toNat r8) default).work)))) (ld_sc Sc3 (At.mono (Int_at hs191z (i := (r4.getD (Int.toNat r8) default).work) (by have h1_ := sd212z.resolve_left (by rw [hg]; decide); first | exact h1_ | exact h1_.1 | exact h1_.2 | omega | (have hx_ := hg; simp at hx_; omega)) (by have h1_ := sd212z.resolve_left (by rw [hg]; decide); first | exact h1_ | exact h1_.1 | exact h1_.2 | omega | (have hx_ := hg; simp at hx_; omega))) (roLe _ (H.get (k := 3) rfl)))))) ?_
 refine d_qg (!(((((e3 != 0) || (e4 != 0)) || (r14 != 0)) || (!r0)) || ((l3.length : Int) != (r3.length : Int)))) rfl (gy_f rfl) (fun hg => (fun w' H => x_fa (a := Pz b_13) (v := Oz b_13 2) rfl (fa_blk (o := 0) Fd30_2 Sz3))) ?_
 refine d_qg (!(((((e3 != 0) || (e4 != 0)) || (r14 != 0)) || (!r0)) || ((l3.length : Int) != (r3.length : Int)))) rfl (gy_f rfl) (fun hg => (fun w' H => x_ld (p := Oz b_13 2) (v := I r10) (gd_of (c := !(((((e3 != 0) || (e4 != 0)) || (r14 != 0)) || (!r0)) || ((l3.length : Int) != (r3.length : Int)))) hg (Oz b_13 2)) (ldb_sc Sc3 (H.blk (k := 9) rfl) rfl))) ?_
 refine d_qg (!(((((e3 != 0) || (e4 != 0)) || (r14 != 0)) || (!r0)) || ((l3.length : Int) != (r3.length : Int)))) rfl (gy_f rfl) (fun hg => (fun w' H => x_cmp (kd := .i64) (a := l3.getD (Int.toNat ((r4.getD (Int.toNat r8) default).work)) 0) (b := r10) (r := (l3.getD (Int.toNat ((r4.getD (Int.toNat r8) default).work)) 0) != r10) (gd_of (c := !(((((e3 != 0) || (e4 != 0)) || (r14 != 0)) || (!r0)) || ((l3.length : Int) != (r3.length : Int)))) hg (I (l3.getD (Int.toNat ((r4.getD (Int.toNat r8) default).work)) 0))) (gd_of (c := !(((((e3 != 0) || (e4 != 0)) || (r14 != 0)) || (!r0)) || ((l3.length : Int) != (r3.length : Int)))) hg (I r10)) rfl)) ?_
 refine d_q rfl (fun w' H => x_por (b := (((((e3 != 0) || (e4 != 0)) || (r14 != 0)) || (!r0)) || ((l3.length : Int) != (r3.length : Int)))) (r := (l3.getD (Int.toNat ((r4.getD (Int.toNat r8) default).work)) 0) != r10) rfl rfl (fun hb => gd_of (c := !(((((e3 != 0) || (e4 != 0)) || (r14 != 0)) || (!r0)) || ((l3.length : Int) != (r3.length : Int)))) (by first | exact hb | (rw [hb]; rfl) | simp_all) (B ((l3.getD (Int.toNat ((r4.getD (Int.toNat r8) default).work)) 0) != r10)))) ?_
 refine d_nil ?_
 refine W.cond ((((((e3 != 0) || (e4 != 0)) || (r14 != 0)) || (!r0)) || ((l3.length : Int) != (r3.length : Int))) || ((l3.getD (Int.toNat ((r4.getD (Int.toNat r8) default).work)) 0) != r10)) rfl (fun c213z => ?_) (fun c213z => ?_)
 ·replace hM := M.e_t hM c213z
  refine sQ rfl <| sA (B false) rfl <| s_nil ?_
  refine W.ret ?_
  have hr_ := M.e_pure hM
  exact ⟨_, resE_tmp rfl, ⟨false, hr_, rfl, (H.pick [] (by decide) rfl)⟩⟩
 replace hM := M.e_f hM c213z
 refine W.skip <| W.seq <| sQ rfl <| sM u0_2 rfl ?_
 have hl214z := ((rowSl rfl (H.get (k := 17) rfl) (roLe _ (H.get (k := 18) rfl)) hf9z)).len_le
 refine s_val (x_lenS T22.und rfl (rowSl rfl (H.get (k := 17) rfl) (roLe _ (H.get (k := 18) rfl)) hf9z)) <| sM (I 0) rfl <| s_nil <| W.block ?_
 obtain ⟨ex215z, hi216z, hk217z⟩ := M.e_bind hM
 obtain ⟨m0_, hi216z⟩ := M.e_iter hi216z
 refine W.loop (fun m σ W => ∃ (s : Nat) (ρ : Env), σ = upds ρ [(8, u0_2), (12, u23z), (17, Pz b_13), (18, u190z), (19, u198z), (163, I (r3.length : Int)), (164, I (s : Int))] ∧ M.iterN (m_nilometerlaw13_NotesOnce_b0 r3 r4 l r8 l3 l4) m s = some ex215z ∧ St w W [cOwn (α := Int) 3 v203z ([((r4.getD (Int.toNat r8) default).work : Int)]), cRo Bs_19, cOwn (α := Int) 3 v195z ([((r4.getD (Int.toNat r8) default).work : Int)]), cRo Bs_17, cOwn (α := Note) 30 u0_16 r11, cBlk nb0_6 [v_orders, I q19, I q29] 158, cOwn (α := Note) 30 v183z (r4 ++ ([(⟨((r4.getD (Int.toNat r8) default).work : Int), (10 + r9 : Int), (r10 : Int)⟩ : Note)])), cOwn (α := Note) 30 v177z ([(⟨((r4.getD (Int.toNat r8) default).work : Int), (10 + r9 : Int), (r10 : Int)⟩ : Note)]), cBlk nb0_7 [v_newer, I q18, I q28] 158, cBlk b_13 [I ((r4.getD (Int.toNat r8) default).work), I (10 + r9), I r10] 30, cRo Bs_12, cOwn (α := Note) 30 u0_11 r7, cOwn (α := Note) 30 v38z ([(r5.getD (Int.toNat r6) default)]), cOwn (α := Note) 30 v41z (r5 ++ ([(r5.getD (Int.toNat r6) default)])), cRo Bs_8, cOwn (α := Note) 30 u0_5 r4, cBlk nb0_1 [v_numbers, I q12, I q22] 158, cOwn (α := Raw 2) 60 u0_2 rr1_3, cRo Bs2_4] R) ?_ ?_
 ·exact ⟨_, 0, _, upds_of _ _ ⟨rfl, rfl, rfl, rfl, rfl, rfl, rfl, trivial⟩, hi216z, H⟩
 rintro m220z σ w218z ⟨s, ρ, rfl, hI219z, H⟩
 obtain ⟨m221z, lt222z, x223z, hM, hN224z⟩ := M.e_iterN hI219z
 simp only [m_nilometerlaw13_NotesOnce_b0] at hM
 clear hI219z
 refine sQ rfl <| sC (s : Int) (r3.length : Int) (decide ((s : Int) < (r3.length : Int))) rfl rfl rfl <| s_nil <| W.seq ?_
 refine W.cond (decide ((s : Int) < (r3.length : Int))) rfl (fun c225z => ?_) (fun c225z => ?_)
 ·replace hM := M.e_t hM c225z
  simp only [qz1, qz2, qz3, qz4, qz5, qz6, ne_eq, qz7] at c225z
  refine W.skip <| W.seq <| W.block <| sQ rfl <| sM (I (s : Int)) rfl <| sA (I (s : Int)) rfl <| s_nil <| sQ rfl <| sM u0_2 rfl <| s_val (x_fa (a := Pz b_13) (v := Pz b_13) rfl (fa_blk (o := 0) Fd30_0 Sz3)) ?_
  refine s_val (x_ld (p := Pz b_13) (v := I ((r4.getD (Int.toNat r8) default).work)) rfl (ldb_sc Sc3 (H.blk (k := 9) rfl) rfl)) <| sM (I (s : Int)) rfl ?_
  obtain ⟨r227z, hx226z, hM⟩ := M.e_bind hM
  refine s_call cf53 [u0_2, I ((r4.getD (Int.toNat r8) default).work), I (s : Int)] rfl (notes_Line_ok r3 ((r4.getD (Int.toNat r8) default).work) (s : Int) (Reads.sup (Reads.of (k := 17) rfl ownLe) (Reads.of (k := 18) rfl roLe)) (rowSl rfl (H.get (k := 17) rfl) (roLe _ (H.get (k := 18) rfl)) hf9z) hx226z _ (St.give (T := [cOwn (α := Int) 3 v203z ([((r4.getD (Int.toNat r8) default).work : Int)]), cRo Bs_19, cOwn (α := Int) 3 v195z ([((r4.getD (Int.toNat r8) default).work : Int)]), cRo Bs_17, cOwn (α := Note) 30 u0_16 r11, cBlk nb0_6 [v_orders, I q19, I q29] 158, cOwn (α := Note) 30 v183z (r4 ++ ([(⟨((r4.getD (Int.toNat r8) default).work : Int), (10 + r9 : Int), (r10 : Int)⟩ : Note)])), cOwn (α := Note) 30 v177z ([(⟨((r4.getD (Int.toNat r8) default).work : Int), (10 + r9 : Int), (r10 : Int)⟩ : Note)]), cBlk nb0_7 [v_newer, I q18, I q28] 158, cBlk b_13 [I ((r4.getD (Int.toNat r8) default).work), I (10 + r9), I r10] 30, cRo Bs_12, cOwn (α := Note) 30 u0_11 r7, cOwn (α := Note) 30 v38z ([(r5.getD (Int.toNat r6) default)]), cOwn (α := Note) 30 v41z (r5 ++ ([(r5.getD (Int.toNat r6) default)])), cRo Bs_8, cOwn (α := Note) 30 u0_5 r4, cBlk nb0_1 [v_numbers, I q12, I q22] 158, cOwn (α := Raw 2) 60 u0_2 rr1_3, cRo Bs2_4]) H rfl)) ?_
  rintro vq w228z ⟨r02, r15, u0_21, hr229z, hvq, H2_⟩
  subst hr229z
  subst vq
  try dsimp only at hM
  replace H : St w w228z [cOwn (α := Int) 3 u0_21 r02, cOwn (α := Int) 3 v203z ([((r4.getD (Int.toNat r8) default).work : Int)]), cRo Bs_19, cOwn (α := Int) 3 v195z ([((r4.getD (Int.toNat r8) default).work : Int)]), cRo Bs_17, cOwn (α := Note) 30 u0_16 r11, cBlk nb0_6 [v_orders, I q19, I q29] 158, cOwn (α := Note) 30 v183z (r4 ++ ([(⟨((r4.getD (Int.toNat r8) default).work : Int), (10 + r9 : Int), (r10 : Int)⟩ : Note)])), cOwn (α := Note) 30 v177z ([(⟨((r4.getD (Int.toNat r8) default).work : Int), (10 + r9 : Int), (r10 : Int)⟩ : Note)]), cBlk nb0_7 [v_newer, I q18, I q28] 158, cBlk b_13 [I ((r4.getD (Int.toNat r8) default).work), I (10 + r9), I r10] 30, cRo Bs_12, cOwn (α := Note) 30 u0_11 r7, cOwn (α := Note) 30 v38z ([(r5.getD (Int.toNat r6) default)]), cOwn (α := Note) 30 v41z (r5 ++ ([(r5.getD (Int.toNat r6) default)])), cRo Bs_8, cOwn (α := Note) 30 u0_5 r4, cBlk nb0_1 [v_numbers, I q12, I q22] 158, cOwn (α := Raw 2) 60 u0_2 rr1_3, cRo Bs2_4] R := H.back H2_ rfl
  clear H2_
  refine sM (.tuple #[u0_21, I r15]) rfl <| sX [u0_21, I r15] u0_21 rfl rfl <| sX [u0_21, I r15] (I r15) rfl rfl <| sA u0_21 rfl <| sA (I r15) rfl <| s_nil <| W.seq <| sQ rfl <| sM u198z rfl <| sM (I (s : Int)) rfl ?_
  refine s_call cf45 [u198z, I (s : Int)] rfl (contains_int (s : Int) _ (hs199z.mono (roLe _ (H.get (k := 2) rfl)))) ?_
  rintro _ w230z ⟨rfl, hx_⟩
  replace H : St w w230z [cOwn (α := Int) 3 u0_21 r02, cOwn (α := Int) 3 v203z ([((r4.getD (Int.toNat r8) default).work : Int)]), cRo Bs_19, cOwn (α := Int) 3 v195z ([((r4.getD (Int.toNat r8) default).work : Int)]), cRo Bs_17, cOwn (α := Note) 30 u0_16 r11, cBlk nb0_6 [v_orders, I q19, I q29] 158, cOwn (α := Note) 30 v183z (r4 ++ ([(⟨((r4.getD (Int.toNat r8) default).work : Int), (10 + r9 : Int), (r10 : Int)⟩ : Note)])), cOwn (α := Note) 30 v177z ([(⟨((r4.getD (Int.toNat r8) default).work : Int), (10 + r9 : Int), (r10 : Int)⟩ : Note)]), cBlk nb0_7 [v_newer, I q18, I q28] 158, cBlk b_13 [I ((r4.getD (Int.toNat r8) default).work), I (10 + r9), I r10] 30, cRo Bs_12, cOwn (α := Note) 30 u0_11 r7, cOwn (α := Note) 30 v38z ([(r5.getD (Int.toNat r6) default)]), cOwn (α := Note) 30 v41z (r5 ++ ([(r5.getD (Int.toNat r6) default)])), cRo Bs_8, cOwn (α := Note) 30 u0_5 r4, cBlk nb0_1 [v_numbers, I q12, I q22] 158, cOwn (α := Raw 2) 60 u0_2 rr1_3, cRo Bs2_4] R := H.ext hx_
  clear hx_
  refine s_val (x_not (b := l4.contains (s : Int)) rfl) <| s_nil ?_
  refine W.cond (!(l4.contains (s : Int))) rfl (fun c231z => ?_) (fun c231z => ?_)
  ·replace hM := M.e_t hM c231z
   refine W.seq <| W.seq ?_
   refine W.draw (fun W => St w W [cOwn (α := Int) 3 u0_21 r02, cOwn (α := Int) 3 v203z ([((r4.getD (Int.toNat r8) default).work : Int)]), cRo Bs_19, cOwn (α := Int) 3 v195z ([((r4.getD (Int.toNat r8) default).work : Int)]), cRo Bs_17, cOwn (α := Note) 30 u0_16 r11, cBlk nb0_6 [v_orders, I q19, I q29] 158, cOwn (α := Note) 30 v183z (r4 ++ ([(⟨((r4.getD (Int.toNat r8) default).work : Int), (10 + r9 : Int), (r10 : Int)⟩ : Note)])), cOwn (α := Note) 30 v177z ([(⟨((r4.getD (Int.toNat r8) default).work : Int), (10 + r9 : Int), (r10 : Int)⟩ : Note)]), cBlk nb0_7 [v_newer, I q18, I q28] 158, cBlk b_13 [I ((r4.getD (Int.toNat r8) default).work), I (10 + r9), I r10] 30, cRo Bs_12, cOwn (α := Note) 30 u0_11 r7, cOwn (α := Note) 30 v38z ([(r5.getD (Int.toNat r6) default)]), cOwn (α := Note) 30 v41z (r5 ++ ([(r5.getD (Int.toNat r6) default)])), cRo Bs_8, cOwn (α := Note) 30 u0_5 r4, cBlk nb0_1 [v_numbers, I q12, I q22] 158, cOwn (α := Raw 2) 60 u0_2 rr1_3, cRo Bs2_4] R) [(0, true), (1, true), (2, true), (3, true), (4, true), (5, true), (6, true), (7, true), (8, true), (9, true), (10, true), (11, true), (12, true)] mixed (by decide +kernel) rfl ?_
   intro w232z hx_
   replace H : St w w232z [cOwn (α := Int) 3 u0_21 r02, cOwn (α := Int) 3 v203z ([((r4.getD (Int.toNat r8) default).work : Int)]), cRo Bs_19, cOwn (α := Int) 3 v195z ([((r4.getD (Int.toNat r8) default).work : Int)]), cRo Bs_17, cOwn (α := Note) 30 u0_16 r11, cBlk nb0_6 [v_orders, I q19, I q29] 158, cOwn (α := Note) 30 v183z (r4 ++ ([(⟨((r4.getD (Int.toNat r8) default).work : Int), (10 + r9 : Int), (r10 : Int)⟩ : Note)])), cOwn (α := Note) 30 v177z ([(⟨((r4.getD (Int.toNat r8) default).work : Int), (10 + r9 : Int), (r10 : Int)⟩ : Note)]), cBlk nb0_7 [v_newer, I q18, I q28] 158, cBlk b_13 [I ((r4.getD (Int.toNat r8) default).work), I (10 + r9), I r10] 30, cRo Bs_12, cOwn (α := Note) 30 u0_11 r7, cOwn (α := Note) 30 v38z ([(r5.getD (Int.toNat r6) default)]), cOwn (α := Note) 30 v41z (r5 ++ ([(r5.getD (Int.toNat r6) default)])), cRo Bs_8, cOwn (α := Note) 30 u0_5 r4, cBlk nb0_1 [v_numbers, I q12, I q22] 158, cOwn (α := Raw 2) 60 u0_2 rr1_3, cRo Bs2_4] R := H.ext hx_
   clear hx_
   refine ⟨(H.pick [0, 1, 2, 3, 4, 5, 6, 7, 8, 9, 10, 11, 12, 13, 14, 15, 16, 17, 18, 19] (by decide) rfl), ?_⟩
   refine d_q rfl (fun w' H => x_mv (v := u190z) rfl) ?_
   refine d_q rfl (fun w' H => x_mv (v := I (s : Int)) rfl) ?_
   obtain ⟨sd233z, hM⟩ := M.e_gd hM
   refine d_q rfl (fun w' H => x_ix (a := u190z) (b := I (s : Int)) (v := vat u190z 1 (Int.toNat (s : Int))) rfl rfl (Sl.ix (α := Int) T34.und T34.size hs191z (by omega) (by omega))) ?_
   refine d_q rfl (fun w' H => x_ld (p := vat u190z 1 (Int.toNat (s : Int))) (v := I (l3.getD s 0)) rfl (ld_sc Sc3 (At.mono (Int_at hs191z (i := (s : Int)) (by omega) (by omega)) (roLe _ (H.get (k := 4) rfl))))) ?_
   refine d_q rfl (fun w' H => x_mv (v := u23z) rfl) ?_
   refine d_q rfl (fun w' H => x_mv (v := I (s : Int)) rfl) ?_
   obtain ⟨sd234z, hM⟩ := M.e_gd hM
   refine d_q rfl (fun w' H => x_ix (a := u23z) (b := I (s : Int)) (v := vat u23z 1 (Int.toNat (s : Int))) rfl rfl (Sl.ix (α := Int) T34.und T34.size hs24z (by omega) (by omega))) ?_
   refine d_q rfl (fun w' H => x_ld (p := vat u23z 1 (Int.toNat (s : Int))) (v := I (l.getD s 0)) rfl (ld_sc Sc3 (At.mono (Int_at hs24z (i := (s : Int)) (by omega) (by omega)) (roLe _ (H.get (k := 15) rfl))))) ?_
   refine d_q rfl (fun w' H => x_cmp (kd := .i64) (a := l3.getD s 0) (b := l.getD s 0) (r := (l3.getD s 0) != (l.getD s 0)) rfl rfl rfl) ?_
   refine d_q rfl (fun w' H => x_mv (v := B ((l3.getD s 0) != (l.getD s 0))) rfl) ?_
   refine d_qg (!((l3.getD s 0) != (l.getD s 0))) rfl (gy_f rfl) (fun hg => (fun w' H => x_mv (v := I r15) rfl)) ?_
   refine d_qg (!((l3.getD s 0) != (l.getD s 0))) rfl (gy_f rfl) (fun hg => (fun w' H => x_cmp (kd := .i64) (a := r15) (b := 5) (r := r15 != 5) (gd_of (c := !((l3.getD s 0) != (l.getD s 0))) hg (I r15)) rfl rfl)) ?_
   refine d_q rfl (fun w' H => x_por (b := (l3.getD s 0) != (l.getD s 0)) (r := r15 != 5) rfl rfl (fun hb => gd_of (c := !((l3.getD s 0) != (l.getD s 0))) (by first | exact hb | (rw [hb]; rfl) | simp_all) (B (r15 != 5)))) ?_
   refine d_nil ?_
   refine W.cond (((l3.getD s 0) != (l.getD s 0)) || (r15 != 5)) rfl (fun c235z => ?_) (fun c235z => ?_)
   ·replace hM := M.e_t hM c235z
    refine sQ rfl <| sA (B false) rfl <| s_nil ?_
    refine W.ret ?_
    have hX236z := M.e_inr hM hN224z
    subst hX236z
    replace hM := hk217z
    try dsimp only at hM
    have hr_ := M.e_pure hM
    exact ⟨_, resE_tmp rfl, ⟨false, hr_, rfl, (H.pick [] (by decide) rfl)⟩⟩
   replace hM := M.e_f hM c235z
   refine W.skip ?_
   refine W.exit ?_
   refine W.region rfl <| sR (s : Int) 1 ((s : Int) + 1) rfl rfl rfl (by omega) <| sM (I ((s : Int) + 1)) rfl <| s_nil ?_
   exact ⟨m221z, lt222z, s + 1, _, upds_of _ _ ⟨rfl, rfl, rfl, rfl, rfl, rfl, rfl, trivial⟩, M.e_inl hM hN224z, (H.pick [1, 2, 3, 4, 5, 6, 7, 8, 9, 10, 11, 12, 13, 14, 15, 16, 17, 18, 19] (by decide) rfl)⟩
  replace hM := M.e_f hM c231z
  refine W.skip <| sQ rfl <| sM u0_2 rfl <| sM u0_21 rfl ?_
  obtain ⟨r238z, hx237z, hM⟩ := M.e_bind hM
  refine s_call cf51 [u0_2, u0_21] rfl (notes_Leads_ok r3 r02 (Reads.sup (Reads.of (k := 18) rfl ownLe) (Reads.of (k := 19) rfl roLe)) (rowSl rfl (H.get (k := 18) rfl) (roLe _ (H.get (k := 19) rfl)) hf9z) (Reads.of (k := 0) rfl ownLe) (ownSl (H.get (k := 0) rfl)) hx237z _ (St.give (T := [cOwn (α := Int) 3 u0_21 r02, cOwn (α := Int) 3 v203z ([((r4.getD (Int.toNat r8) default).work : Int)]), cRo Bs_19, cOwn (α := Int) 3 v195z ([((r4.getD (Int.toNat r8) default).work : Int)]), cRo Bs_17, cOwn (α := Note) 30 u0_16 r11, cBlk nb0_6 [v_orders, I q19, I q29] 158, cOwn (α := Note) 30 v183z (r4 ++ ([(⟨((r4.getD (Int.toNat r8) default).work : Int), (10 + r9 : Int), (r10 : Int)⟩ : Note)])), cOwn (α := Note) 30 v177z ([(⟨((r4.getD (Int.toNat r8) default).work : Int), (10 + r9 : Int), (r10 : Int)⟩ : Note)]), cBlk nb0_7 [v_newer, I q18, I q28] 158, cBlk b_13 [I ((r4.getD (Int.toNat r8) default).work), I (10 + r9), I r10] 30, cRo Bs_12, cOwn (α := Note) 30 u0_11 r7, cOwn (α := Note) 30 v38z ([(r5.getD (Int.toNat r6) default)]), cOwn (α := Note) 30 v41z (r5 ++ ([(r5.getD (Int.toNat r6) default)])), cRo Bs_8, cOwn (α := Note) 30 u0_5 r4, cBlk nb0_1 [v_numbers, I q12, I q22] 158, cOwn (α := Raw 2) 60 u0_2 rr1_3, cRo Bs2_4]) H rfl)) ?_
  rintro vq w239z ⟨r03, r16, hr240z, hvq, H2_⟩
  subst hr240z
  subst vq
  try dsimp only at hM
  replace H : St w w239z [cOwn (α := Int) 3 u0_21 r02, cOwn (α := Int) 3 v203z ([((r4.getD (Int.toNat r8) default).work : Int)]), cRo Bs_19, cOwn (α := Int) 3 v195z ([((r4.getD (Int.toNat r8) default).work : Int)]), cRo Bs_17, cOwn (α := Note) 30 u0_16 r11, cBlk nb0_6 [v_orders, I q19, I q29] 158, cOwn (α := Note) 30 v183z (r4 ++ ([(⟨((r4.getD (Int.toNat r8) default).work : Int), (10 + r9 : Int), (r10 : Int)⟩ : Note)])), cOwn (α := Note) 30 v177z ([(⟨((r4.getD (Int.toNat r8) default).work : Int), (10 + r9 : Int), (r10 : Int)⟩ : Note)]), cBlk nb0_7 [v_newer, I q18, I q28] 158, cBlk b_13 [I ((r4.getD (Int.toNat r8) default).work), I (10 + r9), I r10] 30, cRo Bs_12, cOwn (α := Note) 30 u0_11 r7, cOwn (α := Note) 30 v38z ([(r5.getD (Int.toNat r6) default)]), cOwn (α := Note) 30 v41z (r5 ++ ([(r5.getD (Int.toNat r6) default)])), cRo Bs_8, cOwn (α := Note) 30 u0_5 r4, cBlk nb0_1 [v_numbers, I q12, I q22] 158, cOwn (α := Raw 2) 60 u0_2 rr1_3, cRo Bs2_4] R := H.back H2_ rfl
  clear H2_
  refine sM (.tuple #[B r03, I r16]) rfl <| sX [B r03, I r16] (B r03) rfl rfl <| sX [B r03, I r16] (I r16) rfl rfl <| sA (B r03) rfl <| sA (I r16) rfl <| s_nil <| W.seq ?_
  refine W.draw (fun W => St w W [cOwn (α := Int) 3 u0_21 r02, cOwn (α := Int) 3 v203z ([((r4.getD (Int.toNat r8) default).work : Int)]), cRo Bs_19, cOwn (α := Int) 3 v195z ([((r4.getD (Int.toNat r8) default).work : Int)]), cRo Bs_17, cOwn (α := Note) 30 u0_16 r11, cBlk nb0_6 [v_orders, I q19, I q29] 158, cOwn (α := Note) 30 v183z (r4 ++ ([(⟨((r4.getD (Int.toNat r8) default).work : Int), (10 + r9 : Int), (r10 : Int)⟩ : Note)])), cOwn (α := Note) 30 v177z ([(⟨((r4.getD (Int.toNat r8) default).work : Int), (10 + r9 : Int), (r10 : Int)⟩ : Note)]), cBlk nb0_7 [v_newer, I q18, I q28] 158, cBlk b_13 [I ((r4.getD (Int.toNat r8) default).work), I (10 + r9), I r10] 30, cRo Bs_12, cOwn (α := Note) 30 u0_11 r7, cOwn (α := Note) 30 v38z ([(r5.getD (Int.toNat r6) default)]), cOwn (α := Note) 30 v41z (r5 ++ ([(r5.getD (Int.toNat r6) default)])), cRo Bs_8, cOwn (α := Note) 30 u0_5 r4, cBlk nb0_1 [v_numbers, I q12, I q22] 158, cOwn (α := Raw 2) 60 u0_2 rr1_3, cRo Bs2_4] R) [(0, true), (1, true), (2, true), (3, true), (4, true), (5, true), (6, true), (7, true), (8, true), (9, true), (10, true), (11, true), (12, true), (13, true), (14, true), (15, true), (16, true), (17, true), (18, true), (19, true), (20, true), (21, true), (22, true), (23, true), (24, true), (25, true), (26, true), (27, true)] mixed (by decide +kernel) rfl ?_
  intro w241z hx_
  replace H : St w w241z [cOwn (α := Int) 3 u0_21 r02, cOwn (α := Int) 3 v203z ([((r4.getD (Int.toNat r8) default).work : Int)]), cRo Bs_19, cOwn (α := Int) 3 v195z ([((r4.getD (Int.toNat r8) default).work : Int)]), cRo Bs_17, cOwn (α := Note) 30 u0_16 r11, cBlk nb0_6 [v_orders, I q19, I q29] 158, cOwn (α := Note) 30 v183z (r4 ++ ([(⟨((r4.getD (Int.toNat r8) default).work : Int), (10 + r9 : Int), (r10 : Int)⟩ : Note)])), cOwn (α := Note) 30 v177z ([(⟨((r4.getD (Int.toNat r8) default).work : Int), (10 + r9 : Int), (r10 : Int)⟩ : Note)]), cBlk nb0_7 [v_newer, I q18, I q28] 158, cBlk b_13 [I ((r4.getD (Int.toNat r8) default).work), I (10 + r9), I r10] 30, cRo Bs_12, cOwn (α := Note) 30 u0_11 r7, cOwn (α := Note) 30 v38z ([(r5.getD (Int.toNat r6) default)]), cOwn (α := Note) 30 v41z (r5 ++ ([(r5.getD (Int.toNat r6) default)])), cRo Bs_8, cOwn (α := Note) 30 u0_5 r4, cBlk nb0_1 [v_numbers, I q12, I q22] 158, cOwn (α := Raw 2) 60 u0_2 rr1_3, cRo Bs2_4] R := H.ext hx_
  clear hx_
  refine ⟨(H.pick [0, 1, 2, 3, 4, 5, 6, 7, 8, 9, 10, 11, 12, 13, 14, 15, 16, 17, 18, 19] (by decide) rfl), ?_⟩
  refine d_q rfl (fun w' H => x_mv (v := I r15) rfl) ?_
  refine d_q rfl (fun w' H => x_cmp (kd := .i64) (a := r15) (b := 0) (r := r15 != 0) rfl rfl rfl) ?_
  refine d_q rfl (fun w' H => x_mv (v := B (r15 != 0)) rfl) ?_
  refine d_qg (!(r15 != 0)) rfl (gy_f rfl) (fun hg => (fun w' H => x_mv (v := I r16) rfl)) ?_
  refine d_qg (!(r15 != 0)) rfl (gy_f rfl) (fun hg => (fun w' H => x_cmp (kd := .i64) (a := r16) (b := 0) (r := r16 != 0) (gd_of (c := !(r15 != 0)) hg (I r16)) rfl rfl)) ?_
  refine d_q rfl (fun w' H => x_por (b := r15 != 0) (r := r16 != 0) rfl rfl (fun hb => gd_of (c := !(r15 != 0)) (by first | exact hb | (rw [hb]; rfl) | simp_all) (B (r16 != 0)))) ?_
  refine d_q rfl (fun w' H => x_mv (v := B ((r15 != 0) || (r16 != 0))) rfl) ?_
  refine d_qg (!((r15 != 0) || (r16 != 0))) rfl (gy_f rfl) (fun hg => (fun w' H => x_mv (v := B r03) rfl)) ?_
  refine d_qg (!((r15 != 0) || (r16 != 0))) rfl (gy_f rfl) (fun hg => (fun w' H => x_not (b := r03) (gd_of (c := !((r15 != 0) || (r16 != 0))) hg (B r03)))) ?_
  refine d_q rfl (fun w' H => x_por (b := ((r15 != 0) || (r16 != 0))) (r := !r03) rfl rfl (fun hb => gd_of (c := !((r15 != 0) || (r16 != 0))) (by first | exact hb | (rw [hb]; rfl) | simp_all) (B (!r03)))) ?_
  refine d_q rfl (fun w' H => x_mv (v := B (((r15 != 0) || (r16 != 0)) || (!r03))) rfl) ?_
  refine d_qg (!(((r15 != 0) || (r16 != 0)) || (!r03))) rfl (gy_f rfl) (fun hg => (fun w' H => x_mv (v := u0_21) rfl)) ?_
  obtain ⟨sd242z, hM⟩ := M.e_grd hM
  replace sd242z := M.imp_of sd242z
  simp only [Bool.and_eq_true, decide_eq_true_eq] at sd242z
  refine d_qg (!(((r15 != 0) || (r16 != 0)) || (!r03))) rfl (gy_f rfl) (fun hg => (fun w' H => x_ix (a := u0_21) (b := I 0) (v := vat u0_21 1 (Int.toNat 0)) (gd_of (c := !(((r15 != 0) || (r16 != 0)) || (!r03))) hg (u0_21)) rfl (Sl.ix (α := Int) T34.und T34.size (ownSl (H.get (k := 0) rfl)) (by have h1_ := sd242z.resolve_left (by rw [hg]; decide); first | exact h1_ | exact h1_.1 | exact h1_.2 | omega | (have hx_ := hg; simp at hx_; omega)) (by have h1_ := sd242z.resolve_left (by rw [hg]; decide); first | exact h1_ | exact h1_.1 | exact h1_.2 | omega | (have hx_ := hg; simp at hx_; omega))))) ?_
  refine d_qg (!(((r15 != 0) || (r16 != 0)) || (!r03))) rfl (gy_f rfl) (fun hg => (fun w' H => x_ld (p := vat u0_21 1 (Int.toNat 0)) (v := I (r02.getD 0 0)) (gd_of (c := !(((r15 != 0) || (r16 != 0)) || (!r03))) hg (vat u0_21 1 (Int.toNat 0))) (ld_sc Sc3 (At.mono (Int_at (ownSl (H.get (k := 0) rfl)) (i := 0) (by have h1_ := sd242z.resolve_left (by rw [hg]; decide); first | exact h1_ | exact h1_.1 | exact h1_.2 | omega | (have hx_ := hg; simp at hx_; omega)) (by have h1_ := sd242z.resolve_left (by rw [hg]; decide); first | exact h1_ | exact h1_.1 | exact h1_.2 | omega | (have hx_ := hg; simp at hx_; omega))) (ownLe _ (H.get (k := 0) rfl)))))) ?_
  refine d_qg (!(((r15 != 0) || (r16 != 0)) || (!r03))) rfl (gy_f rfl) (fun hg => (fun w' H => x_fa (a := Pz b_13) (v := Pz b_13) rfl (fa_blk (o := 0) Fd30_0 Sz3))) ?_
  refine d_qg (!(((r15 != 0) || (r16 != 0)) || (!r03))) rfl (gy_f rfl) (fun hg => (fun w' H => x_ld (p := Pz b_13) (v := I ((r4.getD (Int.toNat r8) default).work)) (gd_of (c := !(((r15 != 0) || (r16 != 0)) || (!r03))) hg (Pz b_13)) (ldb_sc Sc3 (H.blk (k := 10) rfl) rfl))) ?_
  refine d_qg (!(((r15 != 0) || (r16 != 0)) || (!r03))) rfl (gy_f rfl) (fun hg => (fun w' H => x_cmp (kd := .i64) (a := r02.getD 0 0) (b := (r4.getD (Int.toNat r8) default).work) (r := (r02.getD 0 0) != ((r4.getD (Int.toNat r8) default).work)) (gd_of (c := !(((r15 != 0) || (r16 != 0)) || (!r03))) hg (I (r02.getD 0 0))) (gd_of (c := !(((r15 != 0) || (r16 != 0)) || (!r03))) hg (I ((r4.getD (Int.toNat r8) default).work))) rfl)) ?_
  refine d_q rfl (fun w' H => x_por (b := (((r15 != 0) || (r16 != 0)) || (!r03))) (r := (r02.getD 0 0) != ((r4.getD (Int.toNat r8) default).work)) rfl rfl (fun hb => gd_of (c := !(((r15 != 0) || (r16 != 0)) || (!r03))) (by first | exact hb | (rw [hb]; rfl) | simp_all) (B ((r02.getD 0 0) != ((r4.getD (Int.toNat r8) default).work))))) ?_
  refine d_q rfl (fun w' H => x_mv (v := B ((((r15 != 0) || (r16 != 0)) || (!r03)) || ((r02.getD 0 0) != ((r4.getD (Int.toNat r8) default).work)))) rfl) ?_
  refine d_qg (!((((r15 != 0) || (r16 != 0)) || (!r03)) || ((r02.getD 0 0) != ((r4.getD (Int.toNat r8) default).work)))) rfl (gy_f rfl) (fun hg => (fun w' H => x_mv (v := u0_21) rfl)) ?_
  refine d_qg (!((((r15 != 0) || (r16 != 0)) || (!r03)) || ((r02.getD 0 0) != ((r4.getD (Int.toNat r8) default).work)))) rfl (gy_f rfl) (fun hg => (fun w' H => x_mv (v := u0_21) rfl)) ?_
  refine d_qg (!((((r15 != 0) || (r16 != 0)) || (!r03)) || ((r02.getD 0 0) != ((r4.getD (Int.toNat r8) default).work)))) rfl (gy_f rfl) (fun hg => (fun w' H => x_lenS T34.und (gd_of (c := !((((r15 != 0) || (r16 != 0)) || (!r03)) || ((r02.getD 0 0) != ((r4.getD (Int.toNat r8) default).work)))) hg (u0_21)) (ownSl (H.get (k := 0) rfl)))) ?_
  obtain ⟨sd244z, hM⟩ := M.e_grd hM
  replace sd244z := M.imp_of sd244z
  simp only [Bool.and_eq_true, decide_eq_true_eq] at sd244z
  refine d_qg (!((((r15 != 0) || (r16 != 0)) || (!r03)) || ((r02.getD 0 0) != ((r4.getD (Int.toNat r8) default).work)))) rfl (gy_f rfl) (fun hg => (fun w' H => x_ari (a := (r02.length : Int)) (b := 1) (r := (r02.length : Int) - 1) (gd_of (c := !((((r15 != 0) || (r16 != 0)) || (!r03)) || ((r02.getD 0 0) != ((r4.getD (Int.toNat r8) default).work)))) hg (I (r02.length : Int))) rfl rfl (by have h1_ := sd244z.resolve_left (by rw [hg]; decide); first | exact h1_ | exact h1_.1 | exact h1_.2 | omega | (have hx_ := hg; simp at hx_; omega)))) ?_
  obtain ⟨sd245z, hM⟩ := M.e_grd hM
  replace sd245z := M.imp_of sd245z
  simp only [Bool.and_eq_true, decide_eq_true_eq] at sd245z
  refine d_qg (!((((r15 != 0) || (r16 != 0)) || (!r03)) || ((r02.getD 0 0) != ((r4.getD (Int.toNat r8) default).work)))) rfl (gy_f rfl) (fun hg => (fun w' H => x_ix (a := u0_21) (b := I ((r02.length : Int) - 1)) (v := vat u0_21 1 (Int.toNat ((r02.length : Int) - 1))) (gd_of (c := !((((r15 != 0) || (r16 != 0)) || (!r03)) || ((r02.getD 0 0) != ((r4.getD (Int.toNat r8) default).work)))) hg (u0_21)) (gd_of (c := !((((r15 != 0) || (r16 != 0)) || (!r03)) || ((r02.getD 0 0) != ((r4.getD (Int.toNat r8) default).work)))) hg (I ((r02.length : Int) - 1))) (Sl.ix (α := Int) T34.und T34.size (ownSl (H.get (k := 0) rfl)) (by have h1_ := sd244z.resolve_left (by rw [hg]; decide); have h2_ := sd245z.resolve_left (by rw [hg]; decide); first | exact h1_ | exact h1_.1 | exact h1_.2 | exact h2_ | exact h2_.1 | exact h2_.2 | omega | (have hx_ := hg; simp at hx_; omega)) (by have h1_ := sd244z.resolve_left (by rw [hg]; decide); have h2_ := sd245z.resolve_left (by rw [hg]; decide); first | exact h1_ | exact h1_.1 | exact h1_.2 | exact h2_ | exact h2_.1 | exact h2_.2 | omega | (have hx_ := hg; simp at hx_; omega))))) ?_
  refine d_qg (!((((r15 != 0) || (r16 != 0)) || (!r03)) || ((r02.getD 0 0) != ((r4.getD (Int.toNat r8) default).work)))) rfl (gy_f rfl) (fun hg => (fun w' H => x_ld (p := vat u0_21 1 (Int.toNat ((r02.length : Int) - 1))) (v := I (r02.getD (Int.toNat ((r02.length : Int) - 1)) 0)) (gd_of (c := !((((r15 != 0) || (r16 != 0)) || (!r03)) || ((r02.getD 0 0) != ((r4.getD (Int.toNat r8) default).work)))) hg (vat u0_21 1 (Int.toNat ((r02.length : Int) - 1)))) (ld_sc Sc3 (At.mono (Int_at (ownSl (H.get (k := 0) rfl)) (i := (r02.length : Int) - 1) (by have h1_ := sd244z.resolve_left (by rw [hg]; decide); have h2_ := sd245z.resolve_left (by rw [hg]; decide); first | exact h1_ | exact h1_.1 | exact h1_.2 | exact h2_ | exact h2_.1 | exact h2_.2 | omega | (have hx_ := hg; simp at hx_; omega)) (by have h1_ := sd244z.resolve_left (by rw [hg]; decide); have h2_ := sd245z.resolve_left (by rw [hg]; decide); first | exact h1_ | exact h1_.1 | exact h1_.2 | exact h2_ | exact h2_.1 | exact h2_.2 | omega | (have hx_ := hg; simp at hx_; omega))) (ownLe _ (H.get (k := 0) rfl)))))) ?_
  refine d_qg (!((((r15 != 0) || (r16 != 0)) || (!r03)) || ((r02.getD 0 0) != ((r4.getD (Int.toNat r8) default).work)))) rfl (gy_f rfl) (fun hg => (fun w' H => x_mv (v := I (s : Int)) rfl)) ?_
  refine d_qg (!((((r15 != 0) || (r16 != 0)) || (!r03)) || ((r02.getD 0 0) != ((r4.getD (Int.toNat r8) default).work)))) rfl (gy_f rfl) (fun hg => (fun w' H => x_cmp (kd := .i64) (a := r02.getD (Int.toNat ((r02.length : Int) - 1)) 0) (b := (s : Int)) (r := (r02.getD (Int.toNat ((r02.length : Int) - 1)) 0) != (s : Int)) (gd_of (c := !((((r15 != 0) || (r16 != 0)) || (!r03)) || ((r02.getD 0 0) != ((r4.getD (Int.toNat r8) default).work)))) hg (I (r02.getD (Int.toNat ((r02.length : Int) - 1)) 0))) (gd_of (c := !((((r15 != 0) || (r16 != 0)) || (!r03)) || ((r02.getD 0 0) != ((r4.getD (Int.toNat r8) default).work)))) hg (I (s : Int))) rfl)) ?_
  refine d_q rfl (fun w' H => x_por (b := ((((r15 != 0) || (r16 != 0)) || (!r03)) || ((r02.getD 0 0) != ((r4.getD (Int.toNat r8) default).work)))) (r := (r02.getD (Int.toNat ((r02.length : Int) - 1)) 0) != (s : Int)) rfl rfl (fun hb => gd_of (c := !((((r15 != 0) || (r16 != 0)) || (!r03)) || ((r02.getD 0 0) != ((r4.getD (Int.toNat r8) default).work)))) (by first | exact hb | (rw [hb]; rfl) | simp_all) (B ((r02.getD (Int.toNat ((r02.length : Int) - 1)) 0) != (s : Int))))) ?_
  refine d_nil ?_
  refine W.cond (((((r15 != 0) || (r16 != 0)) || (!r03)) || ((r02.getD 0 0) != ((r4.getD (Int.toNat r8) default).work))) || ((r02.getD (Int.toNat ((r02.length : Int) - 1)) 0) != (s : Int))) rfl (fun c246z => ?_) (fun c246z => ?_)
  ·replace hM := M.e_t hM c246z
   refine sQ rfl <| sA (B false) rfl <| s_nil ?_
   refine W.ret ?_
   have hX247z := M.e_inr hM hN224z
   subst hX247z
   replace hM := hk217z
   try dsimp only at hM
   have hr_ := M.e_pure hM
   exact ⟨_, resE_tmp rfl, ⟨false, hr_, rfl, (H.pick [] (by decide) rfl)⟩⟩
  replace hM := M.e_f hM c246z
  refine W.skip <| W.region rfl <| sR (s : Int) 1 ((s : Int) + 1) rfl rfl rfl (by omega) <| sM (I ((s : Int) + 1)) rfl <| s_nil ?_
  exact ⟨m221z, lt222z, s + 1, _, upds_of _ _ ⟨rfl, rfl, rfl, rfl, rfl, rfl, rfl, trivial⟩, M.e_inl hM hN224z, (H.pick [1, 2, 3, 4, 5, 6, 7, 8, 9, 10, 11, 12, 13, 14, 15, 16, 17, 18, 19] (by decide) rfl)⟩
 replace hM := M.e_f hM c225z
 simp only [qz1, qz2, qz3, qz4, qz5, qz6, ne_eq, qz7] at c225z
 refine W.exit ?_
 have hX248z := M.e_inr hM hN224z
 subst hX248z
 replace hM := hk217z
 try dsimp only at hM
 refine sQ rfl ?_
 obtain ⟨r250z, hx249z, hM⟩ := M.e_bind hM
 refine s_call cf17 [] rfl (nilometerlaw13_awake_ok hx249z _ (St.give (T := [cOwn (α := Int) 3 v203z ([((r4.getD (Int.toNat r8) default).work : Int)]), cRo Bs_19, cOwn (α := Int) 3 v195z ([((r4.getD (Int.toNat r8) default).work : Int)]), cRo Bs_17, cOwn (α := Note) 30 u0_16 r11, cBlk nb0_6 [v_orders, I q19, I q29] 158, cOwn (α := Note) 30 v183z (r4 ++ ([(⟨((r4.getD (Int.toNat r8) default).work : Int), (10 + r9 : Int), (r10 : Int)⟩ : Note)])), cOwn (α := Note) 30 v177z ([(⟨((r4.getD (Int.toNat r8) default).work : Int), (10 + r9 : Int), (r10 : Int)⟩ : Note)]), cBlk nb0_7 [v_newer, I q18, I q28] 158, cBlk b_13 [I ((r4.getD (Int.toNat r8) default).work), I (10 + r9), I r10] 30, cRo Bs_12, cOwn (α := Note) 30 u0_11 r7, cOwn (α := Note) 30 v38z ([(r5.getD (Int.toNat r6) default)]), cOwn (α := Note) 30 v41z (r5 ++ ([(r5.getD (Int.toNat r6) default)])), cRo Bs_8, cOwn (α := Note) 30 u0_5 r4, cBlk nb0_1 [v_numbers, I q12, I q22] 158, cOwn (α := Raw 2) 60 u0_2 rr1_3, cRo Bs2_4]) H rfl)) ?_
 rintro vq w251z ⟨r17, hr252z, hvq, H2_⟩
 subst hr252z
 subst vq
 try dsimp only at hM
 replace H : St w w251z [cOwn (α := Int) 3 v203z ([((r4.getD (Int.toNat r8) default).work : Int)]), cRo Bs_19, cOwn (α := Int) 3 v195z ([((r4.getD (Int.toNat r8) default).work : Int)]), cRo Bs_17, cOwn (α := Note) 30 u0_16 r11, cBlk nb0_6 [v_orders, I q19, I q29] 158, cOwn (α := Note) 30 v183z (r4 ++ ([(⟨((r4.getD (Int.toNat r8) default).work : Int), (10 + r9 : Int), (r10 : Int)⟩ : Note)])), cOwn (α := Note) 30 v177z ([(⟨((r4.getD (Int.toNat r8) default).work : Int), (10 + r9 : Int), (r10 : Int)⟩ : Note)]), cBlk nb0_7 [v_newer, I q18, I q28] 158, cBlk b_13 [I ((r4.getD (Int.toNat r8) default).work), I (10 + r9), I r10] 30, cRo Bs_12, cOwn (α := Note) 30 u0_11 r7, cOwn (α := Note) 30 v38z ([(r5.getD (Int.toNat r6) default)]), cOwn (α := Note) 30 v41z (r5 ++ ([(r5.getD (Int.toNat r6) default)])), cRo Bs_8, cOwn (α := Note) 30 u0_5 r4, cBlk nb0_1 [v_numbers, I q12, I q22] 158, cOwn (α := Raw 2) 60 u0_2 rr1_3, cRo Bs2_4] R := H.back H2_ rfl
 clear H2_
 refine sA (B r17) rfl <| s_nil ?_
 refine W.ret ?_
 have hr_ := M.e_pure hM
 exact ⟨_, resE_tmp rfl, ⟨r17, hr_, rfl, (H.pick [] (by decide) rfl)⟩⟩

end Go.Proofs.Ytndobgodeicloaa
end
namespace Go.Nm
variable {ws : List Work}
theorem newF_specA : ∀ (l : List Note) (f : Int → Option Note) (i : Int) (n : Note), l.foldl newStep f i = some n → (f i = some n ∨ (n ∈ l ∧ n.work = i)) ∧ (∀ m, f i = some m → m.version ≤ n.version) ∧ ∀ n' ∈ l, n'.work = i → n'.version ≤ n.version
  | [], f, i, n, h => ⟨.inl h, fun m hm => by
      have h : f i = some n := h
      rw [h] at hm
      cases hm
      exact Int.le_refl _, fun n' hn => by simp at hn⟩
  | m :: l, f, i, n, h => by
    obtain ⟨h1, h2, h3⟩ := newF_specA l (newStep f m) i n h
    have hs : (m.work = i ∧ newStep f m i = some m ∧ ∀ q, f i = some q → q.version ≤ m.version) ∨ (newStep f m i = f i ∧ (m.work = i → ∃ q, f i = some q ∧ m.version ≤ q.version)) := by
      unfold newStep
      split
      · rename_i hc
        by_cases e : m.work = i
        · left
          subst e
          refine ⟨rfl, by simp [updF], fun q hq => ?_⟩
          rw [hq] at hc
          simp only [Option.isSome_some, Bool.not_true, Bool.false_or, Option.getD_some, decide_eq_true_eq] at hc
          omega
        · right
          exact ⟨by unfold updF; rw [if_neg (fun h => e h.symm)], fun h => absurd h e⟩
      · rename_i hc
        right
        refine ⟨rfl, fun e => ?_⟩
        subst e
        cases hf : f m.work with
        | none => rw [hf] at hc; simp at hc
        | some q =>
          rw [hf] at hc
          simp only [Option.isSome_some, Bool.not_true, Bool.false_or, Option.getD_some, decide_eq_true_eq] at hc
          exact ⟨q, rfl, by omega⟩
    rcases hs with ⟨e, hs, hq⟩ | ⟨hs, hq⟩
    · have h4 := h2 m hs
      refine ⟨?_, fun q h5 => by have := hq q h5; omega, fun n' hn hw => ?_⟩
      · rcases h1 with h1 | h1
        · rw [hs] at h1
          cases h1
          exact .inr ⟨by simp, e⟩
        · exact .inr ⟨List.mem_cons_of_mem _ h1.1, h1.2⟩
      · rcases List.mem_cons.1 hn with rfl | hn
        · exact h4
        · exact h3 n' hn hw
    · rw [hs] at h1 h2
      refine ⟨?_, h2, fun n' hn hw => ?_⟩
      · rcases h1 with h1 | h1
        · exact .inl h1
        · exact .inr ⟨List.mem_cons_of_mem _ h1.1, h1.2⟩
      · rcases List.mem_cons.1 hn with rfl | hn
        · obtain ⟨q, h5, h6⟩ := hq hw
          have := h2 q h5
          omega
        · exact h3 n' hn hw
theorem newF_spec {l : List Note} {i : Int} {n : Note} (h : newF l i = some n) : n ∈ l ∧ n.work = i ∧ ∀ n' ∈ l, n'.work = i → n'.version ≤ n.version := by
  obtain ⟨h1, _, h3⟩ := newF_specA l (fun _ => none) i n h
  rcases h1 with h1 | h1
  · cases h1
  · exact ⟨h1.1, h1.2, h3⟩
theorem newF_none {l : List Note} {i : Int} (h : newF l i = none) : ∀ n ∈ l, n.work ≠ i := fun n hn hw => by
  have : (newF l i).isSome = true := newF_some l (fun _ => none) i (.inr ⟨n, hn, hw⟩)
  rw [h] at this
  cases this
/-- The newest notes are those of the set. -/
theorem newF_congr {l m : List Note} (hu : Uniq l) (h : ∀ n, n ∈ m ↔ n ∈ l) : newF m = newF l := by
  funext i
  cases hl : newF l i with
  | none =>
    cases hm : newF m i with
    | none => rfl
    | some n =>
      have h1 := newF_spec hm
      exact absurd h1.2.1 (newF_none hl n ((h n).1 h1.1))
  | some n =>
    have h1 := newF_spec hl
    cases hm : newF m i with
    | none => exact absurd h1.2.1 (newF_none hm n ((h n).2 h1.1))
    | some k =>
      have h2 := newF_spec hm
      have h3 := h1.2.2 k ((h k).1 h2.1) h2.2.1
      have h4 := h2.2.2 n ((h n).2 h1.1) h1.2.1
      rw [hu k ((h k).1 h2.1) n h1.1 (by rw [h1.2.1, h2.2.1]) (by omega)]
theorem valL_congr {l m : List Note} (hu : Uniq l) (h : ∀ n, n ∈ m ↔ n ∈ l) : valL ws m = valL ws l := by unfold valL; rw [newF_congr hu h]
theorem NG.congr {l m : List Note} (hG : NG ws l) (h : ∀ n, n ∈ m ↔ n ∈ l) (hl : m.length ≤ 200) : NG ws m :=
  ⟨hl, fun n hn => hG.src n ((h n).1 hn), fun n hn => hG.rng n ((h n).1 hn), fun a ha b hb => hG.uniq a ((h a).1 ha) b ((h b).1 hb)⟩
theorem perm_mapN {p : List Note} {r : List Int} (h : r.Perm (upto p.length)) : (r.map fun k => p.getD k.toNat default).Perm p := by
  have h1 := h.map (fun k : Int => p.getD k.toNat default)
  have h2 : (upto p.length).map (fun k : Int => p.getD k.toNat default) = p := by
    unfold upto
    rw [List.map_map]
    exact range_map_getD p default
  rw [h2] at h1
  exact h1
end Go.Nm
namespace Go.Proofs.Ytndobgodeicloaa
open Go Go.Nm
variable {ws : List Work}
theorem mixN_out {b : List UInt8} {c u x : Int} (h : SOk c u x) (hc : c ≤ 100000000) {l : List Note} (hn : l.length ≤ 10000) :
    (m_nilometerlaw13_mixed b u x l).Out (fun y => y.1.Perm l ∧ SOk (c + 10000) y.2.1 y.2.2) := by
  unfold m_nilometerlaw13_mixed
  refine M.o_bind (mixed_out h hc hn) ?_
  rintro ⟨r, u', x'⟩ ⟨hr, ok⟩
  dsimp only at hr ok ⊢
  obtain ⟨hl, hx⟩ := perm_rng hr
  have := M.i_for (body := m_nilometerlaw13_mixed_b0 l r) (r := (r.map (fun k => l.getD k.toNat default), r.map (fun k => l.getD k.toNat default))) (fun i => (i, (r.take i).map fun k => l.getD k.toNat default)) r.length (fun i hi => ?_) ?_
  · have e : (M.iter (m_nilometerlaw13_mixed_b0 l r) (0, [])).Ends (r.map (fun k => l.getD k.toNat default), r.map (fun k => l.getD k.toNat default)) := by simpa using this
    exact M.o_bindE e (M.o_pure ⟨perm_mapN hr, ok.mono (by omega)⟩)
  · have h1 := hx _ (getD_memN r (by omega : (i : Int) < _) 0)
    simp only [m_nilometerlaw13_mixed_b0]
    refine M.i_t (by simpa using hi) (M.grdD (by omega) (M.i_grd (gA2 h1.1 h1.2) (M.grdD (by simp only [List.length_map, List.length_take, List.length_cons, List.length_nil]; omega) ?_)))
    rw [take_succ_getD r hi 0, List.map_append]
    exact M.i_pure
  · simp only [m_nilometerlaw13_mixed_b0, List.take_length]
    exact M.i_f (by simp) M.i_pure
theorem once_each (hB : Built ws) {a : Int} (a0 : 0 ≤ a) (a1 : a < ws.length) {l : List Note} {k : Int} (hk : (l.getD (Int.toNat k) default).work = a) {V W : List Int} (hV : V.length = ws.length) (hW : W.length = ws.length)
    (hA : askedE ws [a] = 0) (hs : ∀ i, i < ws.length → (staleL ws [a]).getD i false = false → W.getD i 0 = V.getD i 0) :
    (M.iter (m_nilometerlaw13_NotesOnce_b0 ws l V k W (staleR ws [a])) 0).Out (fun y => y = .inr ()) := by
  have hr : ∀ x ∈ [a], 0 ≤ x ∧ x < (ws.length : Int) := fun x hx => by rw [List.mem_singleton.1 hx]; exact ⟨a0, a1⟩
  have hlen := hB.len
  refine M.o_for ws.length (fun i (s : Nat) => i = s) ?_ ?_ rfl
  · rintro i s hi rfl
    have hst := stale_iff hB.opened hr hi
    have hcon := stale_con hA (i := (i : Int)) (by omega) (by omega)
    rw [Int.toNat_natCast] at hcon
    simp only [m_nilometerlaw13_NotesOnce_b0, hk]
    refine M.o_t (by simpa using hi) (M.o_bind (line_out hB a0 a1 (b := (i : Int)) (by omega) (by omega)) ?_)
    rintro ⟨ln, e⟩ hq
    dsimp only
    rw [hcon]
    cases hc : (staleL ws [a]).getD i false with
    | false =>
      have hn : ¬ ((i : Int) ∈ [a] ∨ ∃ k ∈ [a], Wy ws k.toNat i) := fun h => by rw [hst.2 h] at hc; cases hc
      have e5 : e = 5 := by
        rcases hq with ⟨_, _, h3⟩ | ⟨h1, _, _⟩
        · exfalso
          apply hn
          rcases h3 with h3 | h3
          · exact .inl (by rw [← h3]; simp)
          · rw [Int.toNat_natCast] at h3
            exact .inr ⟨a, by simp, h3⟩
        · exact congrArg Prod.snd h1
      subst e5
      refine M.o_t rfl (M.o_grdD (by omega) (M.o_grdD (by omega) (M.o_f ?_ (M.o_pure rfl))))
      rw [hs i hi hc]
      simp
    | true =>
      have hy := hst.1 hc
      have hq2 : e = 0 ∧ LineOk ws a (i : Int) ln := by
        rcases hq with ⟨h1, h2, _⟩ | ⟨_, h2, h3⟩
        · exact ⟨h1, h2⟩
        · exfalso
          rcases hy with hy | ⟨k, hk, hw⟩
          · exact h2 (List.mem_singleton.1 hy).symm
          · rw [List.mem_singleton.1 hk] at hw
            rw [Int.toNat_natCast] at h3
            exact h3 hw
      obtain ⟨rfl, hln⟩ := hq2
      have hll := hln.len
      obtain ⟨r, hr'⟩ := hln.first
      obtain ⟨q, hq'⟩ := hln.last
      have hpos : 0 < ln.length := by rw [hr']; simp
      have hld := notesLeads_ends (l := ln) hB.opened hln.rng (by omega)
      rw [hln.line, decide_eq_true (by omega : (0 : Int) < (ln.length : Int))] at hld
      have g0 : ln.getD 0 0 = a := by rw [hr']; rfl
      have g1 : ln.getD (Int.toNat ((ln.length : Int) - 1)) 0 = (i : Int) := by
        rw [show Int.toNat ((ln.length : Int) - 1) = ln.length - 1 from by omega, hq']
        simp [List.getD_eq_getElem?_getD]
      refine M.o_f rfl (M.o_bindE hld ?_)
      dsimp only
      refine (M.o_grd (gOr (by omega)) (M.o_grd (gOr2 (by omega) (by omega)) (M.o_grd (gOr2 (by omega) (by omega)) (M.o_f ?_ (M.o_pure rfl)))))
      rw [g0, g1]
      simp
  · rintro s rfl
    simp only [m_nilometerlaw13_NotesOnce_b0]
    exact M.o_f (by simp) (M.o_pure rfl)
theorem notesOnce_out (p q d : List UInt8) : (m_nilometerlaw13_NotesOnce p q d).Out (fun r => r = true) := by
  unfold m_nilometerlaw13_NotesOnce
  have s0 : SOk 0 0 0 := ⟨Int.le_refl _, Int.le_refl _, Int.le_refl _, by omega⟩
  refine M.o_bindE M.i_pure (M.o_bind (made_out s0 (by omega) (by omega) (by omega)) ?_)
  rintro ⟨ws, u1, x1⟩ ⟨hW, ok1⟩
  dsimp only at hW ok1 ⊢
  have hB := hW.built
  have hO := hB.opened
  have h2 := hW.two
  have h14 := hW.most
  refine M.o_bind (noted_out ok1 (by omega) (by omega)) ?_
  rintro ⟨l, u2, x2⟩ ⟨⟨l6, l7, hl, hN⟩, ok2⟩
  dsimp only at hl hN ok2 ⊢
  have hG : NG ws l := by rw [hl]; exact hN.ng (by omega)
  have hF : Full ws l := by rw [hl]; exact hN.full
  have hll : l.length ≤ 9 * 14 := by have := hN.len6; have := hN.len7; rw [hl, List.length_append]; omega
  have hv8 : ∀ n ∈ l, n.version ≤ 8 := fun n hn => by rw [hl] at hn; exact (hN.rng n hn).2.1
  have hpos : 0 < l.length := by
    obtain ⟨n, hn, _⟩ := hF 0 (by omega) (hW.src 0 (by omega) (by omega))
    exact List.length_pos_of_mem hn
  have hk := val_known hB hG hF
  have hVl := valL_len ws l
  refine M.o_bindE M.i_pure (M.o_bindE M.i_pure (M.o_bindE M.i_pure ?_))
  rw [hG.err hO, hG.vals hO]
  dsimp only
  refine M.o_bind (mixN_out s0 (by omega) (l := l) (by omega)) ?_
  rintro ⟨r5, u3, x3⟩ ⟨hp5, ok3⟩
  dsimp only at hp5 ok3 ⊢
  have hl5 := hp5.length_eq
  refine M.o_bind (next_out ok3 (by omega) (by omega)) ?_
  rintro ⟨r6, u4, x4⟩ ⟨ok4, lt6, _⟩
  dsimp only at ok4 lt6 ⊢
  have lt6 := lt6 (by omega)
  refine M.o_grd (gA2 lt6.1 lt6.2) (M.o_grdD (by simp only [List.length_cons, List.length_nil]; omega) (M.o_bind (mixN_out ok4 (by omega) (l := r5 ++ [r5.getD (Int.toNat r6) default]) (by simp only [List.length_append, List.length_cons, List.length_nil]; omega)) ?_))
  rintro ⟨r7, u5, x5⟩ ⟨hp7, ok5⟩
  dsimp only at hp7 ok5 ⊢
  have hm7 : ∀ n, n ∈ r7 ↔ n ∈ l := by
    intro n
    rw [hp7.mem_iff, List.mem_append, List.mem_singleton, hp5.mem_iff]
    constructor
    · rintro (h | rfl)
      · exact h
      · rw [← hp5.mem_iff]; exact getD_memN r5 (by omega) default
    · exact .inl
  have hl7 := hp7.length_eq
  simp only [List.length_append, List.length_cons, List.length_nil] at hl7
  have hG7 := hG.congr hm7 (by omega)
  refine M.o_bindE M.i_pure ?_
  rw [hG7.err hO, hG7.vals hO, valL_congr hG.uniq hm7]
  dsimp only
  have hno : (valL ws l).contains (-1) = false := by
    cases hc : (valL ws l).contains (-1) with
    | false => rfl
    | true =>
      rw [List.contains_iff_mem] at hc
      obtain ⟨i, hi, he⟩ := mem_getD hc 0
      have := (hk i (by omega)).1
      omega
  refine M.o_f (by rw [hVl, hno]; simp) (M.o_bind (next_out s0 (by omega) (by omega)) ?_)
  rintro ⟨r8, u6, x6⟩ ⟨ok6, lt8, _⟩
  dsimp only at ok6 lt8 ⊢
  have lt8 := lt8 (by omega)
  have hmem := getD_memN l (i := r8.toNat) (by omega) default
  have hsrc := hG.src _ hmem
  refine M.o_grd (gA2 lt8.1 lt8.2) (M.o_bind (next_out ok6 (by omega) (by omega)) ?_)
  rintro ⟨r9, u7, x7⟩ ⟨ok7, lt9, _⟩
  dsimp only at ok7 lt9 ⊢
  have lt9 := lt9 (by omega)
  refine M.o_grd (gA2 (by omega) (by omega)) (M.o_bind (next_out ok7 (by omega) (by omega)) ?_)
  rintro ⟨r10, u8, x8⟩ ⟨ok8, lt10, _⟩
  dsimp only at ok8 lt10 ⊢
  have lt10 := lt10 (by omega)
  generalize hnd : (⟨(l.getD (Int.toNat r8) default).work, 10 + r9, r10⟩ : Note) = nn
  have hnw : nn.work = (l.getD (Int.toNat r8) default).work := by rw [← hnd]
  have hnv : nn.version = 10 + r9 := by rw [← hnd]
  have hnx : nn.value = r10 := by rw [← hnd]
  refine M.o_grdD (by omega) (M.o_grdD (by simp only [List.length_cons, List.length_nil]; omega) (M.o_bind (mixN_out ok5 (by omega) (l := l ++ [nn]) (by simp only [List.length_append, List.length_cons, List.length_nil]; omega)) ?_))
  rintro ⟨r11, u9, x9⟩ ⟨hp11, _⟩
  dsimp only at hp11 ⊢
  have hl11 := hp11.length_eq
  simp only [List.length_append, List.length_cons, List.length_nil] at hl11
  generalize ha : (l.getD (Int.toNat r8) default).work = a at *
  have hm' : ∀ n ∈ l ++ [nn], n ∈ l ∨ n = nn := fun n hn => by
    rcases List.mem_append.1 hn with hn | hn
    · exact .inl hn
    · exact .inr (List.mem_singleton.1 hn)
  have hGn : NG ws (l ++ [nn]) := ⟨by simp only [List.length_append, List.length_cons, List.length_nil]; omega, fun n hn => by
      rcases hm' n hn with hn | rfl
      · exact hG.src n hn
      · rw [hnw]; exact hsrc, fun n hn => by
      rcases hm' n hn with hn | rfl
      · exact hG.rng n hn
      · rw [hnv, hnx]; omega, hG.uniq.add hm' (fun b hb hh => by have := hv8 b hb; omega)⟩
  have hm11 : ∀ n, n ∈ r11 ↔ n ∈ l ++ [nn] := fun n => hp11.mem_iff
  have hG11 := hGn.congr hm11 (by omega)
  have hV11 : valL ws r11 = valL ws (l ++ [nn]) := valL_congr hGn.uniq hm11
  have hA : askedE ws [a] = 0 := by
    rw [asked_list hO]
    exact listed_of (fun x hx => by rw [List.mem_singleton.1 hx]; exact ⟨hsrc.1, hsrc.2.1⟩) (by simp)
  have hsr := stale_range hA
  have hsa := stale_asc ws [a]
  have hE : fencesE ws [a] (staleR ws [a]) = 0 := fencesE_of hA hsr hsa
  have hR : fencesR ws [a] (staleR ws [a]) = true := (fence_iff hE).2 (stale_fence hO hA)
  have hfe := notesFences_ends ws [a] (staleR ws [a])
  rw [hE, hR] at hfe
  refine M.o_bindE M.i_pure (M.o_bindE M.i_pure ?_)
  rw [hG11.err hO, hG11.vals hO, hV11, hA]
  dsimp only
  have hVn := valL_len ws (l ++ [nn])
  have hnew : newF (l ++ [nn]) a = some nn := by
    cases hq : newF (l ++ [nn]) a with
    | none => exact absurd hnw (newF_none hq nn (by simp))
    | some m =>
      have h1 := newF_spec hq
      have h3 := h1.2.2 nn (by simp) hnw
      rcases hm' m h1.1 with h4 | h4
      · have := hv8 m h4; omega
      · rw [h4]
  have hat : (valL ws (l ++ [nn])).getD a.toNat 0 = r10 := by
    have he := val_eq hO (newF (l ++ [nn])) (i := a) hsrc.1 hsrc.2.1
    have he : (valL ws (l ++ [nn])).getD a.toNat 0 = _ := he
    rw [he, if_pos (by rw [hsrc.2.2]; rfl), hnew]
    exact hnx
  refine M.o_bindE hfe (M.o_grd (gOr2 hsrc.1 (by omega)) (M.o_f (by rw [hVn, hat]; simp) (M.o_bind (once_each hB hsrc.1 hsrc.2.1 ha hVl hVn hA (fun i hi hs => val_same hB (e := [nn]) (fun n hn => by rw [List.mem_singleton.1 hn, hnw]; simp) i hi hs)) ?_)))
  rintro _ rfl
  exact M.o_bindE awake_ends (M.o_pure rfl)
theorem notesOnce_ends (p q d : List UInt8) : (m_nilometerlaw13_NotesOnce p q d).Ends true := by
  obtain ⟨r, h, rfl⟩ := notesOnce_out p q d
  exact h
end Go.Proofs.Ytndobgodeicloaa
