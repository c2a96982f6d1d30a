/- Part 6 of the texts on which the proof rests. Conditions: none. -/
import Derived.Test.YtclhljenjphofaaZC5
set_option linter.unusedVariables false
set_option linter.unusedSimpArgs false
set_option linter.unusedSectionVars false
namespace Go.Nm
variable {ls : List Line} {N : Nat}
/-- Where the rounds stand: all before (a, b) of round k are done. -/
structure Rd3 (N : Nat) (ls : List Line) (T0 : Nat -> Nat -> Int) (k a b : Nat) (l : List (List Int)) : Prop where
  sq : Sq N l
  lo : ∀ x y, x < N -> y < N -> -1000000000000 <= tb l x y /\ tb l x y <= 1000000000000
  dg : ∀ x, x < N -> tb l x x <= 0
  sd : ∀ h, Feas ls h -> ∀ x y : Nat, x < N -> y < N -> tb l x y < 1000000000000 -> h y - h x <= tb l x y
  td : ∀ x y : Nat, x < N -> y < N -> tb l x y < 1000000000000 -> Tied ls x y
  go : (∃ x, x < N /\ tb l x x < 0) ∨ ∃ T, RT N k T0 T /\ (k < N -> 0 <= T k k) /\ ∀ x y, x < N -> y < N -> tb l x y = if x < a ∨ (x = a /\ y < b) then FT k T x y else T x y
theorem Rd3.up {T0 : Nat -> Nat -> Int} {k a b : Nat} {l : List (List Int)} (h : Rd3 N ls T0 k a b l) (hN : N <= 12) (hk : k < N) (ha : a < N) (hb : b < N) : Rd3 N ls T0 k a (b + 1) (up k a b l) := by
  have t := fun i j => tb_up (k := k) h.sq ha hb i j
  have b1 := h.lo a b ha hb
  have b2 := h.lo a k ha hk
  have b3 := h.lo k b hk hb
  refine ⟨up_sq h.sq ha, fun x y hx hy => ?_, fun x hx => ?_, fun f hf x y hx hy => ?_, fun x y hx hy => ?_, ?_⟩
  · rw [t]
    have := h.lo x y hx hy
    split <;> omega
  · rw [t]
    have := h.dg x hx
    split
    · rename_i c
      obtain ⟨rfl, rfl, -⟩ := c
      omega
    · exact this
  · rw [t]
    split
    · rename_i c
      obtain ⟨rfl, rfl, c1, c2⟩ := c
      have e1 := h.sd f hf x k hx hk c1
      have e2 := h.sd f hf k y hk hy c2
      have e3 := h.sd f hf x y hx hy
      intro hlt
      omega
    · exact h.sd f hf x y hx hy
  · rw [t]
    split
    · rename_i c
      obtain ⟨rfl, rfl, c1, c2⟩ := c
      exact fun _ => (h.td x k hx hk c1).trans (h.td k y hk hy c2)
    · exact h.td x y hx hy
  · rcases h.go with ⟨x, hx, hn⟩ | ⟨T, hT, hp, hE⟩
    · refine .inl ⟨x, hx, ?_⟩
      rw [t]
      have := h.lo x x hx hx
      split
      · rename_i c
        obtain ⟨rfl, rfl, -⟩ := c
        omega
      · exact hn
    · have hp := hp hk
      refine .inr ⟨T, hT, fun _ => hp, fun x y hx hy => ?_⟩
      have e1 : tb l a k = T a k := by
        rw [hE a k ha hk]
        split
        · exact FT_col hp
        · rfl
      have e2 : tb l k b = T k b := by
        rw [hE k b hk hb]
        split
        · exact FT_row hp
        · rfl
      have e3 : tb l a b = T a b := by
        rw [hE a b ha hb, if_neg (by omega)]
      have hn := (hT.next hk hN hp).lo a b ha hb
      have hbd := bd_le (k + 1) (by omega)
      rw [t, e1, e2, e3]
      by_cases c : x = a /\ y = b
      · obtain ⟨rfl, rfl⟩ := c
        rw [if_pos (show x < x ∨ (x = x /\ y < y + 1) by omega)]
        by_cases c2 : T x k < 1000000000000 /\ T k y < 1000000000000
        · rw [if_pos ⟨rfl, rfl, c2⟩]
          unfold FT at hn ⊢
          rw [if_pos c2] at hn ⊢
          omega
        · rw [if_neg (fun h => c2 h.2.2), e3]
          unfold FT
          rw [if_neg c2]
      · rw [if_neg (fun h => c ⟨h.1, h.2.1⟩), hE x y hx hy]
        by_cases c3 : x < a ∨ (x = a /\ y < b)
        · rw [if_pos c3, if_pos (by omega)]
        · rw [if_neg c3, if_neg (by omega)]
theorem Rd3.row {T0 : Nat -> Nat -> Int} {k a : Nat} {l : List (List Int)} (h : Rd3 N ls T0 k a N l) : Rd3 N ls T0 k (a + 1) 0 l := by
  refine ⟨h.sq, h.lo, h.dg, h.sd, h.td, ?_⟩
  rcases h.go with g | ⟨T, hT, hp, hE⟩
  · exact .inl g
  · refine .inr ⟨T, hT, hp, fun x y hx hy => ?_⟩
    rw [hE x y hx hy]
    by_cases c : x < a ∨ (x = a /\ y < N)
    · rw [if_pos c, if_pos (by omega)]
    · rw [if_neg c, if_neg (by omega)]
/-- The table at the start. -/
structure Ini (N : Nat) (ls : List Line) (T : Nat -> Nat -> Int) : Prop where
  le : ∀ (a b : Nat) c, a < N -> b < N -> Ed ls a b c -> T a b <= c
  ex : ∀ a b : Nat, a < N -> b < N -> T a b = 1000000000000 ∨ (a = b /\ T a b = 0) ∨ Ed ls a b (T a b)
  dg : ∀ a, a < N -> T a a = 0
theorem Rd3.start (hN : NetOk N ls) {T : Nat -> Nat -> Int} (h : Ini N ls T) {l : List (List Int)} (hs : Sq N l) (he : ∀ a b, a < N -> b < N -> tb l a b = T a b) : Rd3 N ls T 0 0 0 l := by
  have rng : ∀ a b : Nat, a < N -> b < N -> -1010000 <= T a b /\ (T a b = 1000000000000 ∨ T a b <= 1010000) := fun a b ha hb => by
    rcases h.ex a b ha hb with h1 | ⟨-, h1⟩ | h1
    · omega
    · omega
    · have := hN.ed _ _ _ h1; omega
  refine ⟨hs, fun x y hx hy => ?_, fun x hx => ?_, fun f hf x y hx hy hlt => ?_, fun x y hx hy hlt => ?_, .inr ⟨T, ⟨fun a b ha hb => (rng a b ha hb).1, fun a b ha hb => (rng a b ha hb).2, fun a b j _ _ _ hj => by omega, fun a b _ _ => Int.le_refl _⟩, fun h0 => ?_, fun x y hx hy => ?_⟩⟩
  · rw [he x y hx hy]; have := rng x y hx hy; omega
  · rw [he x x hx hx, h.dg x hx]; exact Int.le_refl _
  · rw [he x y hx hy] at hlt ⊢
    rcases h.ex x y hx hy with h1 | ⟨rfl, h1⟩ | h1
    · omega
    · omega
    · exact hf.ed h1
  · rw [he x y hx hy] at hlt
    rcases h.ex x y hx hy with h1 | ⟨rfl, h1⟩ | h1
    · omega
    · exact .refl _ _
    · exact .ed h1
  · rw [h.dg 0 h0]; exact Int.le_refl _
  · rw [he x y hx hy, if_neg (by omega)]
end Go.Nm
namespace Go.Proofs.Ytclhljenjphofaa
open Go Go.Nm
variable {ls : List Line} {n : Int} {N : Nat}
end Go.Proofs.Ytclhljenjphofaa
namespace Go.Nm
variable {ls ks : List Line} {a b d : Int}
theorem Tied.edge {u v c : Int} (he : Ed ls u v c) : Tied ls a u ↔ Tied ls a v := ⟨fun t => t.trans (.ed he), fun t => by obtain ⟨c', hr⟩ := he.rev; exact t.trans (.ed hr)⟩
theorem Wk.map {f : Int -> Int} (hE : ∀ a b c, Ed ks a b c -> Ed ls (f a) (f b) c) {vs : List Int} {c : Int} (w : Wk ks a vs c) : Wk ls (f a) (vs.map f) c := by
  induction w with
  | one => exact .one
  | snoc _ he ih => exact .snoc ih (hE _ _ _ he)
/-! ### Nets that are joined at one mark -/
section
variable {N M there joint : Int} (hN : Rng N ls) (hM : Rng M ks) (hj : 0 <= joint /\ joint < N) (ht : 0 <= there /\ there < M)
include hN hM hj ht
end
end Go.Nm
namespace Go.Nm
variable {ls : List Line} {N : Nat}
/-- What the table says when all marks were gone through, of a net that agrees. -/
structure TabOk (N : Nat) (ls : List Line) (l : List (List Int)) : Prop where
  sq : Sq N l
  far : ∀ x y : Nat, x < N -> y < N -> ¬ Tied ls x y -> tb l x y = 1000000000000
  near : ∀ x y : Nat, x < N -> y < N -> Tied ls x y -> tb l x y < 1000000000000 /\ IsDist ls x y (tb l x y)
end Go.Nm
namespace Go.Nm
variable {ls ms : List Line} {n : Int}
/-- Heights that are returned. -/
structure HtOk (n : Int) (ls : List Line) (l : List Int) : Prop where
  len : (l.length : Int) = n
  feas : Feas ls (hOf l)
  zero : l.getD 0 0 = 0
  bnd : ∀ v, 0 <= v -> v < n -> -100000000 <= hOf l v /\ hOf l v <= 100000000
end Go.Nm
namespace Go.Proofs.Ytclhljenjphofaa
open Go Go.Nm
variable {ls ms : List Line} {n : Int}
theorem agreed_out (hN : NetOk n ls) : (m_level_agreed n ls).Out (fun y => ∃ can by_ e, y = .inr (n, can, by_, e) /\ Wkd ls n can by_ /\ (¬ Agr ls -> e = 7) /\ (Agr ls -> e = 0)) := by
  unfold m_level_agreed
  refine M.o_bind (opened_out hN) ?_
  rintro y ⟨c, b, rfl, hW⟩
  dsimp only
  refine M.o_bind (P := fun r => r = true ↔ ¬ Agr ls) (by
    obtain ⟨r, h1, h2⟩ := open_out hN hW
    exact ⟨r, M.i_opt (fun _ => h1) (fun h => by simp at h), h2⟩) ?_
  intro r hr
  cases r with
  | true => exact M.o_t rfl (M.o_pure ⟨c, b, 7, rfl, hW, fun _ => rfl, fun h => absurd h (hr.1 rfl)⟩)
  | false => exact M.o_f rfl (M.o_pure ⟨c, b, 0, rfl, hW, fun h => absurd (hr.2 h) (by decide), fun _ => rfl⟩)
end Go.Proofs.Ytclhljenjphofaa
namespace Go.Nm
variable {ls : List Line} {n : Int}
end Go.Nm
namespace Go.Proofs.Ytclhljenjphofaa
open Go Go.Nm
variable {ls : List Line} {n : Int}
end Go.Proofs.Ytclhljenjphofaa
namespace Go.Nm
variable {ls : List Line} {n : Int}
/-- Where a walk ends, and what it can rise. -/
def rsW (ls : List Line) : Int -> Int -> List Leg -> Option (Int × Int)
  | last, sum, [] => some (last, sum)
  | last, sum, g :: gs => if sOf ls g = last then rsW ls (gOf ls g) (sum + rOf ls g) gs else none
theorem rsW_cons (l s : Int) (g : Leg) (gs : List Leg) : rsW ls l s (g :: gs) = if sOf ls g = l then rsW ls (gOf ls g) (s + rOf ls g) gs else none := rfl
def legB (ls : List Line) (g : Leg) : Bool := decide (0 <= g.line) && decide (g.line <= (ls.length : Int) - 1)
def rsE (n : Int) (ls : List Line) (walk : List Leg) : Int × Int × Int × Int :=
  bif chkE n ls != 0 then (0, 0, 0, chkE n ls) else bif !(decide (1 <= (walk.length : Int)) && decide ((walk.length : Int) <= 60)) then (0, 0, 0, 3) else bif !(walk.all (legB ls)) then (0, 0, 0, 2) else
  match rsW ls (sOf ls (walk.getD 0 default)) 0 walk with
  | none => (0, 0, 0, 9)
  | some (l, s) => (sOf ls (walk.getD 0 default), l, s, 0)
theorem legB_ok {walk : List Leg} (h : walk.all (legB ls) = true) {i : Nat} (hi : i < walk.length) : LegOk ls (walk.getD i default) := by
  have := List.all_eq_true.1 h (walk.getD i default) (by rw [getD_el walk hi]; exact List.getElem_mem hi)
  unfold legB at this
  rw [Bool.and_eq_true, decide_eq_true_eq, decide_eq_true_eq] at this
  exact ⟨this.1, by omega⟩
theorem drop_D {α : Type} (l : List α) {i : Nat} (h : i < l.length) (d : α) : l.drop i = l.getD i d :: l.drop (i + 1) := by
  rw [List.drop_eq_getElem_cons h, getD_el l h]
end Go.Nm
namespace Go.Proofs.Ytclhljenjphofaa
open Go Go.Nm
variable {ls : List Line} {n : Int}
theorem index_leg {l : List Leg} {f : Leg -> M Bool} {q : Leg -> Bool} (h : ∀ x, x ∈ l -> (f x).Ends (q x)) : (m_slices_IndexFunc_level_Leg l f).Out (fun r => decide (0 <= r) = l.any q) := by
  unfold m_slices_IndexFunc_level_Leg
  refine M.o_bind (P := fun y => match y with | .inl r => decide (0 <= r) = l.any q | .inr _ => l.any q = false) ?_ (fun y hy => by
    rcases y with y | y
    · exact M.o_pure hy
    · exact M.o_pure (by rw [hy]; rfl))
  refine M.o_for l.length (fun i s => s = i /\ (l.take i).any q = false) ?_ ?_ (s := 0) ⟨rfl, by simp⟩
  · rintro i s hi ⟨rfl, hJ⟩
    simp only [m_slices_IndexFunc_level_Leg_b0]
    refine M.o_t (by simpa using hi) (M.o_grd (by simpa using hi) (M.o_bindE (h (l.getD s default) (by rw [getD_el l hi]; exact List.getElem_mem hi)) (M.o_if (fun hb => ?_) (fun hb => ?_))))
    · refine M.o_pure ?_
      dsimp only
      rw [show l.any q = true from List.any_eq_true.2 ⟨_, by rw [getD_el l hi]; exact List.getElem_mem hi, hb⟩]
      exact decide_eq_true (by omega)
    · refine M.o_pure ⟨rfl, ?_⟩
      rw [← take_succ_D l s hi default, List.any_append, hJ]
      simp only [List.any_cons, List.any_nil, Bool.or_false, Bool.false_or]
      exact hb
  · rintro s ⟨rfl, hJ⟩
    simp only [m_slices_IndexFunc_level_Leg_b0]
    rw [List.take_length] at hJ
    exact M.o_f (by simp) (M.o_pure hJ)
theorem every_leg {l : List Leg} {so : Leg -> M Bool} {p : Leg -> Bool} (h : ∀ x, x ∈ l -> (so x).Ends (p x)) : (m_level_every_level_Leg l so).Ends (l.all p) := by
  unfold m_level_every_level_Leg m_slices_ContainsFunc_level_Leg
  obtain ⟨r, h1, h2⟩ := index_leg (l := l) (f := fun x => m_level_every_level_Leg__1 x so) (q := fun x => !(p x)) (fun x hx => by unfold m_level_every_level_Leg__1; exact M.i_bind (h x hx) M.i_pure)
  refine M.i_bind (M.i_bind h1 M.i_pure) ?_
  rw [h2, List.any_eq_not_all_not]
  simp only [Bool.not_not]
  exact M.i_pure
theorem rbd (hN : NetOk n ls) {g : Leg} (h : LegOk ls g) : -1010000 <= rOf ls g /\ rOf ls g <= 1010000 := hN.ed _ _ _ h.ed
theorem rises_ends (n : Int) (ls : List Line) (walk : List Leg) : (m_level_Rises n ls walk).Ends (rsE n ls walk) := by
  unfold m_level_Rises rsE
  refine M.i_bind (check_ends n ls) (M.i_if (fun hb => by rw [hb]; exact M.i_pure) (fun hb => ?_))
  rw [hb]
  have hN : NetOk n ls := chk_ok.1 (by simpa using hb)
  have hfew := hN.few
  refine M.i_bind (in_ends _ _ _) (M.i_if (fun hb => by rw [hb]; exact M.i_pure) (fun hb => ?_))
  rw [hb]
  have hlen : 1 <= (walk.length : Int) /\ (walk.length : Int) <= 60 := by simpa using hb
  refine M.i_bind (every_leg (p := legB ls) fun x _ => by unfold m_level_Rises_1; exact M.i_bind (in_ends _ _ _) M.i_pure) (M.i_if (fun hb => by rw [hb]; exact M.i_pure) (fun hb => ?_))
  rw [hb]
  have hall : walk.all (legB ls) = true := by simpa using hb
  have ok := fun i hi => legB_ok hall (i := i) hi
  refine M.i_grd (decide_eq_true (by omega)) (M.i_bind (start_ends (ok 0 (by omega))) ?_)
  generalize hs : sOf ls (walk.getD 0 default) = s0
  have o : (M.iter (m_level_Rises_b0 n ls walk) (s0, 0, 0)).Out (fun y => match y with | .inl _ => rsW ls s0 0 walk = none | .inr p => rsW ls s0 0 walk = some p) := by
    refine M.o_for walk.length (fun i st => st.2.2 = i /\ rsW ls st.1 st.2.1 (walk.drop i) = rsW ls s0 0 walk /\ -(1010000 * (i : Int)) <= st.2.1 /\ st.2.1 <= 1010000 * (i : Int)) ?_ ?_ (s := (s0, 0, 0)) ⟨rfl, by simp, by simp, by simp⟩
    · rintro i ⟨s, r, x⟩ hi ⟨e, hJ, b1, b2⟩
      dsimp only at hi hJ b1 b2 e
      subst e
      have hok := ok x hi
      have hr := rbd hN hok
      rw [drop_D walk hi default, rsW_cons] at hJ
      simp only [m_level_Rises_b0]
      refine M.o_t (by simpa using hi) (M.o_grd (by simpa using hi) (M.o_bindE (start_ends hok) (M.o_if (fun c => ?_) (fun c => ?_))))
      · rw [if_neg (bne_iff_ne.1 c)] at hJ
        exact M.o_pure hJ.symm
      · rw [if_pos (by simpa using c)] at hJ
        refine M.o_bindE (goal_ends hok) (M.o_bindE (rise_ends hN hok) (M.o_grd (gA2 (by omega) (by omega)) (M.o_pure ⟨rfl, hJ, by dsimp only; omega, by dsimp only; omega⟩)))
    · rintro ⟨s, r, x⟩ ⟨e, hJ, b1, b2⟩
      dsimp only at hJ e
      subst e
      simp only [m_level_Rises_b0]
      rw [List.drop_length] at hJ
      exact M.o_f (by simp) (M.o_pure hJ.symm)
  obtain ⟨y, h1, h2⟩ := o
  refine M.i_bind h1 ?_
  rcases y with u | ⟨l, r⟩
  · dsimp only at h2 ⊢
    rw [h2]
    exact M.i_pure
  · dsimp only at h2 ⊢
    rw [h2]
    exact M.i_pure
end Go.Proofs.Ytclhljenjphofaa
namespace Go.Nm
variable {ls : List Line} {n a : Int} {by_ : Int -> Leg}
/-- So many last legs lead back. -/
inductive ChN (ls : List Line) (a : Int) (by_ : Int -> Leg) : Nat -> Int -> Prop
  | root : ChN ls a by_ 0 a
  | up {k : Nat} {v : Int} (hv : v ≠ a) (h : ChN ls a by_ k (sOf ls (by_ v))) : ChN ls a by_ (k + 1) v
theorem Ch.num {v : Int} (h : Ch ls a by_ v) : ∃ k, ChN ls a by_ k v := by
  induction h with
  | root => exact ⟨0, .root⟩
  | up hv _ ih =>
    obtain ⟨k, hk⟩ := ih
    exact ⟨k + 1, .up hv hk⟩
theorem ChN.uniq {k : Nat} {v : Int} (h : ChN ls a by_ k v) : ∀ {k'}, ChN ls a by_ k' v -> k = k' := by
  induction h with
  | root =>
    intro k' h'
    cases h' with
    | root => rfl
    | up hv _ => exact absurd rfl hv
  | up hv _ ih =>
    intro k' h'
    cases h' with
    | root => exact absurd rfl hv
    | up _ h2 => rw [ih h2]
theorem rsW_snoc (g : Leg) : ∀ (l : List Leg) (x s y r : Int), rsW ls x s l = some (y, r) -> sOf ls g = y -> rsW ls x s (l ++ [g]) = some (gOf ls g, r + rOf ls g)
  | [], x, s, y, r, h, hg => by
    unfold rsW at h
    simp only [Option.some.injEq, Prod.mk.injEq] at h
    obtain ⟨rfl, rfl⟩ := h
    rw [List.nil_append, rsW_cons, if_pos hg]
    rfl
  | g' :: l, x, s, y, r, h, hg => by
    rw [rsW_cons] at h
    rw [List.cons_append, rsW_cons]
    split at h
    · rename_i c
      rw [if_pos c]
      exact rsW_snoc g l _ _ _ _ h hg
    · cases h
end Go.Nm
namespace Go.Proofs.Ytclhljenjphofaa
open Go Go.Nm
variable {ls : List Line} {n : Int}
theorem starts_few (hN : NetOk n ls) {f : Int} {by_ : Int -> Leg} {l : List Leg} (h : ∀ i : Nat, i < l.length -> LegOk ls (l.getD i default) /\ ChN ls f by_ i (sOf ls (l.getD i default))) : l.length <= 12 := by
  have hm := hN.marks
  have := nodup_bound (Int.toNat n) (l.map (sOf ls)) ?_ ?_
  · rw [List.length_map] at this
    omega
  · unfold List.Nodup
    rw [List.pairwise_iff_getElem]
    intro i j hi hj hlt e
    rw [List.length_map] at hi hj
    rw [List.getElem_map, List.getElem_map] at e
    have h1 := (h i hi).2
    have h2 := (h j hj).2
    rw [getD_el l hi] at h1
    rw [getD_el l hj, ← e] at h2
    have := h1.uniq h2
    omega
  · intro x hx
    obtain ⟨g, hg, rfl⟩ := List.mem_map.1 hx
    obtain ⟨i, hi, rfl⟩ := mem_getD hg default
    have := (h i hi).1.ed.rng hN.rng
    omega
theorem highest_1 (hN : NetOk n ls) {can : List Int} {by_ : List Leg} (hW : Wkd ls n can by_) (hA : Agr ls) {f : Int} (hf : 0 <= f /\ f < n) : ∀ (k : Nat) (t : Int), 0 <= t -> t < n -> rw_ can f t < 1099511627776 -> ChN ls f (rb_ by_ f) k t →
    ∃ l, (m_level_Highest_1 t f n ls can by_).Ends l /\ l.length = k /\ rsW ls f 0 l = some (t, rw_ can f t) /\ ∀ i : Nat, i < k -> LegOk ls (l.getD i default) /\ ChN ls f (rb_ by_ f) i (sOf ls (l.getD i default)) := by
  have hm := hN.marks
  have hD := hW.done hN hA hf
  intro k
  induction k with
  | zero =>
    intro t h0 h1 hlt hc
    cases hc
    refine ⟨[], ?_, rfl, ?_, fun i hi => by omega⟩
    · unfold m_level_Highest_1
      refine M.i_fix ?_
      unfold m_level_Highest_1_F
      exact M.i_t (by simp) M.i_pure
    · rw [hW.agr_zero hN hA hf]
      rfl
  | succ k ih =>
    intro t h0 h1 hlt hc
    cases hc with
    | up hv hc2 =>
      obtain ⟨b1, b2, b3, b4⟩ := (hW.row f hf.1 hf.2).bo.leg t h0 h1 hv hlt
      have hr := b1.ed.rng hN.rng
      obtain ⟨l, l1, l2, l3, l4⟩ := ih _ hr.1.1 hr.1.2 b4 hc2
      have hfew := starts_few hN (f := f) (by_ := rb_ by_ f) (l := l) (fun i hi => l4 i (by omega))
      have d1 := hD.dist _ hr.1.1 hr.1.2 b4
      have d2 := hD.dist t h0 h1 hlt
      have ed := b1.ed
      rw [b2] at ed
      have h5 := d1.step ed d2
      refine ⟨l ++ [rb_ by_ f t], ?_, by simp [l2], ?_, fun i hi => ?_⟩
      · unfold m_level_Highest_1 at l1 ⊢
        refine M.i_fix ?_
        unfold m_level_Highest_1_F
        unfold rb_ at l1 b1
        refine M.i_f (by rw [beq_eq_false_iff_ne]; exact hv) (M.i_grd (gA2 (by omega) (by omega)) (M.i_grd (gA2 (by omega) (by omega)) (M.i_bind (start_ends b1) (M.i_bind l1 (M.i_grd (decide_eq_true (by simp only [List.length_cons, List.length_nil]; omega)) M.i_pure)))))
      · have := rsW_snoc (rb_ by_ f t) l _ _ _ _ l3 rfl
        rw [this, b2]
        congr 2
        omega
      · by_cases e : i = k
        · have : (l ++ [rb_ by_ f t]).getD i default = rb_ by_ f t := by rw [e, ← l2]; simp [List.getD_eq_getElem?_getD]
          rw [this, e]
          exact ⟨b1, hc2⟩
        · have : (l ++ [rb_ by_ f t]).getD i default = l.getD i default := by rw [List.getD_eq_getElem?_getD, List.getElem?_append_left (by omega), ← List.getD_eq_getElem?_getD]
          rw [this]
          exact l4 i (by omega)
end Go.Proofs.Ytclhljenjphofaa
namespace Go.Nm
/-- The marks that are met on a walk. -/
def metL (ls : List Line) (l : List Leg) (e : Bool) : List Int := l.map (sOf ls) ++ (if e = true /\ l ≠ [] then [gOf ls (l.getD (l.length - 1) default)] else [])
end Go.Nm
namespace Go.Proofs.Ytclhljenjphofaa
open Go Go.Nm
variable {ls : List Line} {n : Int}
end Go.Proofs.Ytclhljenjphofaa
namespace Go.Nm
/-- A walk that proves a greatest difference. -/
structure HiOk (ls : List Line) (f t : Int) (l : List Leg) : Prop where
  pos : 0 < l.length
  few : l.length <= 12
  ok : ∀ i : Nat, i < l.length -> LegOk ls (l.getD i default)
  first : sOf ls (l.getD 0 default) = f
  once : (metL ls l true).Nodup
  rise : ∃ d, IsDist ls f t d /\ rsW ls f 0 l = some (t, d)
/-- What is said of Highest. -/
structure HiE (n : Int) (ls : List Line) (f t : Int) (l : List Leg) (e : Int) : Prop where
  err : e ≠ 0 -> l = []
  chk : chkE n ls ≠ 0 -> e = chkE n ls
  arg : chkE n ls = 0 -> ¬ ((0 <= f /\ f < n) /\ (0 <= t /\ t < n)) ∨ f = t -> e = 2
  no : chkE n ls = 0 -> (0 <= f /\ f < n) -> (0 <= t /\ t < n) -> f ≠ t -> ¬ Agr ls -> e = 7
  far : chkE n ls = 0 -> (0 <= f /\ f < n) -> (0 <= t /\ t < n) -> f ≠ t -> Agr ls -> ¬ Tied ls f t -> e = 5
  yes : chkE n ls = 0 -> (0 <= f /\ f < n) -> (0 <= t /\ t < n) -> f ≠ t -> Agr ls -> Tied ls f t -> e = 0 /\ HiOk ls f t l
end Go.Nm
namespace Go.Proofs.Ytclhljenjphofaa
open Go Go.Nm
variable {ls : List Line} {n : Int}
theorem highest_all (f t : Int) : (m_level_Highest n ls f t).Out (fun y => HiE n ls f t y.1 y.2) := by
  unfold m_level_Highest m_level_asked
  by_cases h : chkE n ls = 0
  · have hN := chk_ok.1 h
    have hk := hN.marks
    have c1 : (chkE n ls != 0) = false := by rw [h]; rfl
    by_cases hr : ((0 <= f /\ f < n) /\ (0 <= t /\ t < n)) /\ f ≠ t
    · obtain ⟨⟨hf, ht⟩, hne⟩ := hr
      refine M.o_bind (P := fun y => ∃ can by_ e, y = .inr (n, can, by_, e) /\ Wkd ls n can by_ /\ (¬ Agr ls -> e = 7) /\ (Agr ls -> e = if rw_ can f t = 1099511627776 then 5 else 0)) ?_ ?_
      · refine M.o_bindE (check_ends n ls) (M.o_f c1 (M.o_grd (gA2 (by omega) (by omega)) (M.o_bindE (in_ends _ _ _) ?_)))
        rw [show (decide (0 <= f) && decide (f <= n - 1)) = true from gA2 (by omega) (by omega)]
        refine M.o_bindE (a := true) (M.i_opt (fun _ => by rw [← show (decide (0 <= t) && decide (t <= n - 1)) = true from gA2 (by omega) (by omega)]; exact in_ends _ _ _) (fun h => by cases h)) ?_
        refine M.o_f (by rw [beq_eq_false_iff_ne.2 hne]; rfl) (M.o_bind (agreed_out hN) ?_)
        rintro y ⟨c, b, e, rfl, hW, h1, h2⟩
        dsimp only
        refine M.o_grd (gOr2 (by omega) (by omega)) (M.o_grd (gOr2 (by omega) (by omega)) ?_)
        by_cases hA : Agr ls
        · have := h2 hA
          subst this
          by_cases e : rw_ c f t = 1099511627776
          · exact M.o_t (by unfold rw_ at e; rw [e]; rfl) (M.o_pure ⟨c, b, 5, rfl, hW, fun h => absurd hA h, fun _ => by rw [if_pos e]⟩)
          · exact M.o_f (by unfold rw_ at e; simpa using e) (M.o_pure ⟨c, b, 0, rfl, hW, fun h => absurd hA h, fun _ => by rw [if_neg e]⟩)
        · have := h1 hA
          subst this
          exact M.o_f (by simp) (M.o_pure ⟨c, b, 7, rfl, hW, fun _ => rfl, fun h => absurd h hA⟩)
      · rintro y ⟨c, b, e, rfl, hW, h1, h2⟩
        dsimp only
        have no2 : ¬ (((0 <= f /\ f < n) /\ (0 <= t /\ t < n)) -> f = t) := fun h => hne (h ⟨hf, ht⟩)
        by_cases hA : Agr ls
        · have hD := hW.done hN hA hf
          by_cases e5 : rw_ c f t = 1099511627776
          · have := h2 hA
            rw [if_pos e5] at this
            subst this
            refine M.o_t (by decide) (M.o_pure ⟨fun _ => rfl, fun h' => absurd h h', fun _ h' => ?_, fun _ _ _ _ h' => absurd hA h', fun _ _ _ _ _ _ => rfl, fun _ _ _ _ _ hT => ?_⟩)
            · rcases h' with h' | h'
              · exact absurd ⟨hf, ht⟩ h'
              · exact absurd h' hne
            · have := hD.tied t ht.1 ht.2 hT
              omega
          · have := h2 hA
            rw [if_neg e5] at this
            subst this
            have hlt := hD.far t ht.1 ht.2 e5
            have d1 := hD.dist t ht.1 ht.2 hlt
            obtain ⟨h', hF⟩ := hA
            obtain ⟨k, hch⟩ := ((hW.row f hf.1 hf.2).bo.chn h' hF t ht.1 ht.2 hlt).num
            obtain ⟨l, l1, l2, l3, l4⟩ := highest_1 hN hW ⟨h', hF⟩ hf k t ht.1 ht.2 hlt hch
            have hkp : 0 < k := by
              cases hch with
              | root => exact absurd rfl hne
              | up => omega
            have few := starts_few hN (f := f) (by_ := rb_ b f) (l := l) (fun i hi => l4 i (by omega))
            have ho : HiOk ls f t l := by
              refine ⟨by omega, few, fun i hi => (l4 i (by omega)).1, ?_, ?_, _, d1, l3⟩
              · have h0 := (l4 0 hkp).2
                generalize sOf ls (l.getD 0 default) = x at h0
                cases h0
                rfl
              · -- no mark twice: each has its own number of legs back
                have hlast : gOf ls (l.getD (l.length - 1) default) = t := by
                  have g : ∀ (l : List Leg) (x s y r : Int), l ≠ [] -> rsW ls x s l = some (y, r) -> gOf ls (l.getD (l.length - 1) default) = y := by
                    intro l
                    induction l with
                    | nil => intro x s y r h; exact absurd rfl h
                    | cons g l ih =>
                      intro x s y r _ hr
                      rw [rsW_cons] at hr
                      split at hr
                      · cases l with
                        | nil =>
                          unfold rsW at hr
                          simp only [Option.some.injEq, Prod.mk.injEq] at hr
                          exact hr.1
                        | cons g2 l2 =>
                          have := ih _ _ _ _ (by simp) hr
                          simpa using this
                      · cases hr
                  exact g l _ _ _ _ (fun e => by rw [e] at l2; simp at l2; omega) l3
                unfold metL
                rw [if_pos ⟨rfl, fun e => by rw [e] at l2; simp at l2; omega⟩, hlast, List.nodup_append]
                refine ⟨?_, by simp, fun a ha b' hb' e => ?_⟩
                · unfold List.Nodup
                  rw [List.pairwise_iff_getElem]
                  intro i j hi hj hlt' e
                  rw [List.length_map] at hi hj
                  rw [List.getElem_map, List.getElem_map] at e
                  have h1 := (l4 i (by omega)).2
                  have h2 := (l4 j (by omega)).2
                  rw [getD_el l hi] at h1
                  rw [getD_el l hj, ← e] at h2
                  have := h1.uniq h2
                  omega
                · obtain ⟨g, hg, rfl⟩ := List.mem_map.1 ha
                  obtain ⟨i, hi, rfl⟩ := mem_getD hg default
                  obtain rfl : b' = t := by simpa using hb'
                  have h1 := (l4 i (by omega)).2
                  rw [e] at h1
                  have := h1.uniq hch
                  omega
            refine M.o_f (by decide) (M.o_bindE l1 (M.o_pure ⟨fun h => absurd rfl h, fun h' => absurd h h', fun _ h' => ?_, fun _ _ _ _ h' => absurd ⟨_, hF⟩ h', fun _ _ _ _ _ h' => absurd d1.tied h', fun _ _ _ _ _ _ => ⟨rfl, ho⟩⟩))
            rcases h' with h' | h'
            · exact absurd ⟨hf, ht⟩ h'
            · exact absurd h' hne
        · have := h1 hA
          subst this
          refine M.o_t (by decide) (M.o_pure ⟨fun _ => rfl, fun h' => absurd h h', fun _ h' => ?_, fun _ _ _ _ _ => rfl, fun _ _ _ _ h' => absurd h' hA, fun _ _ _ _ h' => absurd h' hA⟩)
          rcases h' with h' | h'
          · exact absurd ⟨hf, ht⟩ h'
          · exact absurd h' hne
    · have two : ∀ y : (List Leg) × Int, y = ([], 2) -> HiE n ls f t y.1 y.2 := by
        rintro _ rfl
        exact ⟨fun _ => rfl, fun h' => absurd h h', fun _ _ => rfl, fun _ a b c => absurd ⟨⟨a, b⟩, c⟩ hr, fun _ a b c => absurd ⟨⟨a, b⟩, c⟩ hr, fun _ a b c => absurd ⟨⟨a, b⟩, c⟩ hr⟩
      refine M.o_bindE (a := .inl 2) ?_ (by dsimp only; exact M.o_t rfl (M.o_pure (two ([], 2) rfl)))
      refine M.i_bind (check_ends n ls) (M.i_f c1 (M.i_grd (gA2 (by omega) (by omega)) (M.i_bind (in_ends _ _ _) ?_)))
      have opt : (M.opt (!(!(decide (0 <= f) && decide (f <= n - 1)))) (m_level_in t 0 (n - 1)) false).Ends ((decide (0 <= f) && decide (f <= n - 1)) && (decide (0 <= t) && decide (t <= n - 1))) := M.i_opt (fun e => by rw [Bool.not_not] at e; rw [e, Bool.true_and]; exact in_ends _ _ _) (fun e => by rw [Bool.not_not] at e; rw [e]; rfl)
      refine M.i_bind opt (M.i_t ?_ M.i_pure)
      by_cases a1 : 0 <= f /\ f < n
      · by_cases a2 : 0 <= t /\ t < n
        · have a3 : f = t := Classical.byContradiction fun h => hr ⟨⟨a1, a2⟩, h⟩
          rw [a3]
          simp
        · have : (decide (0 <= t) && decide (t <= n - 1)) = false := by
            cases hb : (decide (0 <= t) && decide (t <= n - 1)) with
            | false => rfl
            | true =>
              rw [Bool.and_eq_true, decide_eq_true_eq, decide_eq_true_eq] at hb
              exact absurd ⟨hb.1, by omega⟩ a2
          rw [this]
          simp
      · have : (decide (0 <= f) && decide (f <= n - 1)) = false := by
          cases hb : (decide (0 <= f) && decide (f <= n - 1)) with
          | false => rfl
          | true =>
            rw [Bool.and_eq_true, decide_eq_true_eq, decide_eq_true_eq] at hb
            exact absurd ⟨hb.1, by omega⟩ a1
        rw [this]
        rfl
  · have c1 : (chkE n ls != 0) = true := by rw [bne_iff_ne]; exact h
    refine M.o_bindE (M.i_bind (check_ends n ls) (M.i_t c1 M.i_pure)) (M.o_t c1 (M.o_pure ⟨fun _ => rfl, fun _ => rfl, fun h' => absurd h' h, fun h' => absurd h' h, fun h' => absurd h' h, fun h' => absurd h' h⟩))
end Go.Proofs.Ytclhljenjphofaa
namespace Go.Nm
variable {ls : List Line} {n f : Int}
/-- So many last legs back. -/
def bk (ls : List Line) (B : Int -> Leg) : Nat -> Int -> Int
  | 0, v => v
  | k + 1, v => bk ls B k (sOf ls (B v))
def bs (ls : List Line) (B : Int -> Leg) : Nat -> Int -> Int
  | 0, _ => 0
  | k + 1, v => rOf ls (B v) + bs ls B k (sOf ls (B v))
theorem bk_add (B : Int -> Leg) : ∀ (i k : Nat) (v : Int), bk ls B (i + k) v = bk ls B k (bk ls B i v)
  | 0, k, v => by rw [Nat.zero_add]; rfl
  | i + 1, k, v => by rw [show i + 1 + k = (i + k) + 1 by omega]; exact bk_add B i k _
theorem bs_add (B : Int -> Leg) : ∀ (i k : Nat) (v : Int), bs ls B (i + k) v = bs ls B i v + bs ls B k (bk ls B i v)
  | 0, k, v => by rw [Nat.zero_add]; show _ = 0 + bs ls B k v; omega
  | i + 1, k, v => by
    rw [show i + 1 + k = (i + k) + 1 by omega]
    show rOf ls (B v) + bs ls B (i + k) (sOf ls (B v)) = (rOf ls (B v) + bs ls B i (sOf ls (B v))) + bs ls B k (bk ls B i (sOf ls (B v)))
    rw [bs_add B i k]
    omega
theorem bk_succ (B : Int -> Leg) (i : Nat) (v : Int) : bk ls B (i + 1) v = sOf ls (B (bk ls B i v)) := by rw [bk_add]; rfl
/-- The state of the rounds: q tells in which round a mark sank last. -/
structure Sk (ls : List Line) (n f : Int) (R : Int -> Int) (B : Int -> Leg) (H : Int -> Prop) (q : Int -> Nat) : Prop where
  root : H f
  leg : ∀ v, 0 < q v -> H v /\ LegOk ls (B v) /\ gOf ls (B v) = v /\ H (sOf ls (B v)) /\ R (sOf ls (B v)) + rOf ls (B v) <= R v /\ q v <= q (sOf ls (B v)) + 1
  un : ∀ v, H v -> q v = 0 -> v = f
  ring : ∀ (k : Nat) (v : Int), 0 < k -> (∀ i, i < k -> 0 < q (bk ls B i v)) -> bk ls B k v = v -> bs ls B k v < 0
theorem Sk.path {R : Int -> Int} {B : Int -> Leg} {H : Int -> Prop} {q : Int -> Nat} (h : Sk ls n f R B H q) : ∀ (k : Nat) (v : Int), (∀ i, i < k -> 0 < q (bk ls B i v)) -> R (bk ls B k v) + bs ls B k v <= R v
  | 0, v, _ => by show R v + 0 <= R v; omega
  | k + 1, v, hq => by
    have h1 := (h.leg v (hq 0 (by omega))).2.2.2.2.1
    have h2 := h.path k (sOf ls (B v)) fun i hi => hq (i + 1) (by omega)
    show R (bk ls B k (sOf ls (B v))) + (rOf ls (B v) + bs ls B k (sOf ls (B v))) <= R v
    omega
section
variable {R : Int -> Int} {B : Int -> Leg} {H : Int -> Prop} {q : Int -> Nat} {g : Leg} {r : Nat}
def upF {α : Type} (F : Int -> α) (v : Int) (x : α) (w : Int) : α := if w = v then x else F w
theorem upF_at {α : Type} (F : Int -> α) (v : Int) (x : α) : upF F v x v = x := if_pos rfl
theorem upF_no {α : Type} (F : Int -> α) {v w : Int} (x : α) (h : w ≠ v) : upF F v x w = F w := if_neg h
/-- As long as the changed mark is not met the way back is the old one. -/
theorem bk_up (v : Int) : ∀ (k : Nat) (w : Int), (∀ i, i < k -> bk ls (upF B v g) i w ≠ v) -> bk ls (upF B v g) k w = bk ls B k w /\ bs ls (upF B v g) k w = bs ls B k w
  | 0, _, _ => ⟨rfl, rfl⟩
  | k + 1, w, h => by
    have e : upF B v g w = B w := upF_no _ _ (h 0 (by omega))
    obtain ⟨h1, h2⟩ := bk_up v k (sOf ls (B w)) fun i hi => by
      have := h (i + 1) (by omega)
      show bk ls (upF B v g) i (sOf ls (B w)) ≠ v
      rw [← e]
      exact this
    constructor
    · show bk ls (upF B v g) k (sOf ls (upF B v g w)) = bk ls B k (sOf ls (B w))
      rw [e]; exact h1
    · show rOf ls (upF B v g w) + bs ls (upF B v g) k (sOf ls (upF B v g w)) = rOf ls (B w) + bs ls B k (sOf ls (B w))
      rw [e, h2]
theorem Sk.sink (h : Sk ls n f R B H q) (hg : LegOk ls g) (hne : sOf ls g ≠ gOf ls g) (hm : H (sOf ls g)) (hlt : ¬ H (gOf ls g) ∨ R (sOf ls g) + rOf ls g < R (gOf ls g)) (hr : 1 <= r) (hq : r <= q (sOf ls g) + 1) (hmax : ∀ v, q v <= r) :
    Sk ls n f (upF R (gOf ls g) (R (sOf ls g) + rOf ls g)) (upF B (gOf ls g) g) (fun w => H w ∨ w = gOf ls g) (upF q (gOf ls g) r) := by
  generalize hv : gOf ls g = v at *
  generalize hs : sOf ls g = m at *
  have q' : ∀ w, q w <= upF q v r w := fun w => by
    unfold upF
    split
    · rename_i e; rw [e]; exact hmax v
    · exact Nat.le_refl _
  have qpos : ∀ w, w ≠ v -> 0 < upF q v r w -> 0 < q w := fun w hw h => by rwa [upF_no _ _ hw] at h
  have Rle : H v -> ∀ w, upF R v (R m + rOf ls g) w <= R w := fun hv w => by
    unfold upF
    split
    · rename_i e
      rcases hlt with h | h
      · exact absurd hv h
      · rw [e]; omega
    · exact Int.le_refl _
  refine ⟨.inl h.root, fun w hw => ?_, fun w hw h0 => ?_, ?_⟩
  · by_cases e : w = v
    · subst e
      rw [upF_at, upF_at, upF_at, hs, upF_no _ _ hne, upF_no _ _ hne]
      exact ⟨.inr rfl, hg, hv, .inl hm, Int.le_refl _, hq⟩
    · obtain ⟨a1, a2, a3, a4, a5, a6⟩ := h.leg w (qpos w e hw)
      rw [upF_no _ _ e, upF_no _ _ e, upF_no _ _ e]
      refine ⟨.inl a1, a2, a3, .inl a4, ?_, Nat.le_trans a6 (Nat.succ_le_succ (q' _))⟩
      by_cases e2 : sOf ls (B w) = v
      · have := Rle (e2 ▸ a4) (sOf ls (B w))
        omega
      · rw [upF_no _ _ e2]; exact a5
  · by_cases e : w = v
    · subst e; rw [upF_at] at h0; omega
    · rw [upF_no _ _ e] at h0
      rcases hw with hw | hw
      · exact h.un w hw h0
      · exact absurd hw e
  · -- rings through the mark that sinks
    have thru : ∀ (k : Nat), 0 < k -> (∀ i, i < k -> 0 < upF q v r (bk ls (upF B v g) i v)) -> bk ls (upF B v g) k v = v -> bs ls (upF B v g) k v < 0 := by
      intro k
      induction k using Nat.strongRecOn with
      | _ k ih =>
        intro hk hqs hb
        have first : ∃ j, (0 < j /\ bk ls (upF B v g) j v = v) /\ ∀ i, (0 < i /\ bk ls (upF B v g) i v = v) -> j <= i := least_nat ⟨k, hk, hb⟩
        obtain ⟨j, ⟨j0, j1⟩, j2⟩ := first
        have jk := j2 k ⟨hk, hb⟩
        obtain ⟨i, rfl⟩ : ∃ i, j = i + 1 := ⟨j - 1, by omega⟩
        have e0 : sOf ls (upF B v g v) = m := by rw [upF_at, hs]
        have e1 : bk ls (upF B v g) (i + 1) v = bk ls (upF B v g) i m := by show bk ls (upF B v g) i (sOf ls (upF B v g v)) = _; rw [e0]
        have e2 : bs ls (upF B v g) (i + 1) v = rOf ls g + bs ls (upF B v g) i m := by show rOf ls (upF B v g v) + bs ls (upF B v g) i (sOf ls (upF B v g v)) = _; rw [e0, upF_at]
        have nv : ∀ x, x < i -> bk ls (upF B v g) x m ≠ v := fun x hx hx2 => by
          have : bk ls (upF B v g) (x + 1) v = v := by show bk ls (upF B v g) x (sOf ls (upF B v g v)) = v; rw [e0]; exact hx2
          have := j2 (x + 1) ⟨by omega, this⟩
          omega
        obtain ⟨b1, b2⟩ := bk_up (ls := ls) (B := B) (g := g) v i m nv
        have old : ∀ x, x < i -> 0 < q (bk ls B x m) := fun x hx => by
          obtain ⟨c1, _⟩ := bk_up (ls := ls) (B := B) (g := g) v x m fun y hy => nv y (by omega)
          have hp := hqs (x + 1) (by omega)
          have e3 : bk ls (upF B v g) (x + 1) v = bk ls (upF B v g) x m := by show bk ls (upF B v g) x (sOf ls (upF B v g v)) = _; rw [e0]
          rw [e3, upF_no _ _ (nv x hx), c1] at hp
          exact hp
        have back : bk ls B i m = v := by rw [← b1, ← e1]; exact j1
        have hHv : H v := by
          cases i with
          | zero => exact absurd back hne
          | succ i =>
            rw [bk_succ] at back
            rw [← back]
            exact (h.leg _ (old i (by omega))).2.2.2.1
        have hlt' : R m + rOf ls g < R v := by
          rcases hlt with h | h
          · exact absurd hHv h
          · exact h
        have hp := h.path i m old
        rw [back] at hp
        have neg : bs ls (upF B v g) (i + 1) v < 0 := by rw [e2, b2]; omega
        by_cases ek : i + 1 = k
        · rw [← ek]; exact neg
        · obtain ⟨d, rfl⟩ : ∃ d, k = (i + 1) + d := ⟨k - (i + 1), by omega⟩
          rw [bs_add, j1]
          rw [bk_add, j1] at hb
          have := ih d (by omega) (by omega) (fun x hx => by
            have := hqs ((i + 1) + x) (by omega)
            rwa [bk_add, j1] at this) hb
          omega
    intro k w hk hqs hb
    by_cases c : ∃ i, i < k /\ bk ls (upF B v g) i w = v
    · obtain ⟨i, hi, e⟩ := c
      obtain ⟨d, rfl⟩ : ∃ d, k = i + d := ⟨k - i, by omega⟩
      rw [bk_add, e] at hb
      have e1 : bs ls (upF B v g) (i + d) w = bs ls (upF B v g) (d + i) v := by
        rw [bs_add, e, bs_add, hb]
        omega
      rw [e1]
      refine thru (d + i) (by omega) (fun x hx => ?_) ?_
      · by_cases hx2 : x < d
        · have := hqs (i + x) (by omega)
          rwa [bk_add, e] at this
        · obtain ⟨y, rfl⟩ : ∃ y, x = d + y := ⟨x - d, by omega⟩
          rw [bk_add, hb]
          exact hqs y (by omega)
      · rw [bk_add, hb, e]
    · have nv : ∀ i, i < k -> bk ls (upF B v g) i w ≠ v := fun i hi e => c ⟨i, hi, e⟩
      obtain ⟨b1, b2⟩ := bk_up (ls := ls) (B := B) (g := g) v k w nv
      rw [b2]
      rw [b1] at hb
      refine h.ring k w hk (fun i hi => ?_) hb
      obtain ⟨c1, _⟩ := bk_up (ls := ls) (B := B) (g := g) v i w fun y hy => nv y (by omega)
      have := hqs i hi
      rw [upF_no _ _ (nv i hi), c1] at this
      exact this
end
end Go.Nm
namespace Go.Nm
variable {ls : List Line} {n f : Int}
/-- A leg that lets nothing sink. -/
def Fin (ls : List Line) (R : Int -> Int) (H : Int -> Prop) (g : Leg) : Prop := H (gOf ls g) /\ R (gOf ls g) <= R (sOf ls g) + rOf ls g
/-- Round r, in which the marks before c were gone through. -/
structure Rk (ls : List Line) (n f : Int) (r c : Nat) (K : Int) (R : Int -> Int) (B : Int -> Leg) (H : Int -> Prop) (q : Int -> Nat) (at_ : Int) : Prop where
  sk : Sk ls n f R B H q
  dom : ∀ v, H v -> 0 <= v /\ v < n
  qd : ∀ v, 0 < q v -> H v
  qm : ∀ v, q v <= r
  old : ∀ m, H m -> q m + 1 < r -> ∀ g, LegOk ls g -> sOf ls g = m -> Fin ls R H g
  now : ∀ m, H m -> m < c -> q m < r -> ∀ g, LegOk ls g -> sOf ls g = m -> Fin ls R H g
  no : at_ = -1 -> ∀ v, q v < r
  yes : at_ ≠ -1 -> q at_ = r
  lo : ∀ v, -K <= R v /\ R v <= K
theorem Fin.up {R : Int -> Int} {H : Int -> Prop} {g g' : Leg} (h : Fin ls R H g') (hlt : ¬ H (gOf ls g) ∨ R (sOf ls g) + rOf ls g < R (gOf ls g)) (hm : sOf ls g' ≠ gOf ls g) :
    Fin ls (upF R (gOf ls g) (R (sOf ls g) + rOf ls g)) (fun w => H w ∨ w = gOf ls g) g' := by
  refine ⟨.inl h.1, ?_⟩
  rw [upF_no R _ hm]
  by_cases e : gOf ls g' = gOf ls g
  · rw [e, upF_at]
    have h1 := h.2
    have h2 := h.1
    rw [e] at h1 h2
    rcases hlt with h3 | h3
    · exact absurd h2 h3
    · omega
  · rw [upF_no R _ e]
    exact h.2
theorem Rk.sink {r c : Nat} {K : Int} {R : Int -> Int} {B : Int -> Leg} {H : Int -> Prop} {q : Int -> Nat} {at_ : Int} (hN : NetOk n ls) (h : Rk ls n f r c K R B H q at_) {g : Leg} (hg : LegOk ls g) (hr : 1 <= r) (hm : H (sOf ls g)) (hlt : ¬ H (gOf ls g) ∨ R (sOf ls g) + rOf ls g < R (gOf ls g)) :
    Rk ls n f r c (K + 1010000) (upF R (gOf ls g) (R (sOf ls g) + rOf ls g)) (upF B (gOf ls g) g) (fun w => H w ∨ w = gOf ls g) (upF q (gOf ls g) r) (gOf ls g) := by
  have hrg := hg.ed.rng hN.rng
  have hne : sOf ls g ≠ gOf ls g := fun e => by
    have h1 := hN.ne _ hg.mem
    unfold sOf gOf legEnd at e
    cases hb : g.back <;> rw [hb] at e <;> simp at e <;> omega
  have hq : r <= q (sOf ls g) + 1 := Classical.byContradiction fun hc => by
    have := h.old _ hm (by omega) g hg rfl
    rcases hlt with h1 | h1
    · exact h1 this.1
    · have := this.2; omega
  have hb := hN.ed _ _ _ hg.ed
  have hv0 : H (gOf ls g) ∨ q (gOf ls g) = 0 := by
    rcases Nat.eq_zero_or_pos (q (gOf ls g)) with z | z
    · exact .inr z
    · exact .inl (h.qd _ z)
  refine ⟨h.sk.sink hg hne hm hlt hr hq h.qm, fun w hw => ?_, fun w hw => ?_, fun w => ?_, fun m hH hqm g' hg' hs => ?_, fun m hH hc hqm g' hg' hs => ?_, fun e => ?_, fun _ => upF_at _ _ _, fun w => ?_⟩
  · rcases hw with hw | rfl
    · exact h.dom w hw
    · exact hrg.2
  · by_cases e : w = gOf ls g
    · exact .inr e
    · rw [upF_no _ _ e] at hw; exact .inl (h.qd w hw)
  · by_cases e : w = gOf ls g
    · rw [e, upF_at]; exact Nat.le_refl _
    · rw [upF_no _ _ e]; exact h.qm w
  · by_cases e : m = gOf ls g
    · rw [e, upF_at] at hqm; omega
    · rw [upF_no _ _ e] at hqm
      rcases hH with hH | hH
      · exact (h.old m hH hqm g' hg' hs).up hlt (by rw [hs]; exact e)
      · exact absurd hH e
  · by_cases e : m = gOf ls g
    · rw [e, upF_at] at hqm; omega
    · rw [upF_no _ _ e] at hqm
      rcases hH with hH | hH
      · exact (h.now m hH hc hqm g' hg' hs).up hlt (by rw [hs]; exact e)
      · exact absurd hH e
  · omega
  · have h1 := h.lo (sOf ls g)
    have h2 := h.lo w
    by_cases e : w = gOf ls g
    · rw [e, upF_at]; omega
    · rw [upF_no _ _ e]; omega
theorem Rk.keep {r c : Nat} {K K' : Int} {R : Int -> Int} {B : Int -> Leg} {H : Int -> Prop} {q : Int -> Nat} {at_ : Int} (h : Rk ls n f r c K R B H q at_) (hK : K <= K') : Rk ls n f r c K' R B H q at_ :=
  ⟨h.sk, h.dom, h.qd, h.qm, h.old, h.now, h.no, h.yes, fun v => by have := h.lo v; omega⟩
/-- A mark was gone through. -/
theorem Rk.mark {r c : Nat} {K : Int} {R : Int -> Int} {B : Int -> Leg} {H : Int -> Prop} {q : Int -> Nat} {at_ : Int} (h : Rk ls n f r c K R B H q at_) (hl : H c -> ∀ g, LegOk ls g -> sOf ls g = c -> Fin ls R H g) : Rk ls n f r (c + 1) K R B H q at_ :=
  ⟨h.sk, h.dom, h.qd, h.qm, h.old, fun m hm hc hq g hg hs => by
    by_cases e : m = c
    · rw [e] at hm hs
      exact hl hm g hg hs
    · exact h.now m hm (by omega) hq g hg hs, h.no, h.yes, h.lo⟩
/-- A round is over. -/
theorem Rk.round {r N : Nat} {K : Int} {R : Int -> Int} {B : Int -> Leg} {H : Int -> Prop} {q : Int -> Nat} {at_ : Int} (e : (N : Int) = n) (h : Rk ls n f r N K R B H q at_) : Rk ls n f (r + 1) 0 K R B H q (-1) :=
  ⟨h.sk, h.dom, h.qd, fun v => Nat.le_succ_of_le (h.qm v), fun m hm hq g hg hs => h.now m hm (by have := h.dom m hm; omega) (by omega) g hg hs, fun m hm hc => by have := h.dom m hm; omega, fun _ v => Nat.lt_succ_of_le (h.qm v), fun h' => absurd rfl h', h.lo⟩
theorem Rk.start {n f : Int} (hf : 0 <= f /\ f < n) (B : Int -> Leg) : Rk ls n f 1 0 0 (fun _ => 0) B (fun v => v = f) (fun _ => 0) (-1) where
  sk := ⟨rfl, fun v h => by omega, fun v h _ => h, fun k v hk h => by have := h 0 hk; omega⟩
  dom v h := by rw [h]; exact hf
  qd v h := by omega
  qm v := by omega
  old m _ h := by omega
  now m h hc := by omega
  no _ v := by omega
  yes h := absurd rfl h
  lo v := by omega
/-- Behind a round in which nothing sank the rises are heights. -/
theorem Rk.still {r N : Nat} {K : Int} {R : Int -> Int} {B : Int -> Leg} {H : Int -> Prop} {q : Int -> Nat} (e : (N : Int) = n) (h : Rk ls n f r N K R B H q (-1)) : ∀ g, LegOk ls g -> H (sOf ls g) -> Fin ls R H g :=
  fun g hg hm => h.now _ hm (by have := h.dom _ hm; omega) (h.no rfl _) g hg rfl
/-- Behind so many rounds one can go back N legs from a mark that sank in the last one. -/
theorem Rk.back {r N : Nat} {K : Int} {R : Int -> Int} {B : Int -> Leg} {H : Int -> Prop} {q : Int -> Nat} {at_ : Int} (h : Rk ls n f r N K R B H q at_) (ha : at_ ≠ -1) (hr : N + 1 <= r) : ∀ i, i <= N -> r <= q (bk ls B i at_) + i := by
  intro i
  induction i with
  | zero => intro _; have := h.yes ha; show r <= q at_ + 0; omega
  | succ i ih =>
    intro hi
    have h1 := ih (by omega)
    have h2 := (h.sk.leg (bk ls B i at_) (by omega)).2.2.2.2.2
    rw [bk_succ]
    omega
end Go.Nm
namespace Go.Nm
variable {ls : List Line} {n f : Int}
theorem pigeon (N : Nat) (F : Nat -> Int) (hb : ∀ i, i <= N -> 0 <= F i /\ F i < N) : ∃ i j, i < j /\ j <= N /\ F i = F j := by
  refine Classical.byContradiction fun hc => ?_
  have hn : ((List.range (N + 1)).map F).Nodup := by
    refine List.pairwise_iff_getElem.mpr fun i j hi hj hij => ?_
    simp only [List.length_map, List.length_range] at hi hj
    simp only [List.getElem_map, List.getElem_range]
    exact fun e => hc ⟨i, j, hij, by omega, e⟩
  have := nodup_bound N _ hn fun x hx => by
    obtain ⟨i, hi, rfl⟩ := List.mem_map.mp hx
    exact hb i (by have := List.mem_range.mp hi; omega)
  simp at this
  omega
/-- The legs of a ring in the order in which they are gone back. -/
def rgL (ls : List Line) (B : Int -> Leg) (y : Int) (k : Nat) : List Leg := (List.range k).map fun i => B (bk ls B i y)
theorem rgL_succ (B : Int -> Leg) (y : Int) (k : Nat) : rgL ls B y (k + 1) = rgL ls B y k ++ [B (bk ls B k y)] := by
  unfold rgL
  rw [List.range_succ, List.map_append]
  rfl
theorem rgL_length (B : Int -> Leg) (y : Int) (k : Nat) : (rgL ls B y k).length = k := by simp [rgL]
theorem rgL_walk (B : Int -> Leg) (y : Int) : ∀ (k : Nat), (∀ i, i < k -> gOf ls (B (bk ls B i y)) = bk ls B i y) -> ∀ s : Int, rsW ls (bk ls B k y) s (rgL ls B y k).reverse = some (y, s + bs ls B k y)
  | 0, _, s => by
    show some (y, s) = some (y, s + 0)
    rw [Int.add_zero]
  | k + 1, hg, s => by
    have e : (rgL ls B y (k + 1)).reverse = B (bk ls B k y) :: (rgL ls B y k).reverse := by rw [rgL_succ]; simp
    rw [e, rsW_cons, if_pos (bk_succ B k y).symm, hg k (by omega), rgL_walk B y k (fun i hi => hg i (by omega)), bs_add (ls := ls) B k 1 y]
    show some (y, _) = some (y, s + (bs ls B k y + (rOf ls (B (bk ls B k y)) + 0)))
    have : s + rOf ls (B (bk ls B k y)) + bs ls B k y = s + (bs ls B k y + (rOf ls (B (bk ls B k y)) + 0)) := by omega
    rw [this]
/-- What lies behind N + 1 rounds of which the last still let a mark sink. -/
theorem Rk.ringed {r N : Nat} {K : Int} {R : Int -> Int} {B : Int -> Leg} {H : Int -> Prop} {q : Int -> Nat} {at_ : Int} (e : (N : Int) = n) (h : Rk ls n f r N K R B H q at_) (ha : at_ ≠ -1) (hr : N + 1 <= r) :
    (∀ m, 0 < q (bk ls B m at_)) /\ ∃ k, 0 < k /\ k <= N /\ bk ls B k (bk ls B N at_) = bk ls B N at_ /\ (∀ i, 0 < i -> i < k -> bk ls B i (bk ls B N at_) ≠ bk ls B N at_) /\ bs ls B k (bk ls B N at_) < 0 := by
  have hq : ∀ i, i <= N -> 0 < q (bk ls B i at_) := fun i hi => by
    have := h.back ha hr i hi
    omega
  obtain ⟨i, j, hij, hj, hx⟩ := pigeon N (fun i => bk ls B i at_) fun i hi => by
    have := h.dom _ (h.qd _ (hq i hi))
    omega
  have hx : bk ls B i at_ = bk ls B j at_ := hx
  have all : ∀ m, ∃ m', m' <= N /\ bk ls B m at_ = bk ls B m' at_ := by
    intro m
    induction m using Nat.strongRecOn with
    | _ m ih =>
      by_cases hm : m <= N
      · exact ⟨m, hm, rfl⟩
      · obtain ⟨d, rfl⟩ : ∃ d, m = j + d := ⟨m - j, by omega⟩
        obtain ⟨m', h1, h2⟩ := ih (i + d) (by omega)
        refine ⟨m', h1, ?_⟩
        rw [← h2, bk_add, bk_add, hx]
  have pos : ∀ m, 0 < q (bk ls B m at_) := fun m => by
    obtain ⟨m', h1, h2⟩ := all m
    rw [h2]
    exact hq m' h1
  have ring : bk ls B (j - i) (bk ls B N at_) = bk ls B N at_ := by
    rw [← bk_add, show N + (j - i) = j + (N - i) by omega, bk_add, ← hx, ← bk_add, show i + (N - i) = N by omega]
  obtain ⟨k, ⟨k0, k1⟩, k2⟩ := least_nat (p := fun k => 0 < k /\ bk ls B k (bk ls B N at_) = bk ls B N at_) ⟨j - i, by omega, ring⟩
  refine ⟨pos, k, k0, ?_, k1, fun x hx0 hxk hxe => ?_, ?_⟩
  · have := k2 (j - i) ⟨by omega, ring⟩
    omega
  · have := k2 x ⟨hx0, hxe⟩
    omega
  · refine h.sk.ring k _ k0 (fun x _ => ?_) k1
    rw [← bk_add]
    exact pos _
/-- The marks of a ring are distinct. -/
theorem ring_nodup {B : Int -> Leg} {y : Int} {k : Nat} (h1 : bk ls B k y = y) (h2 : ∀ i, 0 < i -> i < k -> bk ls B i y ≠ y) : ∀ i j, i < j -> j < k -> bk ls B i y ≠ bk ls B j y := by
  intro i j hij hj e
  have : bk ls B (k - j + i) y = y := by
    rw [Nat.add_comm, bk_add, e, ← bk_add, show j + (k - j) = k by omega, h1]
  exact h2 (k - j + i) (by omega) (by omega) this
end Go.Nm
namespace Go.Proofs.Ytclhljenjphofaa
open Go Go.Nm
theorem reverse_ends {l : List Leg} (hl : l.length <= 1000000) : (m_slices_Reverse_level_Leg l).Ends l.reverse := by
  have out : (m_slices_Reverse_level_Leg l).Out (fun r => r = l.reverse) := by
    unfold m_slices_Reverse_level_Leg
    refine M.o_bind (P := fun y => y = l.reverse) ?_ (fun y hy => M.o_pure hy)
    refine M.o_for (l.length / 2) (fun i st => st.2.1 = i /\ st.2.2 = (l.length : Int) - 1 - i /\ st.1.length = l.length /\ ∀ x, x < l.length -> st.1.getD x default = if x < i ∨ l.length - 1 - x < i then l.getD (l.length - 1 - x) default else l.getD x default) ?_ ?_ (s := (l, 0, (l.length : Int) - 1)) ⟨rfl, by simp, rfl, fun x hx => by rw [if_neg (by omega)]⟩
    · rintro i ⟨a, s, j⟩ hi ⟨e1, e2, e3, e4⟩
      dsimp only at e1 e2 e3 e4
      subst e1
      have ej : j.toNat = l.length - 1 - s := by omega
      simp only [m_slices_Reverse_level_Leg_b0]
      refine M.o_t (decide_eq_true (by omega)) (M.o_grd (gA2 (by omega) (by omega)) (M.o_grd (decide_eq_true (by omega)) (M.o_grd (gA2 (by omega) (by rw [List.length_set]; omega)) (M.o_grd (gA2 (by omega) (by omega)) (M.o_grd (gA2 (by omega) (by omega)) (M.o_pure ⟨rfl, by dsimp only; omega, by dsimp only; rw [List.length_set, List.length_set]; exact e3, fun x hx => ?_⟩))))))
      dsimp only
      have g1 : a.getD (l.length - 1 - s) default = l.getD (l.length - 1 - s) default := by rw [e4 _ (by omega), if_neg (by omega)]
      have g2 : a.getD s default = l.getD s default := by rw [e4 _ (by omega), if_neg (by omega)]
      rw [ej, g1, g2, gset _ _ _ _ _ (by rw [List.length_set]; omega), gset _ _ _ _ _ (by omega), e4 _ hx]
      by_cases c1 : x = l.length - 1 - s
      · rw [if_pos c1, if_pos (by omega), c1, show l.length - 1 - (l.length - 1 - s) = s by omega]
      · rw [if_neg c1]
        by_cases c2 : x = s
        · rw [if_pos c2, if_pos (by omega), c2]
        · rw [if_neg c2]
          by_cases c3 : x < s ∨ l.length - 1 - x < s
          · rw [if_pos c3, if_pos (by omega)]
          · rw [if_neg c3, if_neg (by omega)]
    · rintro ⟨a, s, j⟩ ⟨e1, e2, e3, e4⟩
      dsimp only at e1 e2 e3 e4
      simp only [m_slices_Reverse_level_Leg_b0]
      refine M.o_f (decide_eq_false (by omega)) (M.o_pure ?_)
      show a = l.reverse
      refine List.ext_getElem (by simp [e3]) fun x h1 h2 => ?_
      have hx : x < l.length := by omega
      have := e4 x hx
      rw [getD_el a h1] at this
      rw [this, List.getElem_reverse, ← getD_el l (by omega) default]
      by_cases c : x < l.length / 2 ∨ l.length - 1 - x < l.length / 2
      · rw [if_pos c]
      · rw [if_neg c, show l.length - 1 - x = x by omega]
  obtain ⟨r, h, rfl⟩ := out
  exact h
end Go.Proofs.Ytclhljenjphofaa
namespace Go.Nm
/-- Functions of marks that say what three rows hold. -/
structure Ag (R : Int -> Int) (B : Int -> Leg) (H : Int -> Prop) (a : List Int) (b : List Leg) (d : List Bool) : Prop where
  la : a.length = 13
  lb : b.length = 13
  ld : d.length = 13
  ra : ∀ v : Nat, v < 13 -> a.getD v 0 = R v
  rb : ∀ v : Nat, v < 13 -> b.getD v default = B v
  rd : ∀ v : Nat, v < 13 -> (d.getD v false = true ↔ H v)
theorem Ag.up {R : Int -> Int} {B : Int -> Leg} {H : Int -> Prop} {a : List Int} {b : List Leg} {d : List Bool} (h : Ag R B H a b d) {v x : Int} {g : Leg} (h0 : 0 <= v) (h1 : v < 13) : Ag (upF R v x) (upF B v g) (fun w => H w ∨ w = v) (a.set v.toNat x) (b.set v.toNat g) (d.set v.toNat true) := by
  have hl : v.toNat < 13 := by omega
  refine ⟨by rw [List.length_set]; exact h.la, by rw [List.length_set]; exact h.lb, by rw [List.length_set]; exact h.ld, fun w hw => ?_, fun w hw => ?_, fun w hw => ?_⟩
  · rw [gset _ _ _ _ _ (by rw [h.la]; exact hl)]
    by_cases e : w = v.toNat
    · rw [if_pos e, show (w : Int) = v by omega, upF_at]
    · rw [if_neg e, upF_no _ _ (by omega)]; exact h.ra w hw
  · rw [gset _ _ _ _ _ (by rw [h.lb]; exact hl)]
    by_cases e : w = v.toNat
    · rw [if_pos e, show (w : Int) = v by omega, upF_at]
    · rw [if_neg e, upF_no _ _ (by omega)]; exact h.rb w hw
  · rw [gset _ _ _ _ _ (by rw [h.ld]; exact hl)]
    by_cases e : w = v.toNat
    · rw [if_pos e]; exact ⟨fun _ => .inr (by omega), fun _ => rfl⟩
    · rw [if_neg e]
      exact ⟨fun hh => .inl ((h.rd w hw).1 hh), fun hh => hh.elim (h.rd w hw).2 (fun hh => absurd hh (by omega))⟩
theorem leg_ne {ls : List Line} {n : Int} (hN : NetOk n ls) {g : Leg} (hg : LegOk ls g) : sOf ls g ≠ gOf ls g := fun e => by
  have h1 := hN.ne _ hg.mem
  unfold sOf gOf legEnd at e
  cases hb : g.back <;> rw [hb] at e <;> simp at e <;> omega
end Go.Nm
namespace Go.Proofs.Ytclhljenjphofaa
open Go Go.Nm
variable {ls : List Line} {n f : Int}
theorem sink_step (hN : NetOk n ls) {r c : Nat} {K : Int} {R : Int -> Int} {B : Int -> Leg} {H : Int -> Prop} {q : Int -> Nat} {at_ : Int} {a : List Int} {b : List Leg} {d : List Bool} (hr : 1 <= r) (hc : (c : Int) < n) (hK : K <= 1000000000000000) (h : Rk ls n f r c K R B H q at_) (hA : Ag R B H a b d) (hH : H c) {g : Leg} (hg : LegOk ls g) (hs : sOf ls g = c) :
    (m_level_survey_sinking_b4 n ls c (at_, a, b, d) g).Out (fun y => match y with
      | .inl (at', a', b', d') => ∃ R' B' H' q', Rk ls n f r c (K + 1010000) R' B' H' q' at' /\ Ag R' B' H' a' b' d' /\ H' c /\ Fin ls R' H' g /\ ∀ g', sOf ls g' = c -> Fin ls R H g' -> Fin ls R' H' g'
      | .inr _ => False) := by
  have hm := hN.marks
  have hrg := (hg.ed.rng hN.rng).2
  have hb := hN.ed _ _ _ hg.ed
  have hl := h.lo c
  have hne := leg_ne hN hg
  have e1 : R (gOf ls g) = a.getD (gOf ls g).toNat 0 := by rw [hA.ra _ (by omega), Int.toNat_of_nonneg hrg.1]
  have e2 : d.getD (gOf ls g).toNat false = true ↔ H (gOf ls g) := by
    have := hA.rd (gOf ls g).toNat (by omega)
    rwa [Int.toNat_of_nonneg hrg.1] at this
  simp only [m_level_survey_sinking_b4]
  rw [hA.ra c (by omega)]
  refine M.o_bindE (goal_ends hg) (M.o_bindE (rise_ends hN hg) (M.o_grd (gA2 (by omega) (by omega)) (M.o_grd (gA2 (by omega) (by omega)) (M.o_if (fun hb => ?_) (fun hb => ?_)))))
  · have hlt : ¬ H (gOf ls g) ∨ R (sOf ls g) + rOf ls g < R (gOf ls g) := by
      rw [hs]
      by_cases hh : H (gOf ls g)
      · have := e2.2 hh
        rw [this] at hb
        right
        rw [e1]
        simpa using hb
      · exact .inl hh
    have hu := h.sink hN hg hr (by rw [hs]; exact hH) hlt
    have ha := hA.up (x := R (sOf ls g) + rOf ls g) (g := g) hrg.1 (show gOf ls g < 13 by omega)
    rw [hs] at ha hu
    refine M.o_pure ⟨_, _, _, _, hu, ha, .inl hH, ⟨.inr rfl, ?_⟩, fun g' hg' hf => ?_⟩
    · rw [upF_at, upF_no _ _ hne, hs]
      exact Int.le_refl _
    · have := hf.up hlt (by rw [hg', ← hs]; exact hne)
      rwa [hs] at this
  · rw [Bool.or_eq_false_iff] at hb
    have hh : d.getD (gOf ls g).toNat false = true := by simpa using hb.1
    refine M.o_pure ⟨R, B, H, q, h.keep (by omega), hA, hH, ⟨e2.1 hh, ?_⟩, fun _ _ hf => hf⟩
    have := of_decide_eq_false hb.2
    rw [hs, e1]
    omega
end Go.Proofs.Ytclhljenjphofaa
namespace Go.Proofs.Ytclhljenjphofaa
open Go Go.Nm
variable {ls : List Line} {n f : Int}
theorem sink_mark (hN : NetOk n ls) {r c : Nat} {K : Int} {R : Int -> Int} {B : Int -> Leg} {H : Int -> Prop} {q : Int -> Nat} {at_ : Int} {a : List Int} {b : List Leg} {d : List Bool} (hr : 1 <= r) (hc : (c : Int) < n) (hK : K <= 900000000000000) (h : Rk ls n f r c K R B H q at_) (hA : Ag R B H a b d) (hH : H c) :
    (m_level_survey_legs_1 (M.yl (m_level_survey_sinking_b4 n ls c)) (.inl (at_, a, b, d)) n ls c).Out (fun y => match y with
      | .inl (at', a', b', d') => ∃ R' B' H' q', Rk ls n f r (c + 1) (K + 60600000) R' B' H' q' at' /\ Ag R' B' H' a' b' d'
      | .inr _ => False) := by
  have hf := hN.few
  refine M.o_mono (legs_out (ls := ls) (n := n) (m := (c : Int)) (fun k s => ∃ R B H q, Rk ls n f r c (K + k * 1010000) R B H q s.1 /\ Ag R B H s.2.1 s.2.2.1 s.2.2.2 /\ H c /\ ∀ (i : Nat) (k' : Bool), i < ls.length -> 2 * i + k'.toNat < k -> sOf ls ⟨i, k'⟩ = c -> Fin ls R H ⟨i, k'⟩) (fun _ => False) ?_ ?_ (s := (at_, a, b, d)) ⟨R, B, H, q, h.keep (by omega), hA, hH, fun i k' _ h => by omega⟩) ?_
  · rintro i k ⟨at_, a, b, d⟩ hi hs ⟨R, B, H, q, h, hA, hH, hF⟩
    dsimp only at h hA
    have hb2 : k.toNat <= 1 := by cases k <;> decide
    refine M.o_mono (sink_step hN hr hc (by omega) h hA hH (g := ⟨i, k⟩) (ij hi) hs) ?_
    rintro (⟨at', a', b', d'⟩ | x) hy
    · obtain ⟨R', B', H', q', h1, h2, h3, h4, h5⟩ := hy
      refine ⟨R', B', H', q', h1.keep (by omega), h2, h3, fun i' k' hi' hk' hs' => ?_⟩
      by_cases e : 2 * i' + k'.toNat < 2 * i + k.toNat
      · exact h5 _ hs' (hF i' k' hi' e hs')
      · have hb3 : k'.toNat <= 1 := by cases k' <;> decide
        have e1 : i' = i := by omega
        subst e1
        have e2 : k' = k := by
          have : k'.toNat = k.toNat := by omega
          cases k <;> cases k' <;> simp at this <;> rfl
        rw [e2]
        exact h4
    · exact hy
  · rintro i k ⟨at_, a, b, d⟩ hi hs ⟨R, B, H, q, h, hA, hH, hF⟩
    dsimp only at h hA
    refine ⟨R, B, H, q, h.keep (by omega), hA, hH, fun i' k' hi' hk' hs' => ?_⟩
    by_cases e : 2 * i' + k'.toNat < 2 * i + k.toNat
    · exact hF i' k' hi' e hs'
    · have hb2 : k.toNat <= 1 := by cases k <;> decide
      have hb3 : k'.toNat <= 1 := by cases k' <;> decide
      have e1 : i' = i := by omega
      subst e1
      have e2 : k' = k := by
        have : k'.toNat = k.toNat := by omega
        cases k <;> cases k' <;> simp at this <;> rfl
      rw [e2] at hs'
      exact absurd hs' hs
  · rintro (⟨at', a', b', d'⟩ | x) hy
    · obtain ⟨R', B', H', q', h1, h2, h3, h4⟩ := hy
      refine ⟨R', B', H', q', (h1.mark fun _ g hg hs => ?_).keep (by omega), h2⟩
      obtain ⟨i, k⟩ := g
      obtain ⟨g0, g1⟩ := hg
      dsimp only at g0 g1
      obtain ⟨j, rfl⟩ : ∃ j : Nat, i = (j : Int) := ⟨i.toNat, by omega⟩
      have hb2 : k.toNat <= 1 := by cases k <;> decide
      exact h4 j k (by omega) (by omega) hs
    · exact hy
theorem sink_marks (hN : NetOk n ls) {r N : Nat} (e : (N : Int) = n) {K : Int} {R : Int -> Int} {B : Int -> Leg} {H : Int -> Prop} {q : Int -> Nat} {a : List Int} {b : List Leg} {d : List Bool} (hr : 1 <= r) (hK : K <= 800000000000000) (h : Rk ls n f r 0 K R B H q (-1)) (hA : Ag R B H a b d) :
    (M.iter (m_level_survey_sinking_b5 n ls) (0, a, b, d, -1)).Out (fun y => ∃ R' B' H' q', Rk ls n f r N (K + 727200000) R' B' H' q' y.2.2.2 /\ Ag R' B' H' y.1 y.2.1 y.2.2.1) := by
  have hm := hN.marks
  refine M.o_for N (fun c s => s.1 = c /\ ∃ R B H q, Rk ls n f r c (K + c * 60600000) R B H q s.2.2.2.2 /\ Ag R B H s.2.1 s.2.2.1 s.2.2.2.1) ?_ ?_ (s := (0, a, b, d, -1)) ⟨rfl, R, B, H, q, h.keep (by omega), hA⟩
  · rintro c ⟨s, a, b, d, at_⟩ hc ⟨e1, R, B, H, q, h, hA⟩
    dsimp only at e1 h hA
    subst e1
    simp only [m_level_survey_sinking_b5]
    have hd := hA.rd s (by omega)
    refine M.o_t (decide_eq_true (by omega)) (M.o_grd (gA2 (by omega) (by omega)) (M.o_if (fun hb => ?_) (fun hb => ?_)))
    · refine M.o_grd (gA2 (by omega) (by omega)) (M.o_pure ⟨rfl, R, B, H, q, (h.mark fun hh => ?_).keep (by omega), hA⟩)
      rw [hd.2 hh] at hb
      cases hb
    · have hh : H s := hd.1 (by simpa using hb)
      refine M.o_bindE (a := (s : Int)) (by unfold m_level_survey_legs; exact M.i_pure) (M.o_bind (sink_mark hN hr (by omega) (by omega) h hA hh) ?_)
      rintro (⟨at', a', b', d'⟩ | x) hy
      · obtain ⟨R', B', H', q', h1, h2⟩ := hy
        exact M.o_grd (gA2 (by omega) (by omega)) (M.o_pure ⟨rfl, R', B', H', q', h1.keep (by omega), h2⟩)
      · exact hy.elim
  · rintro ⟨s, a, b, d, at_⟩ ⟨e1, R, B, H, q, h, hA⟩
    dsimp only at e1 h hA
    subst e1
    simp only [m_level_survey_sinking_b5]
    exact M.o_f (decide_eq_false (by omega)) (M.o_pure ⟨R, B, H, q, h.keep (by omega), hA⟩)
theorem sink_rounds (hN : NetOk n ls) {N : Nat} (e : (N : Int) = n) {B : Int -> Leg} {a : List Int} {b : List Leg} {d : List Bool} (hf : 0 <= f /\ f < n) (hA : Ag (fun _ => 0) B (fun v => v = f) a b d) :
    (M.iter (m_level_survey_sinking_b6 n ls) (a, b, d, -1, 0)).Out (fun y => ∃ K R' B' H' q', Rk ls n f (N + 1) N K R' B' H' q' y.2.2.2 /\ Ag R' B' H' y.1 y.2.1 y.2.2.1) := by
  have hm := hN.marks
  refine M.o_for (N + 1) (fun p s => s.2.2.2.2 = p /\ ∃ R B H q, Ag R B H s.1 s.2.1 s.2.2.1 /\ Rk ls n f (p + 1) 0 (p * 727200000) R B H q (-1) /\ (0 < p -> Rk ls n f p N (p * 727200000) R B H q s.2.2.2.1)) ?_ ?_ (s := (a, b, d, -1, 0)) ⟨rfl, fun _ => 0, B, fun v => v = f, fun _ => 0, hA, (Rk.start hf B).keep (by omega), fun h => by omega⟩
  · rintro p ⟨a, b, d, at_, s⟩ hp ⟨e1, R, B, H, q, hA, h, _⟩
    dsimp only at e1 h hA
    subst e1
    simp only [m_level_survey_sinking_b6]
    refine M.o_t (decide_eq_true (by omega)) (M.o_bind (sink_marks hN e (by omega) (by omega) h hA) ?_)
    rintro ⟨a', b', d', at'⟩ ⟨R', B', H', q', h1, h2⟩
    dsimp only at h1 h2
    have h3 := h1.keep (K' := ((s + 1 : Nat) : Int) * 727200000) (by omega)
    exact M.o_grd (gA2 (by omega) (by omega)) (M.o_pure ⟨rfl, R', B', H', q', h2, h3.round e, fun _ => h3⟩)
  · rintro ⟨a, b, d, at_, s⟩ ⟨e1, R, B, H, q, hA, _, h⟩
    dsimp only at e1 h hA
    subst e1
    simp only [m_level_survey_sinking_b6]
    exact M.o_f (decide_eq_false (by omega)) (M.o_pure ⟨_, R, B, H, q, h (by omega), hA⟩)
end Go.Proofs.Ytclhljenjphofaa
namespace Go.Nm
/-- A closed walk that proves that the lines disagree. -/
structure LpOk (ls : List Line) (l : List Leg) : Prop where
  pos : 0 < l.length
  few : l.length <= 12
  ok : ∀ i : Nat, i < l.length -> LegOk ls (l.getD i default)
  once : (metL ls l false).Nodup
  ring : ∃ d, d < 0 /\ rsW ls (sOf ls (l.getD 0 default)) 0 l = some (sOf ls (l.getD 0 default), d)
theorem lp_of {ls : List Line} {B : Int -> Leg} {y : Int} {k : Nat} (k0 : 0 < k) (k12 : k <= 12) (hl : ∀ i, LegOk ls (B (bk ls B i y)) /\ gOf ls (B (bk ls B i y)) = bk ls B i y) (h1 : bk ls B k y = y) (h2 : ∀ i, 0 < i -> i < k -> bk ls B i y ≠ y) (h3 : bs ls B k y < 0) : LpOk ls (rgL ls B y k).reverse := by
  have len : (rgL ls B y k).reverse.length = k := by rw [List.length_reverse, rgL_length]
  refine ⟨by omega, by omega, fun i hi => ?_, ?_, ?_⟩
  · have hm : (rgL ls B y k).reverse.getD i default ∈ (rgL ls B y k).reverse := by
      rw [getD_el _ hi]
      exact List.getElem_mem hi
    obtain ⟨x, _, e⟩ := List.mem_map.1 (List.mem_reverse.1 hm)
    rw [← e]
    exact (hl x).1
  · unfold metL
    rw [if_neg (fun h => by cases h.1), List.append_nil, List.map_reverse]
    unfold rgL
    rw [List.map_map]
    refine List.pairwise_reverse.mpr (List.pairwise_iff_getElem.mpr fun i j hi hj hij => Ne.symm ?_)
    simp only [List.length_map, List.length_range] at hi hj
    simp only [List.getElem_map, List.getElem_range, Function.comp]
    rw [← bk_succ, ← bk_succ]
    by_cases c : j + 1 = k
    · rw [c, h1]
      exact h2 (i + 1) (by omega) (by omega)
    · exact ring_nodup h1 h2 (i + 1) (j + 1) (by omega) (by omega)
  · have hw := rgL_walk (ls := ls) B y k (fun i _ => (hl i).2) 0
    obtain ⟨k', rfl⟩ : ∃ k', k = k' + 1 := ⟨k - 1, by omega⟩
    have e : (rgL ls B y (k' + 1)).reverse = B (bk ls B k' y) :: (rgL ls B y k').reverse := by rw [rgL_succ]; simp
    have e2 : sOf ls ((rgL ls B y (k' + 1)).reverse.getD 0 default) = y := by
      rw [e]
      show sOf ls (B (bk ls B k' y)) = y
      rw [← bk_succ, h1]
    rw [h1] at hw
    exact ⟨_, h3, by rw [e2, hw, Int.zero_add]⟩
end Go.Nm
namespace Go.Proofs.Ytclhljenjphofaa
open Go Go.Nm
variable {ls : List Line} {n f : Int}
theorem sinking_all (hN : NetOk n ls) (hf : 0 <= f /\ f < n) : (m_level_survey_sinking n ls f).Out (fun y => (y = [] /\ ∃ (R : Int -> Int) (H : Int -> Prop), H f /\ ∀ g, LegOk ls g -> H (sOf ls g) -> Fin ls R H g) ∨ LpOk ls y) := by
  have hm := hN.marks
  obtain ⟨N, e⟩ : ∃ N : Nat, (N : Int) = n := ⟨n.toNat, by omega⟩
  have hA : Ag (fun _ => 0) (fun _ => default) (fun v => v = f) (List.replicate 13 0) (List.replicate 13 default) ((List.replicate 13 false).set f.toNat true) := by
    refine ⟨by simp, by simp, by simp, fun v hv => ?_, fun v hv => ?_, fun v hv => ?_⟩
    · rw [getD_el _ (by simpa using hv), List.getElem_replicate]
    · rw [getD_el _ (by simpa using hv), List.getElem_replicate]
    · rw [gset _ _ _ _ _ (by simp; omega)]
      by_cases c : v = f.toNat
      · rw [if_pos c]; exact ⟨fun _ => by omega, fun _ => rfl⟩
      · rw [if_neg c, getD_el _ (by simpa using hv), List.getElem_replicate]; exact ⟨fun h => (by cases h), fun h => by omega⟩
  unfold m_level_survey_sinking
  refine M.o_grd (gA2 (by omega) (by omega)) (M.o_grd (gA2 (by omega) (by omega)) (M.o_bind (sink_rounds hN e hf hA) ?_))
  rintro ⟨a, b, d, at_⟩ ⟨K, R, B, H, q, h, hA⟩
  dsimp only at h hA ⊢
  by_cases c : at_ = -1
  · subst c
    exact M.o_t rfl (M.o_pure (.inl ⟨rfl, R, H, h.sk.root, h.still e⟩))
  · obtain ⟨pos, k, k0, kN, k1, k2, k3⟩ := h.ringed e c (Nat.le_refl _)
    have leg : ∀ i, LegOk ls (B (bk ls B i at_)) /\ gOf ls (B (bk ls B i at_)) = bk ls B i at_ := fun i => by
      have := h.sk.leg _ (pos i)
      exact ⟨this.2.1, this.2.2.1⟩
    have rng : ∀ i, 0 <= bk ls B i at_ /\ bk ls B i at_ < n := fun i => h.dom _ (h.qd _ (pos i))
    have row : ∀ i, b.getD (bk ls B i at_).toNat default = B (bk ls B i at_) := fun i => by
      have h1 := rng i
      rw [hA.rb _ (by omega), Int.toNat_of_nonneg h1.1]
    have sh : ∀ i, bk ls B i (bk ls B N at_) = bk ls B (N + i) at_ := fun i => (bk_add B N i at_).symm
    refine M.o_f (beq_eq_false_iff_ne.2 c) (M.o_bind (P := fun z => z = bk ls B N at_) ?_ ?_)
    · refine M.o_for N (fun i s => s.1 = bk ls B i at_ /\ s.2 = i) ?_ ?_ (s := (at_, 0)) ⟨rfl, rfl⟩
      · rintro i ⟨x, s⟩ hi ⟨e1, e2⟩
        dsimp only at e1 e2
        subst e2
        subst e1
        have h1 := rng s
        simp only [m_level_survey_sinking_b7]
        rw [row]
        exact M.o_t (decide_eq_true (by omega)) (M.o_grd (gA2 (by omega) (by omega)) (M.o_bindE (start_ends (leg s).1) (M.o_grd (gA2 (by omega) (by omega)) (M.o_pure ⟨(bk_succ B s at_).symm, rfl⟩))))
      · rintro ⟨x, s⟩ ⟨e1, e2⟩
        dsimp only at e1 e2
        subst e2
        simp only [m_level_survey_sinking_b7]
        exact M.o_f (decide_eq_false (by omega)) (M.o_pure e1)
    · rintro _ rfl
      refine M.o_bind (P := fun z => z.2 = rgL ls B (bk ls B N at_) k) ?_ ?_
      · refine M.o_for k (fun i s => s.1 = bk ls B i (bk ls B N at_) /\ s.2 = rgL ls B (bk ls B N at_) i) ?_ ?_ (s := (bk ls B N at_, [])) ⟨rfl, rfl⟩
        · rintro i ⟨x, l⟩ hi ⟨e1, e2⟩
          dsimp only at e1 e2
          subst e1
          subst e2
          have h1 := rng (N + i)
          simp only [m_level_survey_sinking_b8]
          rw [rgL_length]
          have hc : (((i : Int) == 0) || (bk ls B i (bk ls B N at_) != bk ls B N at_)) = true := by
            by_cases z : i = 0
            · rw [z]; rfl
            · rw [show (bk ls B i (bk ls B N at_) != bk ls B N at_) = true from bne_iff_ne.2 (k2 i (by omega) hi), Bool.or_true]
          have hrow : b.getD (bk ls B i (bk ls B N at_)).toNat default = B (bk ls B i (bk ls B N at_)) := by rw [sh]; exact row _
          have hleg : LegOk ls (B (bk ls B i (bk ls B N at_))) := by rw [sh]; exact (leg _).1
          rw [hrow]
          refine M.o_t hc (M.o_grd (gA2 (by rw [sh]; omega) (by rw [sh]; omega)) (M.o_grd (decide_eq_true (by simp only [List.length_cons, List.length_nil]; omega)) (M.o_bindE (start_ends hleg) (M.o_pure ⟨(bk_succ B i _).symm, (rgL_succ B _ i).symm⟩))))
        · rintro ⟨x, l⟩ ⟨e1, e2⟩
          dsimp only at e1 e2
          subst e1
          subst e2
          simp only [m_level_survey_sinking_b8]
          rw [rgL_length, k1]
          have hc : (((k : Int) == 0) || (bk ls B N at_ != bk ls B N at_)) = false := by
            rw [show ((k : Int) == 0) = false from beq_eq_false_iff_ne.2 (by omega), bne_self_eq_false]
            rfl
          exact M.o_f hc (M.o_pure rfl)
      · rintro ⟨l8, l9⟩ hl
        dsimp only at hl ⊢
        subst hl
        have hlp := lp_of k0 (show k <= 12 by omega) (fun i => by rw [sh]; exact leg _) k1 k2 k3
        exact M.o_bindE (reverse_ends (by rw [rgL_length]; omega)) (M.o_grd (decide_eq_true hlp.pos) (M.o_pure (.inr hlp)))
end Go.Proofs.Ytclhljenjphofaa
namespace Go.Nm
variable {ls : List Line} {n : Int}
theorem ed_leg {a b c : Int} (e : Ed ls a b c) : ∃ g, LegOk ls g /\ sOf ls g = a /\ gOf ls g = b /\ rOf ls g = c := by
  obtain ⟨l, hl, h⟩ := e
  obtain ⟨i, hi, rfl⟩ := mem_getD hl default
  rcases h with ⟨h1, h2, h3⟩ | ⟨h1, h2, h3⟩
  · exact ⟨⟨i, false⟩, ⟨by show (0 : Int) <= (i : Int); omega, by show (i : Int) < _; omega⟩, h1, h2, h3.symm⟩
  · exact ⟨⟨i, true⟩, ⟨by show (0 : Int) <= (i : Int); omega, by show (i : Int) < _; omega⟩, h1, h2, h3.symm⟩
theorem agr_of_parts (hR : Rng n ls) (hh : ∀ f : Nat, (f : Int) < n -> ∃ (R : Int -> Int) (H : Int -> Prop), H f /\ ∀ g, LegOk ls g -> H (sOf ls g) -> Fin ls R H g) : Agr ls := by
  have h1 : ∀ f : Nat, ∃ p : (Int -> Int) × (Int -> Prop), (f : Int) < n -> p.2 f /\ ∀ g, LegOk ls g -> p.2 (sOf ls g) -> Fin ls p.1 p.2 g := fun f => by
    by_cases c : (f : Int) < n
    · obtain ⟨R, H, h⟩ := hh f c
      exact ⟨(R, H), fun _ => h⟩
    · exact ⟨(fun _ => 0, fun _ => False), fun h => absurd h c⟩
  obtain ⟨P, hP⟩ := Classical.axiomOfChoice h1
  have h2 : ∀ v : Int, ∃ f : Nat, (0 <= v /\ v < n) -> ((f : Int) < n /\ (P f).2 v) /\ ∀ u : Nat, ((u : Int) < n /\ (P u).2 v) -> f <= u := fun v => by
    by_cases c : 0 <= v /\ v < n
    · obtain ⟨f, a1, a2⟩ := least_nat (p := fun u : Nat => (u : Int) < n /\ (P u).2 v) ⟨v.toNat, by omega, by
        have := (hP v.toNat (by omega)).1
        rwa [Int.toNat_of_nonneg c.1] at this⟩
      exact ⟨f, fun _ => ⟨a1, a2⟩⟩
    · exact ⟨0, fun h => absurd h c⟩
  obtain ⟨F, hF⟩ := Classical.axiomOfChoice h2
  -- an edge does not lead to a part that is met later
  have go : ∀ a b c, Ed ls a b c -> F b <= F a /\ (P (F a)).1 b <= (P (F a)).1 a + c := fun a b c e => by
    have hr := e.rng hR
    obtain ⟨g, g1, g2, g3, g4⟩ := ed_leg e
    have ha := (hF a hr.1).1
    have fin := (hP (F a) ha.1).2 g g1 (by rw [g2]; exact ha.2)
    unfold Fin at fin
    rw [g2, g3, g4] at fin
    exact ⟨(hF b hr.2).2 _ ⟨ha.1, fin.1⟩, fin.2⟩
  refine ⟨fun v => (P (F v)).1 v, feas_of fun a b c e => ?_⟩
  obtain ⟨c', e'⟩ := e.rev
  have k1 := go a b c e
  have k2 := go b a c' e'
  have k3 : F b = F a := by omega
  show (P (F b)).1 b - (P (F a)).1 a <= c
  rw [k3]
  omega
end Go.Nm
namespace Go.Nm
/-- What is said of Loop. -/
structure LoE (n : Int) (ls : List Line) (l : List Leg) (e : Int) : Prop where
  err : e ≠ 0 -> l = []
  chk : chkE n ls ≠ 0 -> e = chkE n ls
  agr : chkE n ls = 0 -> Agr ls -> e = 5
  no : chkE n ls = 0 -> ¬ Agr ls -> e = 0 /\ LpOk ls l
end Go.Nm
namespace Go.Proofs.Ytclhljenjphofaa
open Go Go.Nm
variable {ls : List Line} {n : Int}
theorem loop_all : (m_level_Loop n ls).Out (fun y => LoE n ls y.1 y.2) := by
  unfold m_level_Loop
  by_cases h : chkE n ls = 0
  · have hN := chk_ok.1 h
    have hm := hN.marks
    refine M.o_bind (opened_out hN) ?_
    rintro y ⟨c, b, rfl, hW⟩
    dsimp only
    refine M.o_f rfl (M.o_bind (open_out hN hW) ?_)
    intro r hr
    cases r with
    | false =>
      have hA : Agr ls := Classical.byContradiction fun h => by have := hr.2 h; cases this
      exact M.o_t rfl (M.o_pure ⟨fun _ => rfl, fun h' => absurd h h', fun _ _ => rfl, fun _ h' => absurd hA h'⟩)
    | true =>
      have hA : ¬ Agr ls := hr.1 rfl
      refine M.o_f rfl (M.o_bind (P := fun y => LpOk ls y.1) ?_ ?_)
      · obtain ⟨N, e⟩ : ∃ N : Nat, (N : Int) = n := ⟨n.toNat, by omega⟩
        refine M.o_for N (fun i s => s.1 = i /\ ∀ f : Nat, f < i -> ∃ (R : Int -> Int) (H : Int -> Prop), H f /\ ∀ g, LegOk ls g -> H (sOf ls g) -> Fin ls R H g) ?_ ?_ (s := (0, [])) ⟨rfl, fun f h => by omega⟩
        · rintro i ⟨s, l⟩ hi ⟨e1, hp⟩
          dsimp only at e1
          subst e1
          simp only [m_level_Loop_b0]
          refine M.o_t (decide_eq_true (by omega)) (M.o_bind (sinking_all hN (f := (s : Int)) ⟨by omega, by omega⟩) ?_)
          rintro r (⟨rfl, hR⟩ | hl)
          · refine M.o_f rfl (M.o_grd (gA2 (by omega) (by omega)) (M.o_pure ⟨rfl, fun f hf => ?_⟩))
            by_cases e2 : f = s
            · rw [e2]; exact hR
            · exact hp f (by omega)
          · have hne : (!r.isEmpty) = true := by
              have := hl.pos
              cases r with
              | nil => simp at this
              | cons x xs => rfl
            exact M.o_t hne (M.o_pure hl)
        · rintro ⟨s, l⟩ ⟨e1, hp⟩
          exact absurd (agr_of_parts hN.rng fun f hf => hp f (by omega)) hA
      · rintro ⟨l2, l3⟩ hl
        exact M.o_pure ⟨fun h => absurd rfl h, fun h' => absurd h h', fun _ h' => absurd h' hA, fun _ _ => ⟨rfl, hl⟩⟩
  · have hc : (chkE n ls != 0) = true := bne_iff_ne.2 h
    unfold m_level_opened
    refine M.o_bind (P := fun y => y = .inl (chkE n ls)) (M.o_bindE (check_ends n ls) (M.o_t hc (M.o_pure rfl))) ?_
    rintro _ rfl
    dsimp only
    exact M.o_t hc (M.o_pure ⟨fun _ => rfl, fun _ => rfl, fun h' => absurd h' h, fun h' => absurd h' h⟩)
end Go.Proofs.Ytclhljenjphofaa
namespace Go.Nm
theorem Wk.upto {ls : List Line} {K a c : Int} (hB : ∀ a b c, Ed ls a b c -> c <= K) {vs : List Int} (w : Wk ls a vs c) : c <= K * ((vs.length : Int) - 1) := by
  induction w with
  | one => simp
  | @snoc m b vs c e w he ih =>
    have := hB _ _ _ he
    have k : K * (((b :: m :: vs).length : Int) - 1) = K * (((m :: vs).length : Int) - 1) + K := by
      rw [show (((b :: m :: vs).length : Int) - 1) = ((((m :: vs).length : Int) - 1) + 1) by simp only [List.length_cons]; omega, Int.mul_add, Int.mul_one]
    omega
/-- A walk in lines that heights agree with. -/
theorem rsW_feas {ls ks : List Line} {h : Int -> Int} (hF : Feas ks h) (hs : ∀ i : Nat, i < ks.length -> ls.getD i default = ks.getD i default) : ∀ (l : List Leg) (x s y r : Int), (∀ g, g ∈ l -> LegOk ks g) -> rsW ls x s l = some (y, r) -> h y - h x <= r - s
  | [], x, s, y, r, _, e => by
    simp only [rsW, Option.some.injEq, Prod.mk.injEq] at e
    obtain ⟨rfl, rfl⟩ := e
    omega
  | g :: l, x, s, y, r, hk, e => by
    rw [rsW_cons] at e
    have hg := hk g (by simp)
    split at e
    · rename_i e1
      have ih := rsW_feas hF hs l _ _ _ _ (fun g hg => hk g (by simp [hg])) e
      have q : lnOf ls g = lnOf ks g := by
        unfold lnOf
        exact hs _ (by have := hg.1; have := hg.2; omega)
      have k := hF.ed hg.ed
      have q1 : sOf ls g = sOf ks g := by unfold sOf; rw [q]
      have q2 : gOf ls g = gOf ks g := by unfold gOf; rw [q]
      have q3 : rOf ls g = rOf ks g := by unfold rOf; rw [q]
      rw [q1] at e1
      rw [q2, q3] at ih
      rw [e1] at k
      omega
    · cases e
theorem mem_cut {α : Type} {l : List α} {i : Nat} {x : α} (h : x ∈ l.take i ++ l.drop (i + 1)) : x ∈ l := by
  rcases List.mem_append.1 h with h | h
  · exact List.mem_of_mem_take h
  · exact List.mem_of_mem_drop h
end Go.Nm
namespace Go.Proofs.Ytclhljenjphofaa
open Go Go.Nm
theorem has_leg {l : List Leg} {f : Leg -> M Bool} {q : Leg -> Bool} (h : ∀ x, x ∈ l -> (f x).Ends (q x)) : (m_slices_ContainsFunc_level_Leg l f).Ends (l.any q) := by
  unfold m_slices_ContainsFunc_level_Leg
  obtain ⟨r, h1, h2⟩ := index_leg h
  refine M.i_bind h1 ?_
  rw [h2]
  exact M.i_pure
theorem rsE_walk {n : Int} {ls : List Line} (h : chkE n ls = 0) {l : List Leg} (h1 : 0 < l.length) (h2 : l.length <= 12) (hk : ∀ i : Nat, i < l.length -> LegOk ls (l.getD i default)) {y d : Int} (hr : rsW ls (sOf ls (l.getD 0 default)) 0 l = some (y, d)) : rsE n ls l = (sOf ls (l.getD 0 default), y, d, 0) := by
  have hall : l.all (legB ls) = true := List.all_eq_true.2 fun g hg => by
    obtain ⟨i, hi, rfl⟩ := mem_getD hg default
    have := hk i hi
    exact gA2 this.1 (by have := this.2; omega)
  unfold rsE
  rw [h, hr, hall]
  have e1 : (!(decide (1 <= (l.length : Int)) && decide ((l.length : Int) <= 60))) = false := by
    rw [decide_eq_true (by omega), decide_eq_true (by omega)]; rfl
  rw [e1]
  rfl
variable {n : Int} {ls : List Line} {hs : List Int}
theorem made_edge (hm : MadeN 9 n ls hs) {ks : List Line} (hk : ∀ l, l ∈ ks -> l ∈ ls) : ∀ a b c, Ed ks a b c -> c <= 708 := by
  rintro a b c ⟨l, hl, h⟩
  have k := hm.ln l (hk l hl)
  have := k.rise hm.hh
  have := k.err
  rcases h with ⟨_, _, rfl⟩ | ⟨_, _, rfl⟩ <;> omega
theorem closes_j0 (hm : MadeN 9 n ls hs) {which wrong : Int} (h1 : 0 <= which /\ which < 256) (h2 : 0 <= wrong /\ wrong < 256) : (m_nilometerlaw01_LevelCloses_j0 which wrong n ls).Out (fun r => r = true) := by
  have l1 := hm.one
  have n2 := hm.two
  have hl0 : (0 : Int) < (ls.length : Int) := by omega
  have a0 := Int.emod_nonneg which (show (ls.length : Int) ≠ 0 by omega)
  have a1 := Int.emod_lt_of_pos which hl0
  unfold m_nilometerlaw01_LevelCloses_j0
  refine M.o_grd (gA2 h1.1 h1.2) (M.o_grd (gA2 h1.1 hl0) (M.o_bindE (copy_net (by omega) n) ?_))
  dsimp only
  generalize which % (ls.length : Int) = w at *
  obtain ⟨i, rfl⟩ := Int.eq_ofNat_of_zero_le a0
  have hi : i < ls.length := by omega
  rw [show Int.toNat ((i : Int) + 1) = i + 1 by omega, Int.toNat_natCast]
  refine M.o_grd (gA2 (by omega) (by omega)) (M.o_grd (gA3 (by omega) (by omega) (by omega)) (M.o_grd (gA2 (by omega) (by omega)) ?_))
  have hx : ls.getD i default ∈ ls := by rw [getD_el ls hi]; exact List.getElem_mem hi
  have kx := hm.ln _ hx
  generalize ls.getD i default = x at *
  have hsub : ∀ l, l ∈ ls.take i ++ ls.drop (i + 1) -> l ∈ ls := fun l h => mem_cut h
  have hlen : (ls.take i ++ ls.drop (i + 1)).length <= 13 := by rw [List.length_append, List.length_take, List.length_drop]; omega
  generalize ls.take i ++ ls.drop (i + 1) = ks at *
  have hln : ∀ l, l ∈ ks -> LnOk n hs l := fun l h => hm.ln l (hsub l h)
  have hF := feas_ln hln
  have oK : NetOk n ks := net_ok (most := 0) (by omega) hm.hh (by omega) hln
  have gK : Agr ks := ⟨_, hF⟩
  refine M.o_bind (between_out oK kx.src kx.dst) ?_
  rintro ⟨r1, d, e⟩ hB
  dsimp only
  by_cases t : Tied ks x.src x.dst
  · obtain ⟨e0, hD, _⟩ := hB.yes gK t
    dsimp only at e0 hD
    subst e0
    obtain ⟨vs, wk⟩ := hD.has
    obtain ⟨vs', c', w', k1, _, k2⟩ := wk.few (n := n.toNat) hF (by rw [Int.toNat_of_nonneg (by omega)]; exact oK.rng) (by rw [Int.toNat_of_nonneg (by omega)]; exact kx.src)
    have d1 := hD.le _ _ w'
    have d2 := w'.upto (made_edge hm hsub)
    have d3 := hD.feas hF
    have b1 := hm.hh.bnd x.src
    have b2 := hm.hh.bnd x.dst
    have dB : -600 <= d /\ d <= 6000 := by
      rw [List.length_cons] at d2
      constructor
      · omega
      · have : ((vs'.length + 1 : Nat) : Int) - 1 <= 8 := by omega
        have : 708 * (((vs'.length + 1 : Nat) : Int) - 1) <= 708 * 8 := Int.mul_le_mul_of_nonneg_left this (by decide)
        omega
    have kr := kx.err
    refine M.o_f rfl (M.o_grd (gA2 (by omega) (by omega)) (M.o_grd (gA2 (by omega) (by omega)) (M.o_grd (gA2 (by omega) (by omega)) (M.o_grd (gA2 (by omega) (by omega)) (M.o_grdD (by simp only [List.length_cons, List.length_nil]; omega) ?_)))))
    have oB : NetOk n (ks ++ [(⟨x.src, x.dst, x.day, d + x.err + 1 + wrong, x.err⟩ : Line)]) := by
      have kd := kx.day
      refine ⟨oK.marks, by rw [List.length_append]; simp only [List.length_cons, List.length_nil]; omega, ?_, ?_, ?_, ?_, ?_⟩
      all_goals
        intro l hl
        rcases List.mem_append.1 hl with hl | hl
      · exact oK.rng l hl
      · obtain rfl := List.mem_singleton.1 hl; exact ⟨kx.src, kx.dst⟩
      · exact oK.ne l hl
      · obtain rfl := List.mem_singleton.1 hl; exact kx.ne
      · exact oK.day l hl
      · obtain rfl := List.mem_singleton.1 hl; dsimp only; omega
      · exact oK.rise l hl
      · obtain rfl := List.mem_singleton.1 hl; dsimp only; omega
      · exact oK.err l hl
      · obtain rfl := List.mem_singleton.1 hl; dsimp only; omega
    have nA : ¬ Agr (ks ++ [(⟨x.src, x.dst, x.day, d + x.err + 1 + wrong, x.err⟩ : Line)]) := by
      rintro ⟨h, hh⟩
      have q1 : Feas ks h := fun l hl => hh l (List.mem_append_left _ hl)
      have q2 := hh _ (List.mem_append_right ks (List.mem_singleton.2 rfl))
      have q3 := hD.feas q1
      dsimp only at q2
      omega
    generalize hbad : ks ++ [(⟨x.src, x.dst, x.day, d + x.err + 1 + wrong, x.err⟩ : Line)] = bad at *
    have hblen : bad.length = ks.length + 1 := by rw [← hbad]; simp
    have hbget : ∀ j : Nat, j < ks.length -> bad.getD j default = ks.getD j default := fun j hj => by
      rw [← hbad, List.getD_eq_getElem?_getD, List.getElem?_append_left hj, ← List.getD_eq_getElem?_getD]
    have hc := chk_ok.2 oB
    refine M.o_bind (agrees_out oB) ?_
    rintro ⟨r8, r12⟩ ⟨e1, e2⟩
    dsimp only at e1 e2 ⊢
    subst e1
    have r8f : r8 = false := by
      cases r8 with
      | false => rfl
      | true => exact absurd (e2.1 rfl) nA
    subst r8f
    refine M.o_bind (loop_all (n := n) (ls := bad)) ?_
    rintro ⟨lp, e3⟩ hL
    obtain ⟨q0, hp⟩ := hL.no hc nA
    dsimp only at q0 hp ⊢
    subst q0
    obtain ⟨dd, hneg, hring⟩ := hp.ring
    have hr := rises_ends n bad lp
    rw [rsE_walk hc hp.pos hp.few hp.ok hring] at hr
    refine M.o_bindE hr ?_
    dsimp only
    refine M.o_f (by simp; omega) ?_
    have hany : lp.any (fun g => g.line == (bad.length : Int) - 1) = true := by
      refine Classical.byContradiction fun hno => ?_
      rw [Bool.not_eq_true, List.any_eq_false] at hno
      have := rsW_feas hF hbget lp _ _ _ _ (fun g hg => by
        obtain ⟨j, hj, rfl⟩ := mem_getD hg default
        have h1 := hp.ok j hj
        have h2 := hno _ hg
        simp only [beq_iff_eq] at h2
        exact ⟨h1.1, by have := h1.2; omega⟩) hring
      omega
    have hb := has_leg (l := lp) (f := fun xqz => m_nilometerlaw01_LevelCloses_1 xqz n bad) (q := fun g => g.line == (bad.length : Int) - 1) (fun g _ => M.i_pure)
    rw [hany] at hb
    refine M.o_bindE hb ?_
    exact M.o_bindE (M.i_opt (fun _ => awake_ends) (fun h => by cases h)) (M.o_pure rfl)
  · have := hB.far gK t
    simp only [Prod.mk.injEq] at this
    obtain ⟨_, _, rfl⟩ := this
    exact M.o_t rfl (M.o_bindE (M.i_opt (fun _ => awake_ends) (fun h => by cases h)) (M.o_pure rfl))
theorem levelCloses_ends (p : List UInt8) (a b c d : UInt8) : (m_nilometerlaw01_LevelCloses p a.toNat b.toNat c.toNat d.toNat).Ends true := by
  have out : (m_nilometerlaw01_LevelCloses p a.toNat b.toNat c.toNat d.toNat).Out (fun r => r = true) := by
    unfold m_nilometerlaw01_LevelCloses
    refine M.o_bindE (new_ends p) (M.o_bind (made_out sok0 (by omega) (by omega) (by omega)) ?_)
    rintro ⟨n, ls, hs, q1, q2⟩ ⟨hm, _⟩
    dsimp only at hm ⊢
    have ua := a.toNat_lt
    have ub := b.toNat_lt
    have uc := c.toNat_lt
    have ud := d.toNat_lt
    generalize a.toNat = a at *
    generalize b.toNat = b at *
    generalize c.toNat = c at *
    generalize d.toNat = d at *
    have n2 := hm.two
    have oN := hm.ok (by omega)
    have hF := feas_ln hm.ln
    have gA : Agr ls := hm.agr
    have hc := chk_ok.2 oN
    refine M.o_bind (agrees_out oN) ?_
    rintro ⟨r0, r13⟩ ⟨e1, e2⟩
    dsimp only at e1 e2 ⊢
    obtain rfl := e2.2 gA
    subst e1
    refine M.o_bind (loop_all (n := n) (ls := ls)) ?_
    rintro ⟨lp, e3⟩ hL
    have := hL.agr hc gA
    dsimp only at this ⊢
    subst this
    have a0 := Int.emod_nonneg a (show n ≠ 0 by omega)
    have a1 := Int.emod_lt_of_pos a (show 0 < n by omega)
    have b0 := Int.emod_nonneg b (show n ≠ 0 by omega)
    have b1 := Int.emod_lt_of_pos b (show 0 < n by omega)
    have j0 := closes_j0 hm (which := c) (wrong := d) (by omega) (by omega)
    refine M.o_f rfl (M.o_grd (gA2 (by omega) (by omega)) (M.o_grd (gA2 (by omega) (by omega)) (M.o_grd (gA2 (by omega) (by omega)) ?_)))
    generalize (a : Int) % n = f at *
    generalize (b : Int) % n = t at *
    refine M.o_bind (between_out oN ⟨a0, a1⟩ ⟨b0, b1⟩) ?_
    rintro ⟨r02, r12, e⟩ hB
    dsimp only
    by_cases ti : Tied ls f t
    · obtain ⟨e0, hD, hD'⟩ := hB.yes gA ti
      dsimp only at e0 hD hD'
      subst e0
      have g1 := hm.hh.bnd t
      have g2 := hm.hh.bnd f
      have k1 := hD.feas hF
      have k2 := hD'.feas hF
      have hlen := hm.hh.len
      unfold hOf at g1 g2 k1 k2
      refine M.o_t rfl (M.o_grd (gA2 (by omega) (by omega)) (M.o_grd (gA2 (by omega) (by omega)) (M.o_grd (gA2 (by omega) (by omega)) (M.o_f ?_ ?_))))
      · rw [Bool.or_eq_false_iff]
        exact ⟨decide_eq_false (by omega), decide_eq_false (by omega)⟩
      · refine M.o_if (fun hne => ?_) (fun _ => j0)
        have hne : f ≠ t := bne_iff_ne.1 hne
        refine M.o_bind (highest_all (n := n) (ls := ls) f t) ?_
        rintro ⟨l1, e1⟩ hH1
        obtain ⟨q1, p1⟩ := hH1.yes hc ⟨a0, a1⟩ ⟨b0, b1⟩ hne gA ti
        dsimp only at q1 p1 ⊢
        subst q1
        refine M.o_bind (highest_all (n := n) (ls := ls) t f) ?_
        rintro ⟨l2, e2⟩ hH2
        obtain ⟨q2, p2⟩ := hH2.yes hc ⟨b0, b1⟩ ⟨a0, a1⟩ (Ne.symm hne) gA ti.symm
        dsimp only at q2 p2 ⊢
        subst q2
        obtain ⟨d1, i1, w1⟩ := p1.rise
        obtain ⟨d2, i2, w2⟩ := p2.rise
        have u1 := i1.uniq hD
        have u2 := i2.uniq hD'
        have hr1 := rises_ends n ls l1
        have hr2 := rises_ends n ls l2
        rw [← p1.first] at w1
        rw [← p2.first] at w2
        rw [rsE_walk hc p1.pos p1.few p1.ok w1] at hr1
        rw [rsE_walk hc p2.pos p2.few p2.ok w2] at hr2
        refine M.o_bindE hr1 (M.o_bindE hr2 ?_)
        dsimp only
        obtain ⟨vs, wk⟩ := hD'.has
        obtain ⟨vs', c', w', _, _, k4⟩ := wk.few (n := n.toNat) hF (by rw [Int.toNat_of_nonneg (by omega)]; exact oN.rng) (by rw [Int.toNat_of_nonneg (by omega)]; exact ⟨b0, b1⟩)
        have d3 := hD'.le _ _ w'
        have d4 := w'.upto (made_edge hm (fun _ h => h))
        have dB : d2 <= 6000 := by
          rw [List.length_cons] at d4
          have : ((vs'.length + 1 : Nat) : Int) - 1 <= 8 := by omega
          have : 708 * (((vs'.length + 1 : Nat) : Int) - 1) <= 708 * 8 := Int.mul_le_mul_of_nonneg_left this (by decide)
          omega
        refine M.o_grd (gOr2 (by omega) (by omega)) (M.o_f ?_ j0)
        subst u1
        rw [u2]
        simp
    · have := hB.far gA ti
      simp only [Prod.mk.injEq] at this
      obtain ⟨_, _, rfl⟩ := this
      exact M.o_f rfl (M.o_f rfl j0)
  obtain ⟨r, h, rfl⟩ := out
  exact h
end Go.Proofs.Ytclhljenjphofaa
