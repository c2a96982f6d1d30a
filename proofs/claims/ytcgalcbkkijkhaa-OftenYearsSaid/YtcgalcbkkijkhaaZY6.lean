/- Part 6 of the texts on which the proof rests. Conditions: none. -/
import Derived.KernelRfl
import Derived.Test.YtcgalcbkkijkhaaZY5
set_option linter.unusedVariables false
set_option linter.unusedSimpArgs false
set_option linter.unusedSectionVars false
namespace Go.Nm
namespace Pk
variable {l : List Pk} {A T : Int} {c : List Int}
theorem getD_app (c : List Int) (x : Int) (k : Nat) : (c ++ [x]).getD k 0 = if k < c.length then c.getD k 0 else if k = c.length then x else 0 := by
  simp only [List.getD_eq_getElem?_getD]
  by_cases h : k < c.length
  · rw [if_pos h, List.getElem?_append_left h]
  · rw [if_neg h, List.getElem?_append_right (by omega)]
    by_cases e : k = c.length
    · subst e; simp
    · rw [if_neg e, List.getElem?_eq_none (by simp; omega)]; rfl
theorem Ris.app {n : Nat} (h : Ris n c) {x : Nat} (hx : x < n) (hl : 0 < c.length -> cA c (c.length - 1) < x) : Ris n (c ++ [(x : Int)]) := by
  intro k hk
  rw [List.length_append, List.length_singleton] at hk
  rw [getD_app, getD_app]
  by_cases e : k < c.length
  · rw [if_pos e, if_pos (by omega)]
    exact h k e
  · obtain rfl : k = c.length := by omega
    rw [if_neg (by omega), if_pos rfl]
    refine ⟨by omega, by omega, fun h0 => ?_⟩
    rw [if_pos (by omega)]
    have h1 := hl h0
    have h2 := h (c.length - 1) (by omega)
    unfold cA at h1
    omega
theorem cA_app {k x : Nat} (h : k <= c.length) : cA (c ++ [(x : Int)]) k = if k < c.length then cA c k else x := by
  unfold cA
  rw [getD_app]
  by_cases e : k < c.length
  · rw [if_pos e, if_pos e]
  · rw [if_neg e, if_neg e, if_pos (by omega)]
    omega
theorem Good.app (h : Good l A T c) {x : Nat} (h1 : T < stAt l x) (h2 : 0 < c.length -> A <= dayAt l x - dayAt l (cA c (c.length - 1))) : Good l A T (c ++ [(x : Int)]) := by
  intro k hk
  rw [List.length_append, List.length_singleton] at hk
  rw [cA_app (by omega), cA_app (by omega)]
  by_cases e : k < c.length
  · rw [if_pos e, if_pos (by omega)]
    exact h k e
  · obtain rfl : k = c.length := by omega
    rw [if_neg (by omega)]
    refine ⟨h1, fun h0 => ?_⟩
    rw [if_pos (by omega)]
    exact h2 h0
end Pk
end Go.Nm
namespace Go.Proofs.Ytcgalcbkkijkhaa
open Go Go.Nm
variable {l : List Pk} {A T : Int}
/-- The greatest worth of a choice. -/
def mxP (l : List Pk) (A T : Int) : Int := Pk.Sf (Pk.kk l A) (vP l T) l.length
structure PiE (l : List Pk) (A T : Int) (y : List Int × Int × Int) : Prop where
  ask : Pk.askP l A T ≠ 0 -> y = ([], 0, Pk.askP l A T)
  ok : Pk.askP l A T = 0 -> y.2.2 = 0 /\ Pk.Ris l.length y.1 /\ Pk.Good l A T y.1 /\ Pk.wS l T y.1 y.1.length = mxP l A T /\ y.2.1 = mxP l A T
structure DuE (l : List Pk) (A T : Int) (y : List Int × Int) : Prop where
  ask : Pk.askP l A T ≠ 0 -> y = ([], Pk.askP l A T)
  ok : Pk.askP l A T = 0 -> y.2 = 0 /\ y.1.length = l.length /\ Pk.Du l.length (Pk.kk l A) (Pk.Sf (Pk.kk l A) (vP l T)) l.length (fun k => y.1.getD k 0)
end Go.Proofs.Ytcgalcbkkijkhaa
namespace Go.Proofs.Ytcgalcbkkijkhaa
open Go Go.Nm
theorem awake_ends : (zaZ).Ends true := ⟨300, by kernel_rfl⟩
end Go.Proofs.Ytcgalcbkkijkhaa
namespace Go.Proofs.Ytcgalcbkkijkhaa
open Go Go.Nm
variable {l : List Pk} {A T : Int}
/-- Dues that prove something. -/
def Prv (l : List Pk) (A T : Int) (d : List Int) : Prop := ∀ i, i < l.length -> vP l T i <= Pk.sm (fun k => d.getD k 0) i (Pk.nx l A i - i)
def DuR (d : List Int) : Prop := ∀ i, i < d.length -> 0 <= d.getD i 0 /\ d.getD i 0 <= 2000
structure PrE (l : List Pk) (A T w : Int) (d : List Int) (y : Bool × Int) : Prop where
  ask : Pk.askP l A T ≠ 0 -> y = (false, Pk.askP l A T)
  len : Pk.askP l A T = 0 -> d.length ≠ l.length -> y = (false, 2)
  rng : Pk.askP l A T = 0 -> d.length = l.length -> ¬ DuR d -> y = (false, 4)
  ok : Pk.askP l A T = 0 -> d.length = l.length -> DuR d -> y.2 = 0 /\ (y.1 = true ↔ Prv l A T d /\ Pk.sm (fun k => d.getD k 0) 0 l.length <= w)
theorem PrE.uniq {w : Int} {d : List Int} {y y' : Bool × Int} (h : PrE l A T w d y) (h' : PrE l A T w d y') : y = y' := by
  by_cases h0 : Pk.askP l A T = 0
  · by_cases h1 : d.length = l.length
    · by_cases h2 : DuR d
      · obtain ⟨a1, a2⟩ := h.ok h0 h1 h2
        obtain ⟨b1, b2⟩ := h'.ok h0 h1 h2
        have e : y.1 = y'.1 := by
          cases c1 : y.1 <;> cases c2 : y'.1
          · rfl
          · rw [c1] at a2; rw [c2] at b2
            exact a2.2 (b2.1 rfl)
          · rw [c1] at a2; rw [c2] at b2
            exact (b2.2 (a2.1 rfl)).symm
          · rfl
        exact Prod.ext e (by rw [a1, b1])
      · rw [h.rng h0 h1 h2, h'.rng h0 h1 h2]
    · rw [h.len h0 h1, h'.len h0 h1]
  · rw [h.ask h0, h'.ask h0]
end Go.Proofs.Ytcgalcbkkijkhaa
namespace Go.Proofs.Ytcgalcbkkijkhaa
open Go Go.Nm
variable {l : List Pk} {A T : Int}
theorem copy_int {c : List Int} (h : c.length <= 1000000) : (zce c).Ends c := M.i_grd (decide_eq_true (by simp only [List.length_nil]; omega)) M.i_pure
theorem same_int (l : List Int) : (zbn l l).Ends true := by
  unfold zbn
  refine M.i_f (by simp) (M.i_bind (a := (.inr () : Unit ⊕ Unit)) ?_ M.i_pure)
  refine M.i_for (fun i => i) l.length (fun i hi => ?_) ?_
  · simp only [zaV]
    exact M.i_t (decide_eq_true (by omega)) (M.i_grd (decide_eq_true (by omega)) (M.i_grd (decide_eq_true (by omega)) (M.i_f (by simp) M.i_pure)))
  · simp only [zaV]
    exact M.i_f (by simp) M.i_pure
end Go.Proofs.Ytcgalcbkkijkhaa
namespace Go.Nm
namespace Bk
/-- What a recorded year says, where there is one. -/
def rec (ys : List Yr) (y : Int) : Span := match ys.find? (fun r => r.year == y) with
  | some r => ⟨r.lo, r.hi⟩
  | none => ⟨0, 2000⟩
/-- What an old note says besides. -/
def told (y : Int) (s : Span) (o : Old10) : Span := if o.src <= y /\ y <= o.dst then (if o.passed.contains y then ⟨max s.lo o.stage, s.hi⟩ else ⟨s.lo, min s.hi (o.stage - 1)⟩) else s
/-- The highest stages that a year can have: none if the least is above the greatest. -/
def kn (ys : List Yr) (os : List Old10) (y : Int) : Span := os.foldl (told y) (rec ys y)
/-- Whether a stage is one that a year can have, by what the notes say. -/
def can (ys : List Yr) (os : List Old10) (y x : Int) : Bool := (ys.all fun r => !(r.year == y && (decide (x < r.lo) || decide (x > r.hi)))) && (os.all fun o => !(decide (o.src <= y) && decide (y <= o.dst)) || (o.passed.contains y == decide (o.stage <= x)))
structure OkY (f l : Int) (ys : List Yr) : Prop where
  in_ : ∀ r ∈ ys, f <= r.year /\ r.year <= l /\ 0 <= r.lo /\ r.lo <= r.hi /\ r.hi <= 2000
  up : ys.Pairwise fun a b => a.year < b.year
structure OkO (f l : Int) (os : List Old10) : Prop where
  in_ : ∀ o ∈ os, f <= o.src /\ o.src <= o.dst /\ o.dst <= l /\ 1 <= o.stage /\ o.stage <= 2000
theorem rec_can {ys : List Yr} {f l y x : Int} (h : OkY f l ys) (h0 : 0 <= x) (h1 : x <= 2000) : (ys.all fun r => !(r.year == y && (decide (x < r.lo) || decide (x > r.hi)))) = true ↔ (rec ys y).lo <= x /\ x <= (rec ys y).hi := by
  have hu := h.up
  clear h
  unfold rec
  induction ys with
  | nil => simp; omega
  | cons r ys ih =>
    obtain ⟨h2, h3⟩ := List.pairwise_cons.1 hu
    rw [List.all_cons, List.find?_cons]
    by_cases e : r.year = y
    · subst e
      have k : (ys.all fun r' => !(r'.year == r.year && (decide (x < r'.lo) || decide (x > r'.hi)))) = true := by
        rw [List.all_eq_true]
        intro r' hr
        have := h2 r' hr
        have : (r'.year == r.year) = false := by rw [beq_eq_false_iff_ne]; omega
        rw [this]; rfl
      simp only [beq_self_eq_true, k, Bool.and_true, Bool.true_and, Bool.not_eq_true', Bool.or_eq_false_iff, decide_eq_false_iff_not]
      omega
    · have e' : (r.year == y) = false := by rw [beq_eq_false_iff_ne]; exact e
      simp only [e', Bool.false_and, Bool.not_false, Bool.true_and]
      exact ih hu.of_cons
theorem told_can (y x : Int) : ∀ (os : List Old10) (s : Span), ((s.lo <= x /\ x <= s.hi) /\ (os.all fun o => !(decide (o.src <= y) && decide (y <= o.dst)) || (o.passed.contains y == decide (o.stage <= x))) = true) ↔ (os.foldl (told y) s).lo <= x /\ x <= (os.foldl (told y) s).hi
  | [], s => by simp
  | o :: os, s => by
    rw [List.foldl_cons, ← told_can y x os (told y s o), List.all_cons, Bool.and_eq_true, ← and_assoc]
    refine and_congr_left fun _ => ?_
    unfold told
    by_cases h : o.src <= y /\ y <= o.dst
    · rw [if_pos h]
      simp only [h.1, h.2, decide_true, Bool.and_self, Bool.not_true, Bool.false_or, beq_iff_eq]
      by_cases c : o.passed.contains y = true
      · rw [if_pos c, c]
        by_cases d : o.stage <= x
        · simp only [d, decide_true, and_true]; omega
        · simp only [d, decide_false]; simp; omega
      · rw [if_neg c]
        rw [Bool.not_eq_true] at c
        rw [c]
        by_cases d : o.stage <= x
        · simp only [d, decide_true]; simp; omega
        · simp only [d, decide_false, and_true]; omega
    · rw [if_neg h]
      have : (!(decide (o.src <= y) && decide (y <= o.dst))) = true := by
        by_cases h1 : o.src <= y
        · by_cases h2 : y <= o.dst
          · exact absurd ⟨h1, h2⟩ h
          · simp [h2]
        · simp [h1]
      rw [this, Bool.true_or]
      simp
theorem can_iff {ys : List Yr} {os : List Old10} {f l y x : Int} (h : OkY f l ys) (h0 : 0 <= x) (h1 : x <= 2000) : can ys os y x = true ↔ (kn ys os y).lo <= x /\ x <= (kn ys os y).hi := by
  unfold can kn
  rw [Bool.and_eq_true, rec_can h h0 h1]
  exact told_can y x os (rec ys y)
theorem told_in {f l y : Int} {s : Span} : ∀ {os : List Old10}, (∀ o ∈ os, f <= o.src /\ o.src <= o.dst /\ o.dst <= l /\ 1 <= o.stage /\ o.stage <= 2000) -> 0 <= s.lo -> s.lo <= 2000 -> 0 <= s.hi -> s.hi <= 2000 →
    0 <= (os.foldl (told y) s).lo /\ (os.foldl (told y) s).lo <= 2000 /\ 0 <= (os.foldl (told y) s).hi /\ (os.foldl (told y) s).hi <= 2000
  | [], _, h1, h2, h3, h4 => ⟨h1, h2, h3, h4⟩
  | o :: os, h, h1, h2, h3, h4 => by
    have k := h o (by simp)
    rw [List.foldl_cons]
    have q : 0 <= (told y s o).lo /\ (told y s o).lo <= 2000 /\ 0 <= (told y s o).hi /\ (told y s o).hi <= 2000 := by
      unfold told
      split
      · split
        · dsimp only; omega
        · dsimp only; omega
      · exact ⟨h1, h2, h3, h4⟩
    exact told_in (fun o' ho => h o' (by simp [ho])) q.1 q.2.1 q.2.2.1 q.2.2.2
theorem rec_in {ys : List Yr} {f l : Int} (h : OkY f l ys) (y : Int) : 0 <= (rec ys y).lo /\ (rec ys y).lo <= 2000 /\ 0 <= (rec ys y).hi /\ (rec ys y).hi <= 2000 := by
  unfold rec
  cases e : ys.find? (fun r => r.year == y) with
  | none => dsimp only; omega
  | some r =>
    have := h.in_ r (List.mem_of_find?_eq_some e)
    dsimp only
    omega
theorem kn_in {ys : List Yr} {os : List Old10} {f l f' l' : Int} (h : OkY f l ys) (k : OkO f' l' os) (y : Int) : 0 <= (kn ys os y).lo /\ (kn ys os y).lo <= 2000 /\ 0 <= (kn ys os y).hi /\ (kn ys os y).hi <= 2000 := by
  obtain ⟨h1, h2, h3, h4⟩ := rec_in h y
  exact told_in k.in_ h1 h2 h3 h4
end Bk
end Go.Nm
namespace Go.Nm
/-- A loop that looks at one after the other, till one is not so. -/
theorem M.o_scan {ρ : Type} {body : Nat -> M (Nat ⊕ ρ)} {Q : ρ -> Prop} (n : Nat) (p : Nat -> Prop) (h : ∀ s, s < n -> (∀ k, k < s -> p k) -> (body s).Out (fun x => match x with | .inl s' => s' = s + 1 /\ p s | .inr r => Q r))
    (he : (∀ k, k < n -> p k) -> (body n).Out (fun x => match x with | .inl _ => False | .inr r => Q r)) : (M.iter body 0).Out Q := by
  refine M.o_for n (fun i (s : Nat) => s = i /\ ∀ k, k < i -> p k) ?_ ?_ ⟨rfl, fun k hk => by omega⟩
  · rintro i s hi ⟨rfl, hp⟩
    refine M.o_mono (h s hi hp) ?_
    intro x hx
    cases x with
    | inl s' =>
      refine ⟨hx.1, fun k hk => ?_⟩
      rcases Nat.lt_or_eq_of_le (Nat.le_of_lt_succ hk) with e | e
      · exact hp k e
      · subst e; exact hx.2
    | inr r => exact hx
  · rintro s ⟨rfl, hp⟩
    refine M.o_mono (he hp) ?_
    intro x hx
    cases x with
    | inl u => exact hx.elim
    | inr r => exact hx
theorem M.Out.ends {α : Type} {m : M α} {a : α} (h : m.Out (fun r => r = a)) : m.Ends a := by
  obtain ⟨r, h1, rfl⟩ := h
  exact h1
namespace Bk
def frB (f l : Int) : Bool := ((decide (0 <= f) && decide (f <= l)) && (decide (0 <= l) && decide (l <= 3000))) && decide (l - f < 1000)
def fewO (o : Old10) : Bool := decide ((o.passed.length : Int) <= 10)
def yrB (f l : Int) (r : Yr) : Bool := ((decide (f <= r.year) && decide (r.year <= l)) && (decide (0 <= r.lo) && decide (r.lo <= r.hi))) && (decide (0 <= r.hi) && decide (r.hi <= 2000))
def errY (f l : Int) (ys : List Yr) (i : Nat) : Int := if yrB f l (ys.getD i default) = false then 110 else if 0 < i /\ (ys.getD i default).year <= (ys.getD (i - 1) default).year then 9 else 0
/-- Strictly increasing, from a first to a last number. -/
def Rin (l : List Int) (a b : Int) : Prop := ∀ i, i < l.length -> (a <= l.getD i 0 /\ l.getD i 0 <= b) /\ (0 < i -> l.getD (i - 1) 0 < l.getD i 0)
instance (l : List Int) (a b : Int) : Decidable (Rin l a b) := inferInstanceAs (Decidable (∀ i, i < l.length -> _))
def oB (f l : Int) (o : Old10) : Bool := (((decide (f <= o.src) && decide (o.src <= o.dst)) && (decide (f <= o.dst) && decide (o.dst <= l))) && (decide (1 <= o.stage) && decide (o.stage <= 2000))) && decide (Rin o.passed o.src o.dst)
def chkB (ys : List Yr) (os : List Old10) (f l : Int) : Int :=
  if frB f l = false then 110 else if 60 < ys.length ∨ 8 < os.length ∨ os.all fewO = false then 3 else if Pk.fe (errY f l ys) ys.length ≠ 0 then Pk.fe (errY f l ys) ys.length else if os.all (oB f l) = false then 110 else 0
/-- Books that are right. -/
structure Ok (ys : List Yr) (os : List Old10) (f l : Int) : Prop where
  f0 : 0 <= f
  fl : f <= l
  l3 : l <= 3000
  ln : l - f < 1000
  y60 : ys.length <= 60
  o8 : os.length <= 8
  few : ∀ o ∈ os, o.passed.length <= 10
  y : OkY f l ys
  o : OkO f l os
  ris : ∀ o ∈ os, Rin o.passed o.src o.dst
theorem chk_ok {ys : List Yr} {os : List Old10} {f l : Int} (h : chkB ys os f l = 0) : Ok ys os f l := by
  unfold chkB at h
  split at h
  · cases h
  · rename_i h1
    rw [Bool.not_eq_false] at h1
    split at h
    · cases h
    · rename_i h2
      split at h
      · rename_i h3; exact absurd h h3
      · rename_i h3
        split at h
        · cases h
        · rename_i h4
          rw [Bool.not_eq_false] at h4
          have h1 : ((0 <= f /\ f <= l) /\ (0 <= l /\ l <= 3000)) /\ l - f < 1000 := by simpa [frB] using h1
          have hf : os.all fewO = true := by
            cases e : os.all fewO with
            | true => rfl
            | false => exact absurd (.inr (.inr e)) h2
          have k := Pk.fe_all.1 (Classical.not_not.1 h3)
          have k1 : ∀ i, i < ys.length -> yrB f l (ys.getD i default) = true /\ (0 < i -> (ys.getD (i - 1) default).year < (ys.getD i default).year) := by
            intro i hi
            have := k i hi
            unfold errY at this
            split at this
            · cases this
            · rename_i h1
              split at this
              · cases this
              · rename_i h2
                refine ⟨by simpa using h1, fun h0 => ?_⟩
                omega
          refine ⟨h1.1.1.1, h1.1.1.2, h1.1.2.2, h1.2, by omega, by omega, fun o ho => ?_, ⟨fun r hr => ?_, ?_⟩, ⟨fun o ho => ?_⟩, fun o ho => ?_⟩
          · have := List.all_eq_true.1 hf o ho
            unfold fewO at this
            have := of_decide_eq_true this
            omega
          · obtain ⟨i, hi, rfl⟩ := List.getElem_of_mem hr
            have := (k1 i hi).1
            rw [List.getD_eq_getElem?_getD, List.getElem?_eq_getElem hi, Option.getD_some] at this
            have : ((f <= ys[i].year /\ ys[i].year <= l) /\ (0 <= ys[i].lo /\ ys[i].lo <= ys[i].hi)) /\ (0 <= ys[i].hi /\ ys[i].hi <= 2000) := by simpa [yrB] using this
            omega
          · have hup : ∀ i j, i < j -> j < ys.length -> (ys.getD i default).year < (ys.getD j default).year := by
              intro i j hij hj
              induction j with
              | zero => omega
              | succ j ih =>
                have h1 := (k1 (j + 1) hj).2 (by omega)
                simp only [Nat.add_sub_cancel] at h1
                rcases Nat.lt_or_eq_of_le (Nat.le_of_lt_succ hij) with e | e
                · have := ih e (by omega)
                  omega
                · subst e; exact h1
            rw [List.pairwise_iff_getElem]
            intro i j hi hj hij
            have := hup i j hij hj
            rwa [List.getD_eq_getElem?_getD, List.getElem?_eq_getElem hi, Option.getD_some, List.getD_eq_getElem?_getD, List.getElem?_eq_getElem hj, Option.getD_some] at this
          · have := List.all_eq_true.1 h4 o ho
            have : (((f <= o.src /\ o.src <= o.dst) /\ (f <= o.dst /\ o.dst <= l)) /\ (1 <= o.stage /\ o.stage <= 2000)) /\ Rin o.passed o.src o.dst := by simpa [oB] using this
            omega
          · have := List.all_eq_true.1 h4 o ho
            have : (((f <= o.src /\ o.src <= o.dst) /\ (f <= o.dst /\ o.dst <= l)) /\ (1 <= o.stage /\ o.stage <= 2000)) /\ Rin o.passed o.src o.dst := by simpa [oB] using this
            exact this.2
end Bk
end Go.Nm
namespace Go.Proofs.Ytcgalcbkkijkhaa
open Go Go.Nm
theorem index_old {s : List Old10} {f : Old10 -> M Bool} {q : Old10 -> Bool} (hl : s.length <= 1000000) (h : ∀ x, x ∈ s -> (f x).Ends (q x)) : (zbI s f).Out (fun r => decide (0 <= r) = s.any q) := by
  unfold zbI
  refine M.o_bind (P := fun y => match y with | .inl i => 0 <= i /\ s.any q = true | .inr (_ : Unit) => s.any q = false) ?_ ?_
  · refine M.o_scan s.length (fun k => q (s.getD k default) = false) ?_ ?_
    · intro k hk hp
      simp only [zbi]
      have e : s.getD k default = s[k] := by rw [List.getD_eq_getElem?_getD, List.getElem?_eq_getElem hk, Option.getD_some]
      refine M.o_t (decide_eq_true (by omega)) (M.o_grdD (by omega) (M.o_bindE (h _ (by rw [e]; exact List.getElem_mem hk)) (M.o_if (fun hb => ?_) (fun hb => ?_))))
      · exact M.o_pure ⟨by omega, List.any_eq_true.2 ⟨_, by rw [e]; exact List.getElem_mem hk, hb⟩⟩
      · exact M.o_pure ⟨rfl, hb⟩
    · intro hp
      simp only [zbi]
      refine M.o_f (by simp) (M.o_pure ?_)
      rw [List.any_eq_false]
      intro x hx
      obtain ⟨i, hi, rfl⟩ := List.getElem_of_mem hx
      have := hp i hi
      rw [List.getD_eq_getElem?_getD, List.getElem?_eq_getElem hi, Option.getD_some] at this
      simp [this]
  · intro y hy
    cases y with
    | inl i => exact M.o_pure (by rw [hy.2]; exact decide_eq_true hy.1)
    | inr u => exact M.o_pure (by rw [hy]; decide)
theorem every_old {s : List Old10} {so : Old10 -> M Bool} {p : Old10 -> Bool} (hl : s.length <= 1000000) (h : ∀ x, x ∈ s -> (so x).Ends (p x)) : (zbm s so).Ends (s.all p) := by
  unfold zbm zbZ
  obtain ⟨r, h1, h2⟩ := index_old (s := s) (f := fun x => zaT x so) (q := fun x => !(p x)) hl (fun x hx => by unfold zaT; exact M.i_bind (h x hx) M.i_pure)
  refine M.i_bind (M.i_bind h1 M.i_pure) ?_
  rw [h2, List.any_eq_not_all_not]
  simp only [Bool.not_not]
  exact M.i_pure
theorem rising_ends (l : List Int) (a b : Int) (hb : b <= 1000000) (ha : -1000000 <= a) : (zap l a b).Ends (decide (Bk.Rin l a b)) := by
  refine M.Out.ends ?_
  unfold zap
  refine M.o_bind (P := fun y => match y with | .inl (_ : Unit) => ¬ Bk.Rin l a b | .inr (_ : Unit) => Bk.Rin l a b) ?_ ?_
  · refine M.o_for l.length (fun i (s : Int × Nat) => s.2 = i /\ a <= s.1 /\ s.1 = (if i = 0 then a else l.getD (i - 1) 0 + 1) /\ ∀ k, k < i -> (a <= l.getD k 0 /\ l.getD k 0 <= b) /\ (0 < k -> l.getD (k - 1) 0 < l.getD k 0)) ?_ ?_ ⟨rfl, Int.le_refl _, rfl, fun k hk => by omega⟩
    · rintro i ⟨x, s⟩ hi ⟨e1, e2, e3, e4⟩
      dsimp only at e1 e2 e3
      subst e1
      simp only [zaL]
      refine M.o_t (decide_eq_true (by omega)) (M.o_grdD (by omega) (M.o_bindE (in_ends _ _ _) (M.o_if (fun hc => ?_) (fun hc => ?_))))
      · rw [Bool.not_eq_true', Bool.and_eq_false_iff, decide_eq_false_iff_not, decide_eq_false_iff_not] at hc
        refine M.o_pure fun hR => ?_
        have := hR s hi
        split at e3 <;> omega
      · rw [Bool.not_eq_false', Bool.and_eq_true, decide_eq_true_eq, decide_eq_true_eq] at hc
        refine M.o_grd (gA2 (by omega) (by omega)) (M.o_pure ⟨rfl, by dsimp only; omega, by rw [if_neg (by omega), Nat.add_sub_cancel], fun k hk => ?_⟩)
        rcases Nat.lt_or_eq_of_le (Nat.le_of_lt_succ hk) with e | e
        · exact e4 k e
        · subst e
          split at e3 <;> omega
    · rintro ⟨x, s⟩ ⟨e1, e2, e3, e4⟩
      dsimp only at e1 e2 e3
      subst e1
      simp only [zaL]
      exact M.o_f (by simp) (M.o_pure e4)
  · intro y hy
    cases y with
    | inl u => exact M.o_pure (decide_eq_false hy).symm
    | inr u => exact M.o_pure (decide_eq_true hy).symm
theorem unl_ends (l : List Int) (a b : Int) (hl : l.length <= 1000000) : (zbB l a b).Ends (!(decide (Bk.Rin l a b))) := by
  refine M.Out.ends ?_
  unfold zbB
  refine M.o_bind (P := fun y => match y with | .inl (_ : Unit) => ¬ Bk.Rin l a b | .inr (_ : Unit) => Bk.Rin l a b) ?_ ?_
  · refine M.o_scan l.length (fun k => (a <= l.getD k 0 /\ l.getD k 0 <= b) /\ (0 < k -> l.getD (k - 1) 0 < l.getD k 0)) ?_ ?_
    · intro s hi hp
      simp only [zaM]
      refine M.o_t (decide_eq_true (by omega)) (M.o_grdD (by omega) (M.o_bindE (out_ends _ _ _) ?_))
      refine M.o_grd (gI2 fun h => by rw [Bool.and_eq_true, decide_eq_true_eq] at h; omega) (M.o_grd (gI2 fun h => by rw [Bool.and_eq_true, decide_eq_true_eq] at h; omega) ?_)
      rw [show Int.toNat ((s : Int) - 1) = s - 1 by omega]
      refine M.o_if (fun hc => ?_) (fun hc => ?_)
      · refine M.o_pure fun hR => ?_
        have := hR s hi
        rw [Bool.or_eq_true, Bool.not_eq_true', Bool.and_eq_false_iff, Bool.and_eq_true, decide_eq_false_iff_not, decide_eq_false_iff_not, decide_eq_true_eq, decide_eq_true_eq] at hc
        omega
      · rw [Bool.or_eq_false_iff, Bool.not_eq_false', Bool.and_eq_false_iff, Bool.and_eq_true, decide_eq_false_iff_not, decide_eq_false_iff_not, decide_eq_true_eq, decide_eq_true_eq] at hc
        exact M.o_pure ⟨rfl, by omega⟩
    · intro hp
      simp only [zaM]
      exact M.o_f (by simp) (M.o_pure hp)
  · intro y hy
    cases y with
    | inl u => exact M.o_pure (by rw [decide_eq_false hy]; rfl)
    | inr u => exact M.o_pure (by rw [decide_eq_true hy]; rfl)
theorem yr_ends (ys : List Yr) (os : List Old10) (f l : Int) (r : Yr) : (zbN ys os f l r).Ends (Bk.yrB f l r) := by
  unfold zbN Bk.yrB
  generalize ha : (decide (f <= r.year) && decide (r.year <= l)) = A
  generalize hb : (decide (0 <= r.lo) && decide (r.lo <= r.hi)) = B
  generalize hc : (decide (0 <= r.hi) && decide (r.hi <= 2000)) = C
  have a1 := in_ends r.year f l
  have b1 := in_ends r.lo 0 r.hi
  have c1 := in_ends r.hi 0 2000
  rw [ha] at a1; rw [hb] at b1; rw [hc] at c1
  refine M.i_bind a1 (M.i_bind (a := A && B) (M.i_opt (fun h => by rw [h]; exact b1) (fun h => by rw [h]; rfl)) (M.i_bind (a := (A && (A && B)) && C) (M.i_opt (fun h => by rw [h]; exact c1) (fun h => by rw [h]; rfl)) ?_))
  cases A <;> cases B <;> cases C <;> exact M.i_pure
theorem old_ends {ys : List Yr} {os : List Old10} {f l : Int} (hl : l <= 3000) (hf : 0 <= f) (o : Old10) : (za1 o ys os f l).Ends (Bk.oB f l o) := by
  unfold za1 zb6 Bk.oB
  generalize ha : (decide (f <= o.src) && decide (o.src <= o.dst)) = A
  generalize hb : (decide (f <= o.dst) && decide (o.dst <= l)) = B
  generalize hc : (decide (1 <= o.stage) && decide (o.stage <= 2000)) = C
  have a1 := in_ends o.src f o.dst
  have b1 := in_ends o.dst f l
  have c1 := in_ends o.stage 1 2000
  rw [ha] at a1; rw [hb] at b1; rw [hc] at c1
  have d1 : A = true -> B = true -> (zap o.passed o.src o.dst).Ends (decide (Bk.Rin o.passed o.src o.dst)) := by
    rintro rfl rfl
    rw [Bool.and_eq_true, decide_eq_true_eq, decide_eq_true_eq] at ha hb
    exact rising_ends _ _ _ (by omega) (by omega)
  generalize (decide (Bk.Rin o.passed o.src o.dst)) = E at d1
  refine M.i_bind (M.i_bind a1 (M.i_bind (a := A && B) (M.i_opt (fun h => by rw [h]; exact b1) (fun h => by rw [h]; rfl)) (M.i_bind (a := (A && (A && B)) && C) (M.i_opt (fun h => by rw [h]; exact c1) (fun h => by rw [h]; rfl)) (M.i_bind (a := (((A && (A && B)) && ((A && (A && B)) && C))) && E) (M.i_opt (fun h => ?_) (fun h => by rw [h]; rfl)) M.i_pure)))) ?_
  · rw [h]
    have : A = true /\ B = true := by cases A <;> cases B <;> simp_all
    exact d1 this.1 this.2
  · cases A <;> cases B <;> cases C <;> cases E <;> exact M.i_pure
theorem check_ends (ys : List Yr) (os : List Old10) (f l : Int) (hy : ys.length <= 1000000) (ho : os.length <= 1000000) : (zbu ys os f l).Ends (Bk.chkB ys os f l) := by
  unfold zbu Bk.chkB
  refine M.i_bind (in_ends _ _ _) (M.i_bind (a := (decide (0 <= f) && decide (f <= l)) && (decide (0 <= l) && decide (l <= 3000))) (M.i_opt (fun h => by rw [Bool.not_not] at h; rw [h]; exact in_ends _ _ _) (fun h => by rw [Bool.not_not] at h; rw [h]; rfl)) ?_)
  have e1 : ((!(decide (0 <= f) && decide (f <= l))) || !((decide (0 <= f) && decide (f <= l)) && (decide (0 <= l) && decide (l <= 3000)))) = !((decide (0 <= f) && decide (f <= l)) && (decide (0 <= l) && decide (l <= 3000))) := by
    cases (decide (0 <= f) && decide (f <= l)) <;> rfl
  rw [e1]
  refine M.i_grd (gI2 fun h => ?_) ?_
  · rw [Bool.not_not, Bool.and_eq_true, Bool.and_eq_true, Bool.and_eq_true, decide_eq_true_eq, decide_eq_true_eq, decide_eq_true_eq, decide_eq_true_eq] at h
    omega
  have e2 : ((!((decide (0 <= f) && decide (f <= l)) && (decide (0 <= l) && decide (l <= 3000)))) || decide (1000 <= l - f)) = !(Bk.frB f l) := by
    unfold Bk.frB
    rw [Bool.eq_iff_iff]
    simp only [Bool.or_eq_true, Bool.not_eq_true', Bool.and_eq_false_iff, decide_eq_true_eq, decide_eq_false_iff_not]
    omega
  rw [e2]
  refine M.i_if (fun h1 => ?_) (fun h1 => ?_)
  · rw [Bool.not_eq_true'] at h1
    rw [if_pos h1]
    exact M.i_pure
  · rw [Bool.not_eq_false'] at h1
    rw [if_neg (by rw [h1]; simp)]
    have hfl : 0 <= f /\ l <= 3000 := by
      have h1 : ((0 <= f /\ f <= l) /\ (0 <= l /\ l <= 3000)) /\ l - f < 1000 := by simpa [Bk.frB] using h1
      exact ⟨h1.1.1.1, h1.1.2.2⟩
    have few := every_old (s := os) (so := fun xqz => zby xqz) (p := Bk.fewO) ho (fun o _ => M.i_pure)
    by_cases hm : 60 < ys.length ∨ 8 < os.length
    · have e3 : (decide (60 < (ys.length : Int)) || decide (8 < (os.length : Int))) = true := by
        rw [Bool.or_eq_true, decide_eq_true_eq, decide_eq_true_eq]; omega
      rw [e3, if_pos (hm.elim (fun h => .inl h) (fun h => .inr (.inl h)))]
      exact M.i_bind (a := false) (M.i_opt (fun h => by cases h) (fun _ => rfl)) (M.i_t rfl M.i_pure)
    · have e3 : (decide (60 < (ys.length : Int)) || decide (8 < (os.length : Int))) = false := by
        rw [Bool.or_eq_false_iff, decide_eq_false_iff_not, decide_eq_false_iff_not]; omega
      rw [e3]
      refine M.i_bind (M.i_opt (fun _ => few) (fun h => by cases h)) ?_
      cases hf : os.all Bk.fewO with
      | false =>
        rw [if_pos (.inr (.inr rfl))]
        exact M.i_t rfl M.i_pure
      | true =>
        rw [if_neg (fun h => h.elim (fun h => hm (.inl h)) (fun h => h.elim (fun h => hm (.inr h)) (fun h => by cases h)))]
        refine M.i_f rfl ?_
        have out : (M.iter (zas ys os f l) 0).Out (fun y => (match y with | .inl s => s ≠ 0 /\ s = Pk.fe (Bk.errY f l ys) ys.length | .inr (_ : Unit) => Pk.fe (Bk.errY f l ys) ys.length = 0)) := by
          refine M.o_for ys.length (fun i s => s = i /\ Pk.fe (Bk.errY f l ys) i = 0) ?_ ?_ ⟨rfl, rfl⟩
          · rintro i s hi ⟨rfl, h0⟩
            simp only [zas]
            refine M.o_t (decide_eq_true (by omega)) (M.o_grdD (by omega) (M.o_bindE (yr_ends _ _ _ _ _) (M.o_if (fun h1 => ?_) (fun h1 => ?_))))
            · have e : Bk.errY f l ys s = 110 := by unfold Bk.errY; rw [if_pos (by simpa using h1)]
              exact M.o_pure ⟨by decide, by rw [Pk.fe_stop h0 (by rw [e]; decide) hi, e]⟩
            · have h1 : Bk.yrB f l (ys.getD s default) = true := by simpa using h1
              refine M.o_grd (gI2 fun h => by have := of_decide_eq_true h; omega) (M.o_grd (gI2 fun h => by have := of_decide_eq_true h; omega) ?_)
              rw [show Int.toNat ((s : Int) - 1) = s - 1 by omega]
              refine M.o_if (fun h2 => ?_) (fun h2 => ?_)
              · rw [Bool.and_eq_true, decide_eq_true_eq, decide_eq_true_eq] at h2
                have e : Bk.errY f l ys s = 9 := by unfold Bk.errY; rw [if_neg (by rw [h1]; simp), if_pos ⟨by omega, h2.2⟩]
                exact M.o_pure ⟨by decide, by rw [Pk.fe_stop h0 (by rw [e]; decide) hi, e]⟩
              · refine M.o_pure ⟨rfl, ?_⟩
                have e : Bk.errY f l ys s = 0 := by
                  unfold Bk.errY
                  rw [if_neg (by rw [h1]; simp), if_neg]
                  intro hh
                  rw [Bool.and_eq_false_iff, decide_eq_false_iff_not, decide_eq_false_iff_not] at h2
                  omega
                show (if Pk.fe (Bk.errY f l ys) s ≠ 0 then _ else _) = _
                rw [if_neg (by rw [h0]; simp), e]
          · rintro s ⟨rfl, h0⟩
            simp only [zas]
            exact M.o_f (by simp) (M.o_pure h0)
        obtain ⟨y, g1, g2⟩ := out
        refine M.i_bind g1 ?_
        cases y with
        | inl s =>
          dsimp only at g2 ⊢
          rw [← g2.2, if_pos g2.1]; exact M.i_pure
        | inr u =>
          dsimp only at g2 ⊢
          rw [g2, if_neg (by simp)]
          refine M.i_bind (every_old ho fun o _ => old_ends hfl.2 hfl.1 o) ?_
          cases os.all (Bk.oB f l) with
          | true => exact M.i_f rfl M.i_pure
          | false => exact M.i_t rfl M.i_pure
theorem ref_check (ys : List Yr) (os : List Old10) (f l : Int) (hy : ys.length <= 1000000) (ho : os.length <= 1000000) : (za4 ys os f l).Ends (Bk.chkB ys os f l) := by
  unfold za4 Bk.chkB
  have e0 : ((decide (0 <= f) && decide (f <= 3000)) && (decide (0 <= l) && decide (l <= 3000)) && decide (f <= l)) = ((decide (0 <= f) && decide (f <= l)) && (decide (0 <= l) && decide (l <= 3000))) := by
    rw [Bool.eq_iff_iff]; simp only [Bool.and_eq_true, decide_eq_true_eq]; omega
  refine M.i_bind (out_ends _ _ _) (M.i_bind (a := (decide (0 <= f) && decide (f <= 3000)) && !(decide (0 <= l) && decide (l <= 3000))) (M.i_opt (fun h => by rw [Bool.not_not] at h; rw [h]; exact out_ends _ _ _) (fun h => by rw [Bool.not_not] at h; rw [h]; rfl)) ?_)
  have e1 : (((!(decide (0 <= f) && decide (f <= 3000))) || ((decide (0 <= f) && decide (f <= 3000)) && !(decide (0 <= l) && decide (l <= 3000)))) || decide (l < f)) = !((decide (0 <= f) && decide (f <= l)) && (decide (0 <= l) && decide (l <= 3000))) := by
    rw [← e0, show decide (l < f) = !(decide (f <= l)) by rw [← decide_not]; exact decide_eq_decide.2 (by omega)]
    cases (decide (0 <= f) && decide (f <= 3000)) <;> cases (decide (0 <= l) && decide (l <= 3000)) <;> cases (decide (f <= l)) <;> rfl
  rw [e1]
  refine M.i_grd (gI2 fun h => ?_) ?_
  · rw [Bool.not_not, Bool.and_eq_true, Bool.and_eq_true, Bool.and_eq_true, decide_eq_true_eq, decide_eq_true_eq, decide_eq_true_eq, decide_eq_true_eq] at h
    omega
  have e2 : ((!((decide (0 <= f) && decide (f <= l)) && (decide (0 <= l) && decide (l <= 3000)))) || decide (999 < l - f)) = !(Bk.frB f l) := by
    unfold Bk.frB
    rw [Bool.eq_iff_iff]
    simp only [Bool.or_eq_true, Bool.not_eq_true', Bool.and_eq_false_iff, decide_eq_true_eq, decide_eq_false_iff_not]
    omega
  rw [e2]
  refine M.i_if (fun h1 => ?_) (fun h1 => ?_)
  · rw [Bool.not_eq_true'] at h1
    rw [if_pos h1]
    exact M.i_pure
  · rw [Bool.not_eq_false'] at h1
    rw [if_neg (by rw [h1]; simp)]
    by_cases hm : 60 < ys.length ∨ 8 < os.length
    · have e3 : (decide (60 < (ys.length : Int)) || decide (8 < (os.length : Int))) = true := by
        rw [Bool.or_eq_true, decide_eq_true_eq, decide_eq_true_eq]; omega
      rw [if_pos (hm.elim (fun h => .inl h) (fun h => .inr (.inl h)))]
      exact M.i_t e3 M.i_pure
    · have e3 : (decide (60 < (ys.length : Int)) || decide (8 < (os.length : Int))) = false := by
        rw [Bool.or_eq_false_iff, decide_eq_false_iff_not, decide_eq_false_iff_not]; omega
      refine M.i_f e3 ?_
      have out0 : (M.iter (zar os) 0).Out (fun y => (match y with | .inl (_ : Unit) => os.all Bk.fewO = false | .inr (_ : Unit) => os.all Bk.fewO = true)) := by
        refine M.o_scan os.length (fun k => Bk.fewO (os.getD k default) = true) ?_ ?_
        · intro s hi hp
          simp only [zar]
          have e : os.getD s default = os[s] := by rw [List.getD_eq_getElem?_getD, List.getElem?_eq_getElem hi, Option.getD_some]
          refine M.o_t (decide_eq_true (by omega)) (M.o_grdD (by omega) (M.o_if (fun hb => ?_) (fun hb => ?_)))
          · refine M.o_pure ?_
            rw [List.all_eq_false]
            refine ⟨os[s], List.getElem_mem hi, ?_⟩
            have := of_decide_eq_true hb
            rw [← e]
            unfold Bk.fewO
            rw [decide_eq_true_eq]
            omega
          · have := of_decide_eq_false hb
            exact M.o_pure ⟨rfl, decide_eq_true (by omega)⟩
        · intro hp
          simp only [zar]
          refine M.o_f (by simp) (M.o_pure ?_)
          rw [List.all_eq_true]
          intro x hx
          obtain ⟨i, hi, rfl⟩ := List.getElem_of_mem hx
          have := hp i hi
          rwa [List.getD_eq_getElem?_getD, List.getElem?_eq_getElem hi, Option.getD_some] at this
      obtain ⟨y0, g1, g2⟩ := out0
      refine M.i_bind g1 ?_
      cases y0 with
      | inl u =>
        dsimp only at g2 ⊢
        rw [if_pos (.inr (.inr g2))]
        exact M.i_pure
      | inr u =>
        dsimp only at g2 ⊢
        rw [if_neg (fun h => h.elim (fun h => hm (.inl h)) (fun h => h.elim (fun h => hm (.inr h)) (fun h => by rw [g2] at h; cases h)))]
        have gf : os.all Bk.fewO = true := g2
        have out : (M.iter (zaI ys f l) 0).Out (fun y => (match y with | .inl s => s ≠ 0 /\ s = Pk.fe (Bk.errY f l ys) ys.length | .inr (_ : Unit) => Pk.fe (Bk.errY f l ys) ys.length = 0)) := by
          refine M.o_for ys.length (fun i s => s = i /\ Pk.fe (Bk.errY f l ys) i = 0) ?_ ?_ ⟨rfl, rfl⟩
          · rintro i s hi ⟨rfl, h0⟩
            simp only [zaI]
            have e5 : ((((!(decide (f <= (ys.getD s default).year) && decide ((ys.getD s default).year <= l))) || decide ((ys.getD s default).lo < 0)) || decide (2000 < (ys.getD s default).hi)) || decide ((ys.getD s default).hi < (ys.getD s default).lo)) = !(Bk.yrB f l (ys.getD s default)) := by
              unfold Bk.yrB
              rw [Bool.eq_iff_iff]
              simp only [Bool.or_eq_true, Bool.not_eq_true', Bool.and_eq_false_iff, decide_eq_true_eq, decide_eq_false_iff_not]
              omega
            refine M.o_t (decide_eq_true (by omega)) (M.o_grdD (by omega) (M.o_bindE (out_ends _ _ _) ?_))
            rw [e5]
            refine M.o_if (fun h1 => ?_) (fun h1 => ?_)
            · have e : Bk.errY f l ys s = 110 := by unfold Bk.errY; rw [if_pos (by simpa using h1)]
              exact M.o_pure ⟨by decide, by rw [Pk.fe_stop h0 (by rw [e]; decide) hi, e]⟩
            · have h1 : Bk.yrB f l (ys.getD s default) = true := by simpa using h1
              refine M.o_grd (gI2 fun h => by have := of_decide_eq_true h; omega) (M.o_grd (gI2 fun h => by have := of_decide_eq_true h; omega) ?_)
              rw [show Int.toNat ((s : Int) - 1) = s - 1 by omega]
              refine M.o_if (fun h2 => ?_) (fun h2 => ?_)
              · rw [Bool.and_eq_true, decide_eq_true_eq, decide_eq_true_eq] at h2
                have e : Bk.errY f l ys s = 9 := by unfold Bk.errY; rw [if_neg (by rw [h1]; simp), if_pos ⟨by omega, h2.2⟩]
                exact M.o_pure ⟨by decide, by rw [Pk.fe_stop h0 (by rw [e]; decide) hi, e]⟩
              · refine M.o_pure ⟨rfl, ?_⟩
                have e : Bk.errY f l ys s = 0 := by
                  unfold Bk.errY
                  rw [if_neg (by rw [h1]; simp), if_neg]
                  intro hh
                  rw [Bool.and_eq_false_iff, decide_eq_false_iff_not, decide_eq_false_iff_not] at h2
                  omega
                show (if Pk.fe (Bk.errY f l ys) s ≠ 0 then _ else _) = _
                rw [if_neg (by rw [h0]; simp), e]
          · rintro s ⟨rfl, h0⟩
            simp only [zaI]
            exact M.o_f (by simp) (M.o_pure h0)
        obtain ⟨y, g1, g2⟩ := out
        refine M.i_bind g1 ?_
        cases y with
        | inl s =>
          dsimp only at g2 ⊢
          rw [← g2.2, if_pos g2.1]; exact M.i_pure
        | inr u =>
          dsimp only at g2 ⊢
          rw [g2, if_neg (by simp)]
          have out2 : (M.iter (zaJ os f l) 0).Out (fun y => (match y with | .inl (_ : Unit) => os.all (Bk.oB f l) = false | .inr (_ : Unit) => os.all (Bk.oB f l) = true)) := by
            refine M.o_scan os.length (fun k => Bk.oB f l (os.getD k default) = true) ?_ ?_
            · intro s hi hp
              simp only [zaJ]
              have e : os.getD s default = os[s] := by rw [List.getD_eq_getElem?_getD, List.getElem?_eq_getElem hi, Option.getD_some]
              generalize ho' : os.getD s default = o at *
              refine M.o_t (decide_eq_true (by omega)) (M.o_grdD (by omega) (M.o_bindE (out_ends _ _ _) ?_))
              have hfo := List.all_eq_true.1 gf os[s] (List.getElem_mem hi)
              rw [← e] at hfo
              have hfo : (o.passed.length : Int) <= 10 := of_decide_eq_true hfo
              have hd := unl_ends o.passed o.src o.dst (by omega)
              have hq : Bk.oB f l o = ((((decide (f <= o.src) && decide (o.src <= l)) && (decide (f <= o.dst) && decide (o.dst <= l))) && (!(decide (o.dst < o.src)))) && (decide (1 <= o.stage) && decide (o.stage <= 2000)) && decide (Bk.Rin o.passed o.src o.dst)) := by
                unfold Bk.oB
                refine congrArg (fun z => z && decide (Bk.Rin o.passed o.src o.dst)) ?_
                rw [Bool.eq_iff_iff]
                simp only [Bool.and_eq_true, Bool.not_eq_true', decide_eq_true_eq, decide_eq_false_iff_not]
                omega
              have b1 := out_ends o.dst f l
              have c1 := out_ends o.stage 1 2000
              generalize (decide (f <= o.src) && decide (o.src <= l)) = A at *
              generalize (decide (f <= o.dst) && decide (o.dst <= l)) = B at *
              generalize (decide (1 <= o.stage) && decide (o.stage <= 2000)) = C at *
              generalize (decide (o.dst < o.src)) = D at *
              generalize (decide (Bk.Rin o.passed o.src o.dst)) = E at *
              refine M.o_bindE (a := A && !B) (M.i_opt (fun h => by rw [Bool.not_not] at h; rw [h]; exact b1) (fun h => by rw [Bool.not_not] at h; rw [h]; rfl)) ?_
              refine M.o_bindE (a := (!((!A || (A && !B)) || D)) && !C) (M.i_opt (fun h => by rw [h]; exact c1) (fun h => by rw [h]; rfl)) ?_
              refine M.o_bindE (a := (!(((!A || (A && !B)) || D) || ((!((!A || (A && !B)) || D)) && !C))) && !E) (M.i_opt (fun h => by rw [h]; exact hd) (fun h => by rw [h]; rfl)) ?_
              have hz : ((((!A || (A && !B)) || D) || ((!((!A || (A && !B)) || D)) && !C)) || ((!(((!A || (A && !B)) || D) || ((!((!A || (A && !B)) || D)) && !C))) && !E)) = !(Bk.oB f l o) := by
                rw [hq]
                cases A <;> cases B <;> cases C <;> cases D <;> cases E <;> rfl
              rw [hz]
              refine M.o_if (fun hb => ?_) (fun hb => ?_)
              · refine M.o_pure ?_
                rw [List.all_eq_false]
                exact ⟨os[s], List.getElem_mem hi, by rw [← e]; simpa using hb⟩
              · exact M.o_pure ⟨rfl, by simpa using hb⟩
            · intro hp
              simp only [zaJ]
              refine M.o_f (by simp) (M.o_pure ?_)
              rw [List.all_eq_true]
              intro x hx
              obtain ⟨i, hi, rfl⟩ := List.getElem_of_mem hx
              have := hp i hi
              rwa [List.getD_eq_getElem?_getD, List.getElem?_eq_getElem hi, Option.getD_some] at this
          obtain ⟨z, g3, g4⟩ := out2
          refine M.i_bind g3 ?_
          cases z with
          | inl u =>
            dsimp only at g4 ⊢
            rw [if_pos g4]; exact M.i_pure
          | inr u =>
            dsimp only at g4 ⊢
            rw [if_neg (by rw [g4]; simp)]; exact M.i_pure
end Go.Proofs.Ytcgalcbkkijkhaa
namespace Go.Nm
theorem lookM_map {κ ν : Type} [DecidableEq κ] (g : κ -> ν -> ν) : ∀ (m : List (κ × ν)) (k : κ), lookM (m.map fun p => (p.1, g p.1 p.2)) k = (lookM m k).map (g k)
  | [], k => rfl
  | p :: m, k => by
    rw [List.map_cons]
    unfold lookM
    by_cases h : p.1 = k
    · rw [if_pos h, if_pos h, h]; rfl
    · rw [if_neg h, if_neg h, lookM_map g m k]
namespace Bk
/-- The first year that can have none. -/
def First (ys : List Yr) (os : List Old10) (f l y : Int) : Prop := f <= y /\ y <= l /\ (kn ys os y).hi < (kn ys os y).lo /\ ∀ z, f <= z -> z < y -> (kn ys os z).lo <= (kn ys os z).hi
def Fine (ys : List Yr) (os : List Old10) (f l : Int) : Prop := ∀ z, f <= z -> z <= l -> (kn ys os z).lo <= (kn ys os z).hi
theorem First.uniq {ys : List Yr} {os : List Old10} {f l y z : Int} (h : First ys os f l y) (k : First ys os f l z) : y = z := by
  obtain ⟨h1, h2, h3, h4⟩ := h
  obtain ⟨k1, k2, k3, k4⟩ := k
  rcases Int.lt_trichotomy y z with e | e | e
  · have := k4 y h1 e; omega
  · exact e
  · have := h4 z k1 e; omega
theorem First.bad {ys : List Yr} {os : List Old10} {f l y : Int} (h : First ys os f l y) (k : Fine ys os f l) : False := by
  obtain ⟨h1, h2, h3, h4⟩ := h
  have := k y h1 h2
  omega
theorem rec_take {ys : List Yr} (hu : ys.Pairwise fun a b => a.year < b.year) {s : Nat} (hs : s < ys.length) (y : Int) : rec (ys.take (s + 1)) y = if y = (ys.getD s default).year then ⟨(ys.getD s default).lo, (ys.getD s default).hi⟩ else rec (ys.take s) y := by
  have e : ys.getD s default = ys[s] := by rw [List.getD_eq_getElem?_getD, List.getElem?_eq_getElem hs, Option.getD_some]
  rw [e]
  unfold rec
  rw [← List.take_append_getElem hs, List.find?_append]
  by_cases hy : y = ys[s].year
  · rw [if_pos hy]
    have : (ys.take s).find? (fun r => r.year == y) = none := by
      rw [List.find?_eq_none]
      intro r hr
      obtain ⟨i, hi, rfl⟩ := List.getElem_of_mem hr
      rw [List.length_take] at hi
      rw [List.getElem_take]
      have := List.pairwise_iff_getElem.1 hu i s (by omega) hs (by omega)
      rw [beq_iff_eq]
      omega
    rw [this]
    simp [hy]
  · rw [if_neg hy]
    have : (ys[s].year == y) = false := by rw [beq_eq_false_iff_ne]; exact fun h => hy h.symm
    simp only [List.find?_cons, this, List.find?_nil, Option.or_none]
end Bk
end Go.Nm
namespace Go.Proofs.Ytcgalcbkkijkhaa
open Go Go.Nm
variable {ys : List Yr} {os : List Old10} {f l : Int}
theorem index_in (s : List Int) (v : Int) : (zbL s v).Out (fun r => decide (0 <= r) = s.contains v) := by
  unfold zbL
  refine M.o_bind (P := fun y => match y with | .inl i => 0 <= i /\ s.contains v = true | .inr (_ : Unit) => s.contains v = false) ?_ ?_
  · refine M.o_scan s.length (fun k => s.getD k 0 ≠ v) ?_ ?_
    · intro k hk hp
      simp only [zbq]
      have e : s.getD k 0 = s[k] := by rw [List.getD_eq_getElem?_getD, List.getElem?_eq_getElem hk, Option.getD_some]
      refine M.o_t (decide_eq_true (by omega)) (M.o_grdD (by omega) (M.o_if (fun hb => ?_) (fun hb => ?_)))
      · refine M.o_pure ⟨by omega, ?_⟩
        rw [List.contains_iff_mem, (beq_iff_eq.1 hb), e]
        exact List.getElem_mem hk
      · exact M.o_pure ⟨rfl, fun h => (beq_eq_false_iff_ne.1 hb) h.symm⟩
    · intro hp
      simp only [zbq]
      refine M.o_f (by simp) (M.o_pure ?_)
      rw [← Bool.not_eq_true, List.contains_iff_mem]
      intro hx
      obtain ⟨i, hi, e⟩ := List.getElem_of_mem hx
      have := hp i hi
      rw [List.getD_eq_getElem?_getD, List.getElem?_eq_getElem hi, Option.getD_some] at this
      exact this e
  · intro y hy
    cases y with
    | inl i => exact M.o_pure (by rw [hy.2]; exact decide_eq_true hy.1)
    | inr u => exact M.o_pure (by rw [hy]; decide)
theorem contains_ends (s : List Int) (v : Int) : (zbF s v).Ends (s.contains v) := by
  unfold zbF
  obtain ⟨r, h1, h2⟩ := index_in s v
  exact M.i_bind h1 (by rw [h2]; exact M.i_pure)
theorem told_ends (h : Bk.OkO f l os) (ky : Int) (vl : Span) : (zbc os ky vl).Ends (os.foldl (Bk.told ky) vl) := by
  refine M.Out.ends ?_
  unfold zbc
  refine M.o_bind (P := fun y => (⟨y.1, y.2⟩ : Span) = os.foldl (Bk.told ky) vl) ?_ (fun y e => M.o_pure e)
  refine M.o_for os.length (fun i (s : Nat × Int × Int) => s.1 = i /\ (⟨s.2.1, s.2.2⟩ : Span) = (os.take i).foldl (Bk.told ky) vl) ?_ ?_ ⟨rfl, rfl⟩
  · rintro i ⟨s, a, b⟩ hi ⟨e1, e2⟩
    dsimp only at e1 e2
    subst e1
    simp only [zbf]
    have e : os.getD s default = os[s] := by rw [List.getD_eq_getElem?_getD, List.getElem?_eq_getElem hi, Option.getD_some]
    have ho := h.in_ os[s] (List.getElem_mem hi)
    have et : (os.take (s + 1)).foldl (Bk.told ky) vl = Bk.told ky ⟨a, b⟩ os[s] := by
      rw [← List.take_append_getElem hi, List.foldl_append, ← e2]; rfl
    rw [e]
    refine M.o_t (decide_eq_true (by omega)) (M.o_grdD (by omega) (M.o_bindE (in_ends _ _ _) (M.o_if (fun hb => ?_) (fun hb => ?_))))
    · rw [Bool.not_eq_true', Bool.and_eq_false_iff, decide_eq_false_iff_not, decide_eq_false_iff_not] at hb
      refine M.o_pure ⟨rfl, ?_⟩
      rw [et, Bk.told, if_neg (by omega)]
    · rw [Bool.not_eq_false', Bool.and_eq_true, decide_eq_true_eq, decide_eq_true_eq] at hb
      refine M.o_bindE (contains_ends _ _) (M.o_if (fun hc => ?_) (fun hc => ?_))
      · refine M.o_pure ⟨rfl, ?_⟩
        rw [et, Bk.told, if_pos hb, if_pos hc]
      · refine M.o_grd (gA2 (by omega) (by omega)) (M.o_pure ⟨rfl, ?_⟩)
        rw [et, Bk.told, if_pos hb, if_neg (by rw [hc]; simp)]
  · rintro ⟨s, a, b⟩ ⟨e1, e2⟩
    dsimp only at e1 e2
    subst e1
    simp only [zbf]
    rw [List.take_length] at e2
    exact M.o_f (by simp) (M.o_pure e2)
/-- What a book at work knows of its years. -/
def Knows (ys : List Yr) (os : List Old10) (f l : Int) (m : List (Int × Span)) : Prop := ∀ y, f <= y -> y <= l -> (lookM m y).getD default = Bk.kn ys os y
theorem opened_bad (hy : ys.length <= 1000000) (ho : os.length <= 1000000) (h : Bk.chkB ys os f l ≠ 0) : (zax ys os f l).Ends (.inl (Bk.chkB ys os f l)) := by
  unfold zax
  exact M.i_bind (check_ends ys os f l hy ho) (M.i_t (bne_iff_ne.2 h) M.i_pure)
theorem opened_ok (hy : ys.length <= 1000000) (ho : os.length <= 1000000) (h0 : Bk.chkB ys os f l = 0) : ∃ m, (zax ys os f l).Ends (.inr (f, l, m, 0)) /\ Knows ys os f l m := by
  have h := Bk.chk_ok h0
  have hf0 := h.f0
  have hfl := h.fl
  have hl3 := h.l3
  obtain ⟨m1, g1, k1⟩ : (M.iter (zav l) (([] : List (Int × Span)), f)).Out (fun m => ∀ y, f <= y -> y <= l -> lookM m y = some ⟨0, 2000⟩) := by
    refine M.o_for (Int.toNat (l + 1 - f)) (fun i (s : List (Int × Span) × Int) => s.2 = f + i /\ ∀ y, f <= y -> y < f + i -> lookM s.1 y = some ⟨0, 2000⟩) ?_ ?_ ⟨by simp, fun y h1 h2 => by simp at h2; omega⟩
    · rintro i ⟨m, y⟩ hi ⟨e1, e2⟩
      dsimp only at e1 e2
      subst e1
      simp only [zav]
      refine M.o_t (decide_eq_true (by omega)) (M.o_grd (gA2 (by omega) (by omega)) (M.o_pure ⟨by dsimp only; omega, fun z h1 h2 => ?_⟩))
      rw [lookM_set]
      split
      · rfl
      · exact e2 z h1 (by omega)
    · rintro ⟨m, y⟩ ⟨e1, e2⟩
      dsimp only at e1 e2
      subst e1
      simp only [zav]
      exact M.o_f (decide_eq_false (by omega)) (M.o_pure fun z h1 h2 => e2 z h1 (by omega))
  obtain ⟨m2, g2, k2⟩ : (M.iter (zaz ys) (m1, 0)).Out (fun m => ∀ y, f <= y -> y <= l -> lookM m y = some (Bk.rec ys y)) := by
    refine M.o_for ys.length (fun i (s : List (Int × Span) × Nat) => s.2 = i /\ ∀ y, f <= y -> y <= l -> lookM s.1 y = some (Bk.rec (ys.take i) y)) ?_ ?_ ⟨rfl, k1⟩
    · rintro i ⟨m, s⟩ hi ⟨e1, e2⟩
      dsimp only at e1 e2
      subst e1
      simp only [zaz]
      have e : ys.getD s default = ys[s] := by rw [List.getD_eq_getElem?_getD, List.getElem?_eq_getElem hi, Option.getD_some]
      have hr := h.y.in_ ys[s] (List.getElem_mem hi)
      rw [← e] at hr
      have et := Bk.rec_take h.y.up hi
      refine M.o_t (decide_eq_true (by omega)) (M.o_grdD (by omega) (M.o_if (fun hb => ?_) (fun hb => ?_)))
      · refine M.o_pure ⟨rfl, fun y h1 h2 => ?_⟩
        rw [lookM_set, et]
        split
        · rfl
        · exact e2 y h1 h2
      · rw [Bool.not_eq_false', decide_eq_true_eq] at hb
        refine M.o_pure ⟨rfl, fun y h1 h2 => ?_⟩
        rw [et]
        split
        · rename_i hy'
          have k := e2 _ hr.1 hr.2.1
          rw [k] at hb
          rw [hy', k]
          have h5 : (ys.getD s default).lo = (Bk.rec (ys.take s) (ys.getD s default).year).lo := congrArg Yr.lo hb
          have h6 : (ys.getD s default).hi = (Bk.rec (ys.take s) (ys.getD s default).year).hi := congrArg Yr.hi hb
          refine congrArg some ?_
          rw [h5, h6]
        · exact e2 y h1 h2
    · rintro ⟨m, s⟩ ⟨e1, e2⟩
      dsimp only at e1 e2
      subst e1
      simp only [zaz]
      rw [List.take_length] at e2
      exact M.o_f (by simp) (M.o_pure e2)
  have g3 := M.mapL_ends (body := zbc os) (g := fun ky vl => os.foldl (Bk.told ky) vl) (m := m2) (fun p _ => told_ends h.o p.1 p.2)
  refine ⟨m2.map fun p => (p.1, os.foldl (Bk.told p.1) p.2), ?_, fun y h1 h2 => ?_⟩
  · unfold zax
    refine M.i_bind (check_ends ys os f l hy ho) ?_
    rw [h0]
    exact M.i_f rfl (M.i_bind g1 (M.i_bind g2 (M.i_bind g3 M.i_pure)))
  · have e := lookM_map (fun ky vl => os.foldl (Bk.told ky) vl) m2 y
    rw [e, k2 y h1 h2]
    rfl
/-- A round over the years of a book at work. -/
theorem years_out {S X : Type} {bd : S -> Int × Span -> M (S ⊕ X)} {Q : S ⊕ X -> Prop} {m : List (Int × Span)} {a b c d : Int} {s0 : S} (hd : d <= 3000) (ha : 0 <= a) (hab : a <= b + 1) (hb : b <= d) (hc : c <= a) (hm : Knows ys os c d m) (J : Int -> S -> Prop) (h0 : J a s0)
    (hr : ∀ y s, a <= y -> y <= b -> J y s -> (bd s (y, Bk.kn ys os y)).Out (fun x => match x with | .inl s' => J (y + 1) s' | .inr x => Q (.inr x))) (hl : ∀ s, J (b + 1) s -> Q (.inl s)) (yw : List Yr) (ow : List Old10) (cw dw : Int) :
    (zag (M.yl bd) (.inl s0) a b yw ow cw dw m).Out Q := by
  unfold zag
  refine M.o_bind (P := fun y => match y with | .inl t => Q t | .inr t => Q t) ?_ (fun y hy => by cases y with | inl t => exact M.o_pure hy | inr t => exact M.o_pure hy)
  refine M.o_for (Int.toNat (b + 1 - a)) (fun i (s : Int × (S ⊕ X)) => s.1 = a + i /\ ∃ s', s.2 = .inl s' /\ J (a + i) s') ?_ ?_ ⟨by simp, s0, rfl, by simpa using h0⟩
  · rintro i ⟨y, t⟩ hi ⟨e1, s', e2, hj⟩
    dsimp only at e1 e2
    subst e1 e2
    simp only [zaO]
    rw [hm (a + i) (by omega) (by omega)]
    refine M.o_t (decide_eq_true (by omega)) ?_
    obtain ⟨x, g1, g2⟩ := hr (a + i) s' (by omega) (by omega) hj
    cases x with
    | inl s2 =>
      refine M.o_bindE (a := (true, .inl s2)) (M.i_bind g1 M.i_pure) (M.o_f rfl (M.o_grd (gA2 (by omega) (by omega)) (M.o_pure ⟨by dsimp only; omega, s2, rfl, ?_⟩)))
      dsimp only at g2
      rw [show a + ((i + 1 : Nat) : Int) = a + i + 1 by omega]
      exact g2
    | inr x2 => exact M.o_bindE (a := (false, .inr x2)) (M.i_bind g1 M.i_pure) (M.o_t rfl (M.o_pure g2))
  · rintro ⟨y, t⟩ ⟨e1, s', e2, hj⟩
    dsimp only at e1 e2
    subst e1 e2
    simp only [zaO]
    refine M.o_f (decide_eq_false (by omega)) (M.o_pure ?_)
    refine hl s' ?_
    rwa [show a + (Int.toNat (b + 1 - a) : Int) = b + 1 by omega] at hj
theorem clash_out (h : Bk.Ok ys os f l) {m : List (Int × Span)} (hm : Knows ys os f l m) : (za9 ys os f l m).Out (fun r => (r = (0, false) /\ Bk.Fine ys os f l) ∨ (r.2 = true /\ Bk.First ys os f l r.1)) := by
  have hf0 := h.f0
  have hfl := h.fl
  have hl3 := h.l3
  unfold za9 zad
  refine M.o_bindE M.i_pure (M.o_bind (P := fun x => match x with | .inl (_ : Unit) => Bk.Fine ys os f l | .inr y => Bk.First ys os f l y) ?_ ?_)
  · refine years_out hl3 hf0 (by omega) (Int.le_refl _) (Int.le_refl _) hm (fun y _ => ∀ z, f <= z -> z < y -> (Bk.kn ys os z).lo <= (Bk.kn ys os z).hi) (fun z h1 h2 => by omega) ?_ ?_ _ _ _ _
    · intro y s h1 h2 hj
      simp only [zaj]
      refine M.o_if (fun hb => ?_) (fun hb => ?_)
      · exact M.o_pure ⟨h1, h2, of_decide_eq_true hb, hj⟩
      · have := of_decide_eq_false hb
        refine M.o_pure fun z h3 h4 => ?_
        by_cases e : z = y
        · subst e; omega
        · exact hj z h3 (by omega)
    · intro s hj z h1 h2
      exact hj z h1 (by omega)
  · intro y hy
    cases y with
    | inl u => exact M.o_pure (.inl ⟨rfl, hy⟩)
    | inr y => exact M.o_pure (.inr ⟨rfl, hy⟩)
end Go.Proofs.Ytcgalcbkkijkhaa
namespace Go.Nm
namespace Bk
/-- What the reference says of a year. -/
def sp (ys : List Yr) (os : List Old10) (y : Int) : Int × Int := if (kn ys os y).lo <= (kn ys os y).hi then ((kn ys os y).lo, (kn ys os y).hi) else (1, 0)
/-- The first year without a truth, or the error. -/
def ClE (ys : List Yr) (os : List Old10) (f l : Int) (r : Int × Int) : Prop := (chkB ys os f l ≠ 0 /\ r = (0, chkB ys os f l)) ∨ (chkB ys os f l = 0 /\ Fine ys os f l /\ r = (0, 5)) ∨ (chkB ys os f l = 0 /\ First ys os f l r.1 /\ r.2 = 0)
theorem ClE.uniq {ys : List Yr} {os : List Old10} {f l : Int} {r s : Int × Int} (h : ClE ys os f l r) (k : ClE ys os f l s) : r = s := by
  rcases h with ⟨h1, rfl⟩ | ⟨h1, h2, rfl⟩ | ⟨h1, h2, h3⟩
  · rcases k with ⟨k1, rfl⟩ | ⟨k1, _⟩ | ⟨k1, _⟩
    · rfl
    · exact absurd k1 h1
    · exact absurd k1 h1
  · rcases k with ⟨k1, rfl⟩ | ⟨k1, k2, rfl⟩ | ⟨k1, k2, k3⟩
    · exact absurd h1 k1
    · rfl
    · exact (k2.bad h2).elim
  · rcases k with ⟨k1, rfl⟩ | ⟨k1, k2, rfl⟩ | ⟨k1, k2, k3⟩
    · exact absurd h1 k1
    · exact (h2.bad k2).elim
    · exact Prod.ext (h2.uniq k2) (by rw [h3, k3])
/-- The highest stages of a year, or the error. -/
def HiE (ys : List Yr) (os : List Old10) (f l y : Int) (r : Int × Int × Int) : Prop := (chkB ys os f l ≠ 0 /\ r = (0, 0, chkB ys os f l)) ∨ (chkB ys os f l = 0 /\ ¬ (f <= y /\ y <= l) /\ r = (0, 0, 2)) ∨ (chkB ys os f l = 0 /\ (f <= y /\ y <= l) /\ ¬ Fine ys os f l /\ r = (0, 0, 6)) ∨
  (chkB ys os f l = 0 /\ (f <= y /\ y <= l) /\ Fine ys os f l /\ r = ((kn ys os y).lo, (kn ys os y).hi, 0))
theorem HiE.uniq {ys : List Yr} {os : List Old10} {f l y : Int} {r s : Int × Int × Int} (h : HiE ys os f l y r) (k : HiE ys os f l y s) : r = s := by
  rcases h with ⟨h1, rfl⟩ | ⟨h1, h2, rfl⟩ | ⟨h1, h2, h3, rfl⟩ | ⟨h1, h2, h3, rfl⟩ <;> rcases k with ⟨k1, rfl⟩ | ⟨k1, k2, rfl⟩ | ⟨k1, k2, k3, rfl⟩ | ⟨k1, k2, k3, rfl⟩ <;> first | rfl | contradiction
/-- A truth that can be. -/
def Can (ys : List Yr) (os : List Old10) (f : Int) (st : List Int) : Prop := ∀ i, i < st.length -> (kn ys os (f + i)).lo <= st.getD i 0 /\ st.getD i 0 <= (kn ys os (f + i)).hi
def All2 (st : List Int) : Prop := ∀ i, i < st.length -> 0 <= st.getD i 0 /\ st.getD i 0 <= 2000
def HoE (ys : List Yr) (os : List Old10) (f l : Int) (st : List Int) (r : Bool × Int) : Prop := (chkB ys os f l ≠ 0 /\ r = (false, chkB ys os f l)) ∨ (chkB ys os f l = 0 /\ (st.length : Int) ≠ l - f + 1 /\ r = (false, 2)) ∨ (chkB ys os f l = 0 /\ (st.length : Int) = l - f + 1 /\ ¬ All2 st /\ r = (false, 4)) ∨
  (chkB ys os f l = 0 /\ (st.length : Int) = l - f + 1 /\ All2 st /\ ¬ Can ys os f st /\ r = (false, 0)) ∨ (chkB ys os f l = 0 /\ (st.length : Int) = l - f + 1 /\ All2 st /\ Can ys os f st /\ r = (true, 0))
theorem HoE.uniq {ys : List Yr} {os : List Old10} {f l : Int} {st : List Int} {r s : Bool × Int} (h : HoE ys os f l st r) (k : HoE ys os f l st s) : r = s := by
  rcases h with ⟨h1, rfl⟩ | ⟨h1, h2, rfl⟩ | ⟨h1, h2, h3, rfl⟩ | ⟨h1, h2, h3, h4, rfl⟩ | ⟨h1, h2, h3, h4, rfl⟩ <;> rcases k with ⟨k1, rfl⟩ | ⟨k1, k2, rfl⟩ | ⟨k1, k2, k3, rfl⟩ | ⟨k1, k2, k3, k4, rfl⟩ | ⟨k1, k2, k3, k4, rfl⟩ <;> first | rfl | contradiction
end Bk
end Go.Nm
namespace Go.Proofs.Ytcgalcbkkijkhaa
open Go Go.Nm
variable {ys : List Yr} {os : List Old10} {f l : Int}
theorem said_ends (os : List Old10) (y : Int) (i : Nat) : (M.iter (zaA os y i) (false, 0)).Ends ((os.getD i default).passed.contains y) := by
  refine M.Out.ends ?_
  refine M.o_for (os.getD i default).passed.length (fun k (s : Bool × Nat) => s.2 = k /\ s.1 = ((os.getD i default).passed.take k).contains y) ?_ ?_ ⟨rfl, rfl⟩
  · rintro k ⟨b, s⟩ hk ⟨e1, e2⟩
    dsimp only at e1 e2
    subst e1 e2
    simp only [zaA]
    refine M.o_t (decide_eq_true (by omega)) (M.o_grd (by rw [Bool.or_eq_true]; exact .inr (decide_eq_true (by omega))) (M.o_pure ⟨rfl, ?_⟩))
    dsimp only
    have eg : (os.getD i default).passed.getD s 0 = (os.getD i default).passed[s] := by rw [List.getD_eq_getElem?_getD, List.getElem?_eq_getElem hk, Option.getD_some]
    rw [eg, ← List.take_append_getElem hk, List.contains_eq_any_beq, List.contains_eq_any_beq, List.any_append]
    simp only [List.any_cons, List.any_nil, Bool.or_false]
    rw [Bool.beq_comm (a := y)]
  · rintro ⟨b, s⟩ ⟨e1, e2⟩
    dsimp only at e1 e2
    subst e1 e2
    simp only [zaA]
    exact M.o_f (by simp) (M.o_pure (by rw [List.take_length]))
theorem can_ends (ys : List Yr) (os : List Old10) (f l y x : Int) : (za7 ys os f l y x).Ends (Bk.can ys os y x) := by
  refine M.Out.ends ?_
  unfold za7 Bk.can
  refine M.o_bind (P := fun z => match z with | .inl (_ : Unit) => (ys.all fun r => !(r.year == y && (decide (x < r.lo) || decide (x > r.hi)))) = false | .inr (_ : Unit) => (ys.all fun r => !(r.year == y && (decide (x < r.lo) || decide (x > r.hi)))) = true) ?_ ?_
  · refine M.o_scan ys.length (fun k => (!((ys.getD k default).year == y && (decide (x < (ys.getD k default).lo) || decide (x > (ys.getD k default).hi)))) = true) ?_ ?_
    · intro s hi hp
      simp only [zaX]
      have e : ys.getD s default = ys[s] := by rw [List.getD_eq_getElem?_getD, List.getElem?_eq_getElem hi, Option.getD_some]
      have e2 : (!(decide ((ys.getD s default).lo <= x) && decide (x <= (ys.getD s default).hi))) = (decide (x < (ys.getD s default).lo) || decide (x > (ys.getD s default).hi)) := by
        rw [Bool.eq_iff_iff]
        simp only [Bool.or_eq_true, Bool.not_eq_true', Bool.and_eq_false_iff, decide_eq_true_eq, decide_eq_false_iff_not]
        omega
      have k := out_ends x (ys.getD s default).lo (ys.getD s default).hi
      rw [e2] at k
      refine M.o_t (decide_eq_true (by omega)) (M.o_grdD (by omega) (M.o_bindE (a := ((ys.getD s default).year == y) && (decide (x < (ys.getD s default).lo) || decide (x > (ys.getD s default).hi))) (M.i_opt (fun h => by rw [h]; exact k) (fun h => by rw [h]; rfl)) ?_))
      generalize hA : ((ys.getD s default).year == y) = A
      generalize hB : (decide (x < (ys.getD s default).lo) || decide (x > (ys.getD s default).hi)) = B
      refine M.o_if (fun hb => ?_) (fun hb => ?_)
      · refine M.o_pure ?_
        rw [List.all_eq_false]
        refine ⟨ys[s], List.getElem_mem hi, ?_⟩
        rw [← e, hA, hB]
        cases A <;> cases B <;> simp at hb ⊢
      · exact M.o_pure ⟨rfl, by cases A <;> cases B <;> simp at hb ⊢⟩
    · intro hp
      simp only [zaX]
      refine M.o_f (by simp) (M.o_pure ?_)
      rw [List.all_eq_true]
      intro r hr
      obtain ⟨i, hi, rfl⟩ := List.getElem_of_mem hr
      have := hp i hi
      rwa [List.getD_eq_getElem?_getD, List.getElem?_eq_getElem hi, Option.getD_some] at this
  · intro z hz
    cases z with
    | inl u => exact M.o_pure (by dsimp only at hz; rw [hz]; rfl)
    | inr u =>
      dsimp only at hz ⊢
      rw [hz, Bool.true_and]
      refine M.o_bind (P := fun z => match z with | .inl (_ : Unit) => (os.all fun o => !(decide (o.src <= y) && decide (y <= o.dst)) || (o.passed.contains y == decide (o.stage <= x))) = false | .inr (_ : Unit) => (os.all fun o => !(decide (o.src <= y) && decide (y <= o.dst)) || (o.passed.contains y == decide (o.stage <= x))) = true) ?_ ?_
      · refine M.o_scan os.length (fun k => (!(decide ((os.getD k default).src <= y) && decide (y <= (os.getD k default).dst)) || ((os.getD k default).passed.contains y == decide ((os.getD k default).stage <= x))) = true) ?_ ?_
        · intro s hi hp
          simp only [zbd]
          have e : os.getD s default = os[s] := by rw [List.getD_eq_getElem?_getD, List.getElem?_eq_getElem hi, Option.getD_some]
          refine M.o_t (decide_eq_true (by omega)) (M.o_grdD (by omega) (M.o_bindE (out_ends _ _ _) (M.o_if (fun hb => ?_) (fun hb => ?_))))
          · exact M.o_pure ⟨rfl, by rw [hb]; rfl⟩
          · refine M.o_bindE (said_ends os y s) (M.o_if (fun hc => ?_) (fun hc => ?_))
            · refine M.o_pure ?_
              rw [List.all_eq_false]
              refine ⟨os[s], List.getElem_mem hi, ?_⟩
              rw [← e, hb, Bool.false_or]
              intro h
              rw [beq_iff_eq.1 h] at hc
              simp at hc
            · refine M.o_pure ⟨rfl, ?_⟩
              rw [hb, Bool.false_or]
              simpa using hc
        · intro hp
          simp only [zbd]
          refine M.o_f (by simp) (M.o_pure ?_)
          rw [List.all_eq_true]
          intro r hr
          obtain ⟨i, hi, rfl⟩ := List.getElem_of_mem hr
          have := hp i hi
          rwa [List.getD_eq_getElem?_getD, List.getElem?_eq_getElem hi, Option.getD_some] at this
      · intro z hz
        cases z with
        | inl u => exact M.o_pure (by dsimp only at hz; rw [hz])
        | inr u => exact M.o_pure (by dsimp only at hz; rw [hz])
theorem span_ends (h : Bk.OkY f l ys) (k : Bk.OkO f l os) (y : Int) : (zaC ys os f l y).Ends (Bk.sp ys os y) := by
  refine M.Out.ends ?_
  unfold zaC
  have hk := Bk.kn_in h k y
  have hcan := fun x => can_ends ys os f l y x
  have hiff := fun (x : Int) (h0 : 0 <= x) (h1 : x <= 2000) => Bk.can_iff (os := os) (y := y) h h0 h1
  unfold Bk.sp
  generalize Bk.kn ys os y = K at *
  refine M.o_bind (P := fun z => z = if K.lo <= K.hi then (K.lo, K.hi) else (1, 0)) ?_ (fun z e => M.o_pure e)
  refine M.o_for 2001 (fun i (s : Int × Bool × Nat × Int) => s.2.2.1 = i /\ ((s.2.1 = false /\ s.1 = 1 /\ s.2.2.2 = 0 /\ (K.lo <= K.hi -> (i : Int) <= K.lo)) ∨ (s.2.1 = true /\ K.lo <= K.hi /\ s.1 = K.lo /\ K.lo < i /\ s.2.2.2 = min ((i : Int) - 1) K.hi))) ?_ ?_ ⟨rfl, .inl ⟨rfl, rfl, rfl, fun _ => hk.1⟩⟩
  · rintro i ⟨s, s2, st, s3⟩ hi ⟨e1, hj⟩
    dsimp only at e1 hj
    subst e1
    simp only [zaU]
    have hx := hiff st (by omega) (by omega)
    refine M.o_t (decide_eq_true (by omega)) (M.o_bindE (hcan _) (M.o_if (fun hb => ?_) (fun hb => ?_)))
    · have hx := hx.1 hb
      rcases hj with ⟨rfl, rfl, rfl, e5⟩ | ⟨rfl, e3, rfl, e4, rfl⟩
      · have := e5 (by omega)
        exact M.o_t rfl (M.o_grd (gA2 (by omega) (by omega)) (M.o_pure ⟨rfl, .inr ⟨rfl, by omega, by first | omega | (dsimp only; omega), by first | omega | (dsimp only; omega), by first | omega | (dsimp only; omega)⟩⟩))
      · exact M.o_f rfl (M.o_grd (gA2 (by omega) (by omega)) (M.o_pure ⟨rfl, .inr ⟨rfl, by omega, rfl, by omega, by first | omega | (dsimp only; omega)⟩⟩))
    · have hx : ¬ (K.lo <= st /\ st <= K.hi) := fun hh => by rw [hx.2 hh] at hb; cases hb
      refine M.o_grd (gA2 (by omega) (by omega)) (M.o_pure ⟨rfl, ?_⟩)
      dsimp only
      rcases hj with ⟨rfl, rfl, rfl, e5⟩ | ⟨rfl, e3, rfl, e4, rfl⟩
      · exact .inl ⟨rfl, rfl, rfl, fun hh => by have := e5 hh; omega⟩
      · exact .inr ⟨rfl, e3, rfl, by omega, by omega⟩
  · rintro ⟨s, s2, st, s3⟩ ⟨e1, hj⟩
    dsimp only at e1 hj
    subst e1
    simp only [zaU]
    refine M.o_f (by simp) (M.o_pure ?_)
    rcases hj with ⟨rfl, rfl, rfl, e5⟩ | ⟨rfl, e3, rfl, e4, rfl⟩
    · rw [if_neg (fun hh => by have := e5 hh; omega)]
    · rw [if_pos e3, show min (((2001 : Nat) : Int) - 1) K.hi = K.hi by omega]
theorem ref_clash (hy : ys.length <= 1000000) (ho : os.length <= 1000000) : (zbH ys os f l).Out (Bk.ClE ys os f l) := by
  unfold zbH
  refine M.o_bindE (ref_check ys os f l hy ho) (M.o_if (fun hb => ?_) (fun hb => ?_))
  · exact M.o_pure (.inl ⟨bne_iff_ne.1 hb, rfl⟩)
  · have h0 : Bk.chkB ys os f l = 0 := by simpa using hb
    have h := Bk.chk_ok h0
    have hf0 := h.f0
    have hfl := h.fl
    have hl3 := h.l3
    refine M.o_bind (P := fun z => match z with | .inl y => Bk.First ys os f l y | .inr (_ : Unit) => Bk.Fine ys os f l) ?_ ?_
    · refine M.o_for (Int.toNat (l + 1 - f)) (fun i (s : Int) => s = f + i /\ ∀ z, f <= z -> z < s -> (Bk.kn ys os z).lo <= (Bk.kn ys os z).hi) ?_ ?_ ⟨by simp, fun z h1 h2 => by omega⟩
      · rintro i s hi ⟨e1, hj⟩
        simp only [zaK]
        refine M.o_t (decide_eq_true (by omega)) (M.o_bindE (span_ends h.y h.o s) ?_)
        unfold Bk.sp
        by_cases hc : (Bk.kn ys os s).lo <= (Bk.kn ys os s).hi
        · rw [if_pos hc]
          refine M.o_f (decide_eq_false (by omega)) (M.o_grd (gA2 (by omega) (by omega)) (M.o_pure ⟨by omega, fun z h1 h2 => ?_⟩))
          by_cases e : z = s
          · subst e; exact hc
          · exact hj z h1 (by omega)
        · rw [if_neg hc]
          exact M.o_t (by decide) (M.o_pure ⟨by omega, by omega, by omega, hj⟩)
      · rintro s ⟨e1, hj⟩
        simp only [zaK]
        exact M.o_f (decide_eq_false (by omega)) (M.o_pure fun z h1 h2 => hj z h1 (by omega))
    · intro z hz
      cases z with
      | inl y => exact M.o_pure (.inr (.inr ⟨h0, hz, rfl⟩))
      | inr u => exact M.o_pure (.inr (.inl ⟨h0, hz, rfl⟩))
theorem ref_holds (hy : ys.length <= 1000000) (ho : os.length <= 1000000) (st : List Int) : (zbP ys os f l st).Out (Bk.HoE ys os f l st) := by
  unfold zbP
  refine M.o_bindE (ref_check ys os f l hy ho) (M.o_if (fun hb => ?_) (fun hb => ?_))
  · exact M.o_pure (.inl ⟨bne_iff_ne.1 hb, rfl⟩)
  · have h0 : Bk.chkB ys os f l = 0 := by simpa using hb
    have h := Bk.chk_ok h0
    have hf0 := h.f0
    have hfl := h.fl
    have hl3 := h.l3
    refine M.o_grd (gA2 (by omega) (by omega)) (M.o_grd (gA2 (by omega) (by omega)) (M.o_if (fun hl => ?_) (fun hl => ?_)))
    · exact M.o_pure (.inr (.inl ⟨h0, bne_iff_ne.1 hl, rfl⟩))
    · have hl : (st.length : Int) = l - f + 1 := by simpa using hl
      refine M.o_bind (P := fun z => match z with | .inl (_ : Unit) => ¬ Bk.All2 st | .inr (_ : Unit) => Bk.All2 st) ?_ ?_
      · refine M.o_scan st.length (fun k => 0 <= st.getD k 0 /\ st.getD k 0 <= 2000) ?_ ?_
        · intro s hi hp
          simp only [zaY]
          refine M.o_t (decide_eq_true (by omega)) (M.o_grdD (by omega) (M.o_bindE (out_ends _ _ _) (M.o_if (fun hb => ?_) (fun hb => ?_))))
          · rw [Bool.not_eq_true', Bool.and_eq_false_iff, decide_eq_false_iff_not, decide_eq_false_iff_not] at hb
            refine M.o_pure fun hA => ?_
            have := hA s hi
            omega
          · rw [Bool.not_eq_false', Bool.and_eq_true, decide_eq_true_eq, decide_eq_true_eq] at hb
            exact M.o_pure ⟨rfl, hb⟩
        · intro hp
          simp only [zaY]
          exact M.o_f (by simp) (M.o_pure hp)
      · intro z hz
        cases z with
        | inl u => exact M.o_pure (.inr (.inr (.inl ⟨h0, hl, hz, rfl⟩)))
        | inr u =>
          have hA : Bk.All2 st := hz
          refine M.o_bind (P := fun z => match z with | .inl (_ : Unit) => ¬ Bk.Can ys os f st | .inr (_ : Unit) => Bk.Can ys os f st) ?_ ?_
          · refine M.o_scan st.length (fun k => (Bk.kn ys os (f + k)).lo <= st.getD k 0 /\ st.getD k 0 <= (Bk.kn ys os (f + k)).hi) ?_ ?_
            · intro s hi hp
              simp only [zaS]
              have hx := Bk.can_iff (os := os) (y := f + s) h.y (hA s hi).1 (hA s hi).2
              refine M.o_t (decide_eq_true (by omega)) (M.o_grd (gA2 (by omega) (by omega)) (M.o_grdD (by omega) (M.o_bindE (can_ends _ _ _ _ _ _) (M.o_if (fun hb => ?_) (fun hb => ?_)))))
              · rw [Bool.not_eq_true'] at hb
                refine M.o_pure fun hC => ?_
                rw [hx.2 (hC s hi)] at hb
                cases hb
              · rw [Bool.not_eq_false'] at hb
                exact M.o_pure ⟨rfl, hx.1 hb⟩
            · intro hp
              simp only [zaS]
              exact M.o_f (by simp) (M.o_pure hp)
          · intro z hz
            cases z with
            | inl u => exact M.o_pure (.inr (.inr (.inr (.inl ⟨h0, hl, hA, hz, rfl⟩))))
            | inr u => exact M.o_pure (.inr (.inr (.inr (.inr ⟨h0, hl, hA, hz, rfl⟩))))
end Go.Proofs.Ytcgalcbkkijkhaa
namespace Go.Proofs.Ytcgalcbkkijkhaa
open Go Go.Nm
variable {ys : List Yr} {os : List Old10} {f l : Int}
/-- A book that is not too long to be looked at. -/
structure Short (ys : List Yr) (os : List Old10) : Prop where
  y : ys.length <= 65
  o : os.length <= 10
  p : ∀ o ∈ os, o.passed.length <= 12
theorem long_out (ys : List Yr) (os : List Old10) (f l : Int) : (zbJ ys os f l).Out (fun r => r = false -> Short ys os) := by
  unfold zbJ
  refine M.o_if (fun hb => M.o_pure (fun h => by cases h)) (fun hb => ?_)
  rw [Bool.or_eq_false_iff, Bool.or_eq_false_iff, decide_eq_false_iff_not, decide_eq_false_iff_not] at hb
  obtain ⟨⟨b1, b2⟩, _⟩ := hb
  refine M.o_bind (P := fun z => match z with | .inl (_ : Unit) => True | .inr (_ : Unit) => Short ys os) ?_ ?_
  · refine M.o_scan os.length (fun k => (os.getD k default).passed.length <= 12) ?_ ?_
    · intro s hi hp
      simp only [zaP]
      refine M.o_t (decide_eq_true (by omega)) (M.o_grdD (by omega) (M.o_if (fun hb => ?_) (fun hb => ?_)))
      · exact M.o_pure trivial
      · have := of_decide_eq_false hb
        exact M.o_pure ⟨rfl, by omega⟩
    · intro hp
      simp only [zaP]
      refine M.o_f (by simp) (M.o_pure ⟨by omega, by omega, fun o ho => ?_⟩)
      obtain ⟨i, hi, rfl⟩ := List.getElem_of_mem ho
      have := hp i hi
      rwa [List.getD_eq_getElem?_getD, List.getElem?_eq_getElem hi, Option.getD_some] at this
  · intro z hz
    cases z with
    | inl u => exact M.o_pure (fun h => by cases h)
    | inr u => exact M.o_pure (fun _ => hz)
theorem copy_yr (h : ys.length <= 1000000) : (zci ys).Ends ys := M.i_grd (decide_eq_true (by simp only [List.length_nil]; omega)) M.i_pure
theorem copyB_ends (h : Short ys os) : (zbz ys os f l).Ends (ys, os, f, l) := by
  have hy := h.y
  have ho := h.o
  unfold zbz
  refine M.i_bind (copy_yr (by omega)) (M.i_bind (a := (os, os)) ?_ M.i_pure)
  refine M.Out.ends ?_
  refine M.o_for os.length (fun i (s : Nat × List Old10) => s.1 = i /\ s.2 = os.take i) ?_ ?_ ⟨rfl, rfl⟩
  · rintro i ⟨s, q⟩ hi ⟨e1, e2⟩
    dsimp only at e1 e2
    subst e1
    subst e2
    simp only [zao]
    have e : os.getD s default = os[s] := by rw [List.getD_eq_getElem?_getD, List.getElem?_eq_getElem hi, Option.getD_some]
    have hp := h.p os[s] (List.getElem_mem hi)
    rw [← e] at hp
    exact M.o_t (decide_eq_true (by omega)) (M.o_grdD (by omega) (M.o_bindE (copy_int (by omega)) (M.o_grdD (by simp [List.length_take]; omega) (M.o_pure ⟨rfl, take_succ_D os s hi default⟩))))
  · rintro ⟨s, q⟩ ⟨e1, e2⟩
    dsimp only at e1 e2
    subst e1
    simp only [zao]
    exact M.o_f (by simp) (M.o_pure (by rw [e2, List.take_length]))
theorem bookB_ends (h : Short ys os) : (zbK ys os f l).Ends (ys, os, f, l) := by
  have hy := h.y
  have ho := h.o
  unfold zbK
  refine M.i_bind (a := (ys, ys)) ?_ (M.i_bind (a := (os, os)) ?_ M.i_pure)
  · refine M.Out.ends ?_
    refine M.o_for ys.length (fun i (s : Nat × List Yr) => s.1 = i /\ s.2 = ys.take i) ?_ ?_ ⟨rfl, rfl⟩
    · rintro i ⟨s, q⟩ hi ⟨e1, e2⟩
      dsimp only at e1 e2
      subst e1
      subst e2
      simp only [zaW]
      exact M.o_t (decide_eq_true (by omega)) (M.o_grdD (by omega) (M.o_grdD (by simp [List.length_take]; omega) (M.o_pure ⟨rfl, take_succ_D ys s hi default⟩)))
    · rintro ⟨s, q⟩ ⟨e1, e2⟩
      dsimp only at e1 e2
      subst e1
      simp only [zaW]
      exact M.o_f (by simp) (M.o_pure (by rw [e2, List.take_length]))
  · refine M.Out.ends ?_
    refine M.o_for os.length (fun i (s : Nat × List Old10) => s.1 = i /\ s.2 = os.take i) ?_ ?_ ⟨rfl, rfl⟩
    · rintro i ⟨s, q⟩ hi ⟨e1, e2⟩
      dsimp only at e1 e2
      subst e1
      subst e2
      simp only [zbb]
      exact M.o_t (decide_eq_true (by omega)) (M.o_grdD (by omega) (M.o_grdD (by simp [List.length_take]; omega) (M.o_pure ⟨rfl, take_succ_D os s hi default⟩)))
    · rintro ⟨s, q⟩ ⟨e1, e2⟩
      dsimp only at e1 e2
      subst e1
      simp only [zbb]
      exact M.o_f (by simp) (M.o_pure (by rw [e2, List.take_length]))
theorem same_yr (l : List Yr) : (zbw l l).Ends true := by
  unfold zbw
  refine M.i_f (by simp) (M.i_bind (a := (.inr () : Unit ⊕ Unit)) ?_ M.i_pure)
  refine M.i_for (fun i => i) l.length (fun i hi => ?_) ?_
  · simp only [zba]
    exact M.i_t (decide_eq_true (by omega)) (M.i_grd (decide_eq_true (by omega)) (M.i_grd (decide_eq_true (by omega)) (M.i_f (by simp) M.i_pure)))
  · simp only [zba]
    exact M.i_f (by simp) M.i_pure
theorem sameB_ends (ys : List Yr) (os : List Old10) (f l : Int) : (zbr ys os f l ys os f l).Ends true := by
  unfold zbr
  refine M.i_bind (M.i_opt (fun _ => same_yr ys) (fun h => by simp at h)) (M.i_f (by simp) (M.i_bind (a := (.inr () : Unit ⊕ Unit)) ?_ M.i_pure))
  refine M.i_for (fun i => i) os.length (fun i hi => ?_) ?_
  · simp only [zbl]
    exact M.i_t (decide_eq_true (by omega)) (M.i_grd (decide_eq_true (by omega)) (M.i_grd (decide_eq_true (by omega)) (M.i_bind (M.i_opt (fun _ => same_int _) (fun h => by simp at h)) (M.i_f (by simp) M.i_pure))))
  · simp only [zbl]
    exact M.i_f (by simp) M.i_pure
end Go.Proofs.Ytcgalcbkkijkhaa
section
set_option maxRecDepth 100000
set_option maxHeartbeats 16000000
namespace Go.Proofs.Ytcgalcbkkijkhaa
open Go Go.Nm
def zal : (List Int) -> (Int × Span) -> M ((List Int) ⊕ Unit) := fun l (x, x2) =>
  M.bind (za8 x2) fun r2 =>
  M.grd (decide ((l.length + ([(r2 : Int)]).length) * 8 <= 140737488355328)) <|
  M.pure (.inl (l ++ ([(r2 : Int)])))
def zak : (List Int) -> (Int × Span) -> M ((List Int) ⊕ Unit) := fun l (x, x2) =>
  M.bind (zbE x2) fun r2 =>
  M.grd (decide ((l.length + ([(r2 : Int)]).length) * 8 <= 140737488355328)) <|
  M.pure (.inl (l ++ ([(r2 : Int)])))
def zbj (b_Years : List Yr) (b_Olds : List Old10) (b_First : Int) (b_Last : Int) (from_ : Int) (to_ : Int) (stage : Int) (often : Bool) : M ((List Int) × Int) :=
  M.bind (zaE b_Years b_Olds b_First b_Last from_ to_ stage 0 2000) fun x_ => match x_ with
  | (.inl r1) => (
  bif r1 != 0 then (
  M.pure (([]), r1))
  else (
  M.fail))
  | (.inr (r02, r03, r04, r12)) => (
  bif r12 != 0 then (
  M.fail)
  else (
  M.bind (zbA) fun (_ : Unit) =>
  bif often then (
  M.bind (zbp) fun (_ : Unit) =>
  M.bind (zad b_Years b_Olds r02 r03 r04 b_First b_Last) fun (r00, r10) =>
  M.bind (zag (M.yl zal) (.inl ([])) r00 r10 b_Years b_Olds r02 r03 r04) fun x_ => match x_ with
  | .inl l => (
  M.pure (l, 0))
  | .inr _ => M.fail)
  else (
  M.bind (zad b_Years b_Olds r02 r03 r04 b_First b_Last) fun (r00, r10) =>
  M.bind (zag (M.yl zak) (.inl ([])) r00 r10 b_Years b_Olds r02 r03 r04) fun x_ => match x_ with
  | .inl l => (
  M.pure (l, 0))
  | .inr _ => M.fail)))
theorem zdi {R : List Chunk} {C_b_Years : Cells} {v_b_Years : Value} {C_b_Olds : Cells} {v_b_Olds : Value} (b_Years : List Yr) (b_Olds : List Old10) (b_First : Int) (b_Last : Int) (from_ : Int) (to_ : Int) (stage : Int) (often : Bool) (hC_b_Years : Reads R C_b_Years) (hs_b_Years : Sl C_b_Years v_b_Years b_Years) (hC_b_Olds : Reads R C_b_Olds) (hs_b_Olds : Sl C_b_Olds v_b_Olds b_Olds) {r : ((List Int) × Int)} (hM : (zbj b_Years b_Olds b_First b_Last from_ to_ stage often).Ends r) (w : World) (H : St w w [] R) : Ret Try.prog 24 #[.agg #[v_b_Years, v_b_Olds, I b_First, I b_Last], I from_, I to_, I stage, B often] w fun v w' => ∃ (y0 : List Int) (y1 : Int) (u0 : Value), (y0, y1) = r /\ v = .tuple #[u0, I y1] /\ St w w' [cOwn (α := Int) 3 u0 y0] R := by
 refine ret_of_WD Try.func24 rfl rfl rfl ?_
 replace H : St w w [cMk ([])] R := H.mk0
 have hl_b_Years := hs_b_Years.len_le
 have hl_b_Olds := hs_b_Olds.len_le
 unfold zbj at hM
 refine WD.seq ?_
 refine WD.of ?_
 refine W.region rfl ?_
 refine t_box (v := .agg #[v_b_Years, v_b_Olds, I b_First, I b_Last]) (cs := [v_b_Years, v_b_Olds, I b_First, I b_Last]) H rfl rfl ?_
 intro b_1 w1z H
 refine s_val (x_as (v := .slice none 0 0) rfl) ?_
 refine s_val (x_as (v := I 0) rfl) ?_
 refine s_nil ?_
 refine WD.seq ?_
 refine WD.of ?_
 refine W.region rfl ?_
 refine s_val (x_ld (p := .pointer (some ⟨b_1, 0, none⟩)) (v := .agg #[v_b_Years, v_b_Olds, I b_First, I b_Last]) rfl (ldb_ag (ds := [v_b_Years, v_b_Olds, I b_First, I b_Last]) Ag26 Sz26 (H.blk (k := 0) rfl) rfl rfl)) ?_
 refine s_val (x_mv (v := I from_) rfl) ?_
 refine s_val (x_mv (v := I to_) rfl) ?_
 refine s_val (x_mv (v := I stage) rfl) ?_
 obtain ⟨r3z, hx2z, hM⟩ := M.e_bind hM
 refine s_call cf52 [.agg #[v_b_Years, v_b_Olds, I b_First, I b_Last], I from_, I to_, I stage, I 0, I 2000] rfl (zcg b_Years b_Olds b_First b_Last from_ to_ stage 0 2000 (hC_b_Years.app _) hs_b_Years (hC_b_Olds.app _) hs_b_Olds hx2z _ (St.give (T := [cBlk b_1 [v_b_Years, v_b_Olds, I b_First, I b_Last] 26, cMk ([])]) H rfl)) ?_
 rintro vq w4z (⟨r1, hr5z, hvq, H2_⟩ | ⟨r02, r03, r04, r12, nb0_2, nb1_3, hr6z, hvq, H2_⟩)
 ·subst hr5z
  subst vq
  try dsimp only at hM
  replace H : St w w4z [cBlk b_1 [v_b_Years, v_b_Olds, I b_First, I b_Last] 26, cMk ([])] R := H.back H2_ rfl
  clear H2_
  refine s_val (x_mv (v := .tuple #[.pointer none, I r1]) rfl) ?_
  refine s_val (x_ext (vs := [.pointer none, I r1]) (v := .pointer none) rfl rfl) ?_
  refine s_val (x_ext (vs := [.pointer none, I r1]) (v := I r1) rfl rfl) ?_
  refine s_val (x_as (v := .pointer none) rfl) ?_
  refine s_val (x_as (v := I r1) rfl) ?_
  refine s_nil ?_
  refine WD.seq ?_
  refine WD.seq ?_
  refine WD.of ?_
  refine W.region rfl ?_
  refine s_val (x_mv (v := I r1) rfl) ?_
  refine s_val (x_cmp (kd := .i64) (a := r1) (b := 0) (r := r1 != 0) rfl rfl rfl) ?_
  refine s_nil ?_
  refine WD.cond (r1 != 0) rfl (fun c7z => ?_) (fun c7z => ?_)
  ·replace hM := M.e_t hM c7z
   simp only [decide_eq_true_eq, decide_eq_false_iff_not, beq_iff_eq, bne_iff_ne, beq_eq_false_iff_ne, bne_eq_false_iff_eq, ne_eq, Decidable.not_not] at c7z
   refine WD.seq ?_
   refine WD.of ?_
   refine W.region rfl ?_
   refine s_val (x_mv (v := I r1) rfl) ?_
   refine s_val (x_as (v := .slice none 0 0) rfl) ?_
   refine s_val (x_as (v := I r1) rfl) ?_
   refine s_nil ?_
   refine WD.of ?_
   refine W.ret ?_
   refine bodyD_r (H.pick [1, 0] (by decide) rfl) ?_
   intro w8z H
   replace H : St w w8z [cBlk b_1 [v_b_Years, v_b_Olds, I b_First, I b_Last] 26] R := H
   have hr_ := M.e_pure hM
   replace H : St w w8z [cOwn (α := Int) 3 (.slice none 0 0) ([]), cBlk b_1 [v_b_Years, v_b_Olds, I b_First, I b_Last] 26] R := H.nilOwn (α := Int) 3
   exact ⟨_, resE_tmp2 rfl, ⟨([]), r1, (.slice none 0 0), hr_, rfl, (H.pick [0] (by decide) rfl)⟩⟩
  replace hM := M.e_f hM c7z
  exact (M.e_fail hM).elim
 subst hr6z
 subst vq
 try dsimp only at hM
 replace H : St w w4z [cBlk nb0_2 [v_b_Years, v_b_Olds, I r02, I r03, .map (some nb1_3)] 126, cMl I encSp nb1_3 r04, cBlk b_1 [v_b_Years, v_b_Olds, I b_First, I b_Last] 26, cMk ([])] R := H.back H2_ rfl
 clear H2_
 refine s_val (x_mv (v := .tuple #[.pointer (some ⟨nb0_2, 0, none⟩), I r12]) rfl) ?_
 refine s_val (x_ext (vs := [.pointer (some ⟨nb0_2, 0, none⟩), I r12]) (v := .pointer (some ⟨nb0_2, 0, none⟩)) rfl rfl) ?_
 refine s_val (x_ext (vs := [.pointer (some ⟨nb0_2, 0, none⟩), I r12]) (v := I r12) rfl rfl) ?_
 refine s_val (x_as (v := .pointer (some ⟨nb0_2, 0, none⟩)) rfl) ?_
 refine s_val (x_as (v := I r12) rfl) ?_
 refine s_nil ?_
 refine WD.seq ?_
 refine WD.seq ?_
 refine WD.of ?_
 refine W.region rfl ?_
 refine s_val (x_mv (v := I r12) rfl) ?_
 refine s_val (x_cmp (kd := .i64) (a := r12) (b := 0) (r := r12 != 0) rfl rfl rfl) ?_
 refine s_nil ?_
 refine WD.cond (r12 != 0) rfl (fun c9z => ?_) (fun c9z => ?_)
 ·replace hM := M.e_t hM c9z
  exact (M.e_fail hM).elim
 replace hM := M.e_f hM c9z
 simp only [decide_eq_true_eq, decide_eq_false_iff_not, beq_iff_eq, bne_iff_ne, beq_eq_false_iff_ne, bne_eq_false_iff_eq, ne_eq, Decidable.not_not] at c9z
 refine WD.of ?_
 refine W.skip ?_
 refine WD.seq ?_
 refine WD.of ?_
 refine W.region rfl ?_
 obtain ⟨r11z, hx10z, hM⟩ := M.e_bind hM
 refine s_call cf55 [] rfl (zb2 hx10z _ (St.give (T := [cBlk nb0_2 [v_b_Years, v_b_Olds, I r02, I r03, .map (some nb1_3)] 126, cMl I encSp nb1_3 r04, cBlk b_1 [v_b_Years, v_b_Olds, I b_First, I b_Last] 26, cMk ([])]) H rfl)) ?_
 rintro vq w12z ⟨hr13z, hvq, H2_⟩
 subst hr13z
 subst vq
 try dsimp only at hM
 replace H : St w w12z [cBlk nb0_2 [v_b_Years, v_b_Olds, I r02, I r03, .map (some nb1_3)] 126, cMl I encSp nb1_3 r04, cBlk b_1 [v_b_Years, v_b_Olds, I b_First, I b_Last] 26, cMk ([])] R := H.back H2_ rfl
 clear H2_
 refine t_alloc (cs := [.nilFunc]) H Al113 rfl ?_
 intro b_4 w14z H
 refine t_st (k := 0) (b := b_4) (off := 0) (cs := [.nilFunc]) (vs := [.func (.func 91) #[] #[]]) (cs' := [.func (.func 91) #[] #[]]) (v := .agg #[.func (.func 91) #[] #[]]) (L' := [cBlk b_4 [.func (.func 91) #[] #[]] 113, cBlk nb0_2 [v_b_Years, v_b_Olds, I r02, I r03, .map (some nb1_3)] 126, cMl I encSp nb1_3 r04, cBlk b_1 [v_b_Years, v_b_Olds, I b_First, I b_Last] 26, cMk ([])]) H rfl rfl rfl Sz113 rfl rfl rfl rfl rfl rfl ?_
 intro w15z H
 refine s_nil ?_
 refine WD.seq ?_
 refine WD.seq ?_
 refine WD.of ?_
 refine W.region rfl ?_
 refine s_val (x_mv (v := B often) rfl) ?_
 refine s_nil ?_
 refine WD.cond often rfl (fun c16z => ?_) (fun c16z => ?_)
 ·replace hM := M.e_t hM c16z
  refine WD.of ?_
  refine W.region rfl ?_
  obtain ⟨r18z, hx17z, hM⟩ := M.e_bind hM
  refine s_call cf56 [] rfl (zbD hx17z _ (St.give (T := [cBlk b_4 [.func (.func 91) #[] #[]] 113, cBlk nb0_2 [v_b_Years, v_b_Olds, I r02, I r03, .map (some nb1_3)] 126, cMl I encSp nb1_3 r04, cBlk b_1 [v_b_Years, v_b_Olds, I b_First, I b_Last] 26, cMk ([])]) H rfl)) ?_
  rintro vq w19z ⟨hr20z, hvq, H2_⟩
  subst hr20z
  subst vq
  try dsimp only at hM
  replace H : St w w19z [cBlk b_4 [.func (.func 91) #[] #[]] 113, cBlk nb0_2 [v_b_Years, v_b_Olds, I r02, I r03, .map (some nb1_3)] 126, cMl I encSp nb1_3 r04, cBlk b_1 [v_b_Years, v_b_Olds, I b_First, I b_Last] 26, cMk ([])] R := H.back H2_ rfl
  clear H2_
  refine t_st (k := 0) (b := b_4) (off := 0) (cs := [.func (.func 91) #[] #[]]) (vs := [.func (.func 92) #[] #[]]) (cs' := [.func (.func 92) #[] #[]]) (v := .agg #[.func (.func 92) #[] #[]]) (L' := [cBlk b_4 [.func (.func 92) #[] #[]] 113, cBlk nb0_2 [v_b_Years, v_b_Olds, I r02, I r03, .map (some nb1_3)] 126, cMl I encSp nb1_3 r04, cBlk b_1 [v_b_Years, v_b_Olds, I b_First, I b_Last] 26, cMk ([])]) H rfl rfl rfl Sz113 rfl rfl rfl rfl rfl rfl ?_
  intro w21z H
  refine s_nil ?_
  refine WD.seq ?_
  refine WD.of ?_
  refine W.region rfl ?_
  refine t_alloc (cs := [.slice none 0 0]) H Al27 rfl ?_
  intro b_5 w22z H
  refine s_nil ?_
  refine WD.seq ?_
  refine WD.seq ?_
  refine WD.of ?_
  refine W.region rfl ?_
  refine s_val (x_mv (v := .pointer (some ⟨nb0_2, 0, none⟩)) rfl) ?_
  refine s_val (x_fa (a := .pointer (some ⟨b_1, 0, none⟩)) (v := .pointer (some ⟨b_1, 2, none⟩)) rfl (fa_blk (o := 0) Fd26_2 Sz3)) ?_
  refine s_val (x_ld (p := .pointer (some ⟨b_1, 2, none⟩)) (v := I b_First) rfl (ldb_sc Sc3 (H.blk (k := 4) rfl) rfl)) ?_
  refine s_val (x_fa (a := .pointer (some ⟨b_1, 0, none⟩)) (v := .pointer (some ⟨b_1, 3, none⟩)) rfl (fa_blk (o := 0) Fd26_3 Sz3)) ?_
  refine s_val (x_ld (p := .pointer (some ⟨b_1, 3, none⟩)) (v := I b_Last) rfl (ldb_sc Sc3 (H.blk (k := 4) rfl) rfl)) ?_
  obtain ⟨r24z, hx23z, hM⟩ := M.e_bind hM
  refine s_call cf54 [.pointer (some ⟨nb0_2, 0, none⟩), I b_First, I b_Last] rfl (zaG b_Years b_Olds r02 r03 r04 b_First b_Last (hC_b_Years.app _) hs_b_Years (hC_b_Olds.app _) hs_b_Olds (Has.here (k := 3) rfl) (Has.here (k := 2) rfl) hx23z _ (St.give (T := [cBlk b_5 [.slice none 0 0] 27, cBlk b_4 [.func (.func 92) #[] #[]] 113, cBlk nb0_2 [v_b_Years, v_b_Olds, I r02, I r03, .map (some nb1_3)] 126, cMl I encSp nb1_3 r04, cBlk b_1 [v_b_Years, v_b_Olds, I b_First, I b_Last] 26, cMk ([])]) H rfl)) ?_
  rintro vq w25z ⟨r00, r10, nb0_6, nb1_7, nb2_8, hr26z, hvq, H2_⟩
  subst hr26z
  subst vq
  try dsimp only at hM
  replace H : St w w25z [cBlk nb0_6 [I r00] 3, cBlk nb1_7 [I r10] 3, cBlk nb2_8 [.pointer (some ⟨nb0_2, 0, none⟩)] 102, cBlk b_5 [.slice none 0 0] 27, cBlk b_4 [.func (.func 92) #[] #[]] 113, cBlk nb0_2 [v_b_Years, v_b_Olds, I r02, I r03, .map (some nb1_3)] 126, cMl I encSp nb1_3 r04, cBlk b_1 [v_b_Years, v_b_Olds, I b_First, I b_Last] 26, cMk ([])] R := H.back H2_ rfl
  clear H2_
  refine s_nil ?_
  refine WD.block ?_
  replace H : St w w25z [cOwn (α := Int) 3 (.slice none 0 0) ([]), cBlk nb0_6 [I r00] 3, cBlk nb1_7 [I r10] 3, cBlk nb2_8 [.pointer (some ⟨nb0_2, 0, none⟩)] 102, cBlk b_5 [.slice none 0 0] 27, cBlk b_4 [.func (.func 92) #[] #[]] 113, cBlk nb0_2 [v_b_Years, v_b_Olds, I r02, I r03, .map (some nb1_3)] 126, cMl I encSp nb1_3 r04, cBlk b_1 [v_b_Years, v_b_Olds, I b_First, I b_Last] 26, cMk ([])] R := H.nilOwn (α := Int) 3
  obtain ⟨t27z, hx28z, hM⟩ := M.e_bind hM
  refine WD.range (L := [cOwn (α := Int) 3 (.slice none 0 0) ([]), cBlk b_5 [(.slice none 0 0)] 27, cBlk nb0_6 [I r00] 3, cBlk nb1_7 [I r10] 3, cBlk nb2_8 [.pointer (some ⟨nb0_2, 0, none⟩)] 102, cBlk b_4 [.func (.func 92) #[] #[]] 113, cBlk nb0_2 [v_b_Years, v_b_Olds, I r02, I r03, .map (some nb1_3)] 126, cMl I encSp nb1_3 r04, cBlk b_1 [v_b_Years, v_b_Olds, I b_First, I b_Last] 26]) [.pointer (some ⟨nb0_6, 0, none⟩), .pointer (some ⟨nb1_7, 0, none⟩), .pointer (some ⟨nb2_8, 0, none⟩)] (H.pick [9, 0, 4, 1, 2, 3, 5, 6, 7, 8] (by decide) rfl) rfl cf90 ?_
  intro l29z D30z r31z w32z hr33z H
  have hYC : YieldC Try.prog ([cMk (D30z :: ([])), cBlk nb0_6 [I r00] 3, cBlk nb1_7 [I r10] 3, cBlk nb2_8 [.pointer (some ⟨nb0_2, 0, none⟩)] 102, cBlk b_4 [.func (.func 92) #[] #[]] 113, cBlk nb0_2 [v_b_Years, v_b_Olds, I r02, I r03, .map (some nb1_3)] 126, cMl I encSp nb1_3 r04, cBlk b_1 [v_b_Years, v_b_Olds, I b_First, I b_Last] 26] ++ R) arISpan (yJ l29z r31z (fun l Ls_ => ∃ (v_l : Value), Ls_ = [cOwn (α := Int) 3 v_l l, cBlk b_5 [v_l] 27]) (fun (_ : Unit) _ => False) (fun _ => .ret)) (.func (.yield l29z) #[] #[]) (M.yl zal) := by
   refine YieldC.mk2 hr33z (fun l Ls_ => ∃ (v_l : Value), Ls_ = [cOwn (α := Int) 3 v_l l, cBlk b_5 [v_l] 27]) (fun (_ : Unit) _ => False) (fun _ => .ret) zal (by rintro l _ h_; obtain ⟨_, rfl⟩ := h_; rfl) (fun _ _ h_ => h_.elim) rfl (arISpan_len rfl) ?_
   intro C_ vs_ x_ hA_
   obtain ⟨x, x2⟩ := x_
   obtain rfl := hA_
   intro w R hR_ Ls_ s_ r hY_ hM H
   skip
   obtain ⟨l, hs_eq_⟩ : ∃ y_, y_ = s_ := ⟨_, rfl⟩
   subst hs_eq_
   obtain ⟨v_l, rfl⟩ := hY_
   replace H : St w w [cOwn (α := Int) 3 v_l l, cBlk b_5 [v_l] 27, cMk (D30z :: ([])), cBlk nb0_6 [I r00] 3, cBlk nb1_7 [I r10] 3, cBlk nb2_8 [.pointer (some ⟨nb0_2, 0, none⟩)] 102, cBlk b_4 [.func (.func 92) #[] #[]] 113, cBlk nb0_2 [v_b_Years, v_b_Olds, I r02, I r03, .map (some nb1_3)] 126, cMl I encSp nb1_3 r04, cBlk b_1 [v_b_Years, v_b_Olds, I b_First, I b_Last] 26] R := H
   refine W.region rfl ?_
   refine t_alloc (cs := [I 0, I 0]) H Al35 rfl ?_
   intro b_9 w34z H
   refine t_st (k := 0) (b := b_9) (off := 0) (cs := [I 0, I 0]) (vs := [I x2.lo, I x2.hi]) (cs' := [I x2.lo, I x2.hi]) (v := .agg #[I x2.lo, I x2.hi]) (L' := [cBlk b_9 [I x2.lo, I x2.hi] 35, cOwn (α := Int) 3 v_l l, cBlk b_5 [v_l] 27, cMk (D30z :: ([])), cBlk nb0_6 [I r00] 3, cBlk nb1_7 [I r10] 3, cBlk nb2_8 [.pointer (some ⟨nb0_2, 0, none⟩)] 102, cBlk b_4 [.func (.func 92) #[] #[]] 113, cBlk nb0_2 [v_b_Years, v_b_Olds, I r02, I r03, .map (some nb1_3)] 126, cMl I encSp nb1_3 r04, cBlk b_1 [v_b_Years, v_b_Olds, I b_First, I b_Last] 26]) H rfl rfl rfl Sz35 rfl rfl rfl rfl rfl rfl ?_
   intro w35z H
   refine s_nil ?_
   refine ⟨rfl, [cBlk b_9 [I x2.lo, I x2.hi] 35], H.pick [0, 1, 2, 3, 4, 5, 6, 7, 8, 9, 10] (by decide) rfl, ?_⟩
   clear H hR_
   intro w R hR_ H
   replace hC_b_Years := hC_b_Years.sub hR_
   replace hC_b_Olds := hC_b_Olds.sub hR_
   replace hM : (zal l (x, x2)).Ends r := hM
   simp only [zal] at hM
   replace H : St w w [cBlk b_9 [I x2.lo, I x2.hi] 35, cOwn (α := Int) 3 v_l l, cBlk b_5 [v_l] 27, cMk (D30z :: ([])), cBlk nb0_6 [I r00] 3, cBlk nb1_7 [I r10] 3, cBlk nb2_8 [.pointer (some ⟨nb0_2, 0, none⟩)] 102, cBlk b_4 [.func (.func 92) #[] #[]] 113, cBlk nb0_2 [v_b_Years, v_b_Olds, I r02, I r03, .map (some nb1_3)] 126, cMl I encSp nb1_3 r04, cBlk b_1 [v_b_Years, v_b_Olds, I b_First, I b_Last] 26] R := H
   refine W.block ?_
   refine W.drawT (fun W => St w W [cBlk b_9 [I x2.lo, I x2.hi] 35, cMk (D30z :: ([])), cBlk nb0_6 [I r00] 3, cBlk nb1_7 [I r10] 3, cBlk nb2_8 [.pointer (some ⟨nb0_2, 0, none⟩)] 102, cBlk b_4 [.func (.func 92) #[] #[]] 113, cBlk nb0_2 [v_b_Years, v_b_Olds, I r02, I r03, .map (some nb1_3)] 126, cMl I encSp nb1_3 r04, cBlk b_1 [v_b_Years, v_b_Olds, I b_First, I b_Last] 26] R) (.q 1 (.q 2 (.q 3 (.l2 0 (.l 4 (.l 5 (.l 6 (.l 7 .nil)))) 4 (.l2 0 (.l 5 (.l 6 (.l 7 .nil))) 5 (.l 0 (.l 6 (.l 7 .nil)))))))) mixed (by decide +kernel) rfl ?_
   intro w36z hx_
   replace H : St w w36z [cBlk b_9 [I x2.lo, I x2.hi] 35, cOwn (α := Int) 3 v_l l, cBlk b_5 [v_l] 27, cMk (D30z :: ([])), cBlk nb0_6 [I r00] 3, cBlk nb1_7 [I r10] 3, cBlk nb2_8 [.pointer (some ⟨nb0_2, 0, none⟩)] 102, cBlk b_4 [.func (.func 92) #[] #[]] 113, cBlk nb0_2 [v_b_Years, v_b_Olds, I r02, I r03, .map (some nb1_3)] 126, cMl I encSp nb1_3 r04, cBlk b_1 [v_b_Years, v_b_Olds, I b_First, I b_Last] 26] R := H.ext hx_
   clear hx_
   refine ⟨(H.pick [0, 3, 4, 5, 6, 7, 8, 9, 10] (by decide) rfl), ?_⟩
   refine t_q rfl (fun w' H => x_fa (a := .pointer (some ⟨b_4, 0, none⟩)) (v := .pointer (some ⟨b_4, 0, none⟩)) rfl (fa_blk (o := 0) Fd113_0 Sz111)) ?_
   refine t_q rfl (fun w' H => x_ld (p := .pointer (some ⟨b_4, 0, none⟩)) (v := .func (.func 92) #[] #[]) rfl (ldb_sc Sc111 (H.blk (k := 5) rfl) rfl)) ?_
   refine t_q rfl (fun w' H => x_ld (p := .pointer (some ⟨b_9, 0, none⟩)) (v := .agg #[I x2.lo, I x2.hi]) rfl (ldb_ag (ds := [I x2.lo, I x2.hi]) Ag35 Sz35 (H.blk (k := 0) rfl) rfl rfl)) ?_
   refine t_l2 rfl rfl ?_ ?_
   ·skip
    refine s_val (x_ld (p := .pointer (some ⟨b_5, 0, none⟩)) (v := v_l) rfl (ldb_sc Sc27 (H.blk (k := 2) rfl) rfl)) ?_
    have hvc_q47z := Sl.cells (ownSl (H.get (k := 1) rfl))
    have hvo_q47z := Sl.oc (ownSl (H.get (k := 1) rfl))
    refine s_nil ⟨(H.pick [0, 3, 4, 5, 6, 7, 8, 9, 10] (by decide) rfl), ?_⟩
    refine t_l rfl ?_
    obtain ⟨r49z, hx48z, hM⟩ := M.e_bind hM
    refine s_callv (f := 92) rfl cf92 [.agg #[I x2.lo, I x2.hi]] rfl (zat x2 hx48z _ (St.give (T := [cBlk b_9 [I x2.lo, I x2.hi] 35, cOwn (α := Int) 3 v_l l, cBlk b_5 [v_l] 27, cMk (D30z :: ([])), cBlk nb0_6 [I r00] 3, cBlk nb1_7 [I r10] 3, cBlk nb2_8 [.pointer (some ⟨nb0_2, 0, none⟩)] 102, cBlk b_4 [.func (.func 92) #[] #[]] 113, cBlk nb0_2 [v_b_Years, v_b_Olds, I r02, I r03, .map (some nb1_3)] 126, cMl I encSp nb1_3 r04, cBlk b_1 [v_b_Years, v_b_Olds, I b_First, I b_Last] 26]) H rfl)) ?_
    rintro vq w50z ⟨r2, hr51z, hvq, H2_⟩
    subst hr51z
    subst vq
    try dsimp only at hM
    replace H : St w w50z [cBlk b_9 [I x2.lo, I x2.hi] 35, cOwn (α := Int) 3 v_l l, cBlk b_5 [v_l] 27, cMk (D30z :: ([])), cBlk nb0_6 [I r00] 3, cBlk nb1_7 [I r10] 3, cBlk nb2_8 [.pointer (some ⟨nb0_2, 0, none⟩)] 102, cBlk b_4 [.func (.func 92) #[] #[]] 113, cBlk nb0_2 [v_b_Years, v_b_Olds, I r02, I r03, .map (some nb1_3)] 126, cMl I encSp nb1_3 r04, cBlk b_1 [v_b_Years, v_b_Olds, I b_First, I b_Last] 26] R := H.back H2_ rfl
    clear H2_
    refine s_nil ⟨(H.pick [0, 3, 4, 5, 6, 7, 8, 9, 10] (by decide) rfl), ?_⟩
    refine t_l rfl ?_
    refine t_bs (α := Int) T27 [I r2] [(r2 : Int)] H rfl (.cons rfl (Flat.rep_enc _ (r2 : Int)) <| .nil) rfl rfl rfl ?_
    intro v52z w53z H
    have hvc_q54z := Sl.cells (ownSl (H.get (k := 0) rfl))
    have hvo_q54z := Sl.oc (ownSl (H.get (k := 0) rfl))
    refine s_nil ⟨(H.pick [1, 4, 5, 6, 7, 8, 9, 10, 11] (by decide) rfl), ?_⟩
    refine t_l rfl ?_
    obtain ⟨sd55z, hM⟩ := M.e_grd hM
    simp only [Bool.and_eq_true, decide_eq_true_eq] at sd55z
    refine t_app (α := Int) (k := 2) (l := l) (l2 := [(r2 : Int)]) (l' := l ++ ([(r2 : Int)])) (vy := v52z) T27 rfl H rfl rfl rfl (ownSl (H.get (k := 0) rfl)) (ownLe _ (H.get (k := 0) rfl)) (rfl) (by first | omega | (simp only [List.length_nil] at *; omega)) ?_
    intro v56z w57z H
    replace H : St w w57z [cOwn (α := Int) 3 v52z ([(r2 : Int)]), cBlk b_9 [I x2.lo, I x2.hi] 35, cOwn (α := Int) 3 v56z (l ++ ([(r2 : Int)])), cBlk b_5 [v_l] 27, cMk (D30z :: ([])), cBlk nb0_6 [I r00] 3, cBlk nb1_7 [I r10] 3, cBlk nb2_8 [.pointer (some ⟨nb0_2, 0, none⟩)] 102, cBlk b_4 [.func (.func 92) #[] #[]] 113, cBlk nb0_2 [v_b_Years, v_b_Olds, I r02, I r03, .map (some nb1_3)] 126, cMl I encSp nb1_3 r04, cBlk b_1 [v_b_Years, v_b_Olds, I b_First, I b_Last] 26] R := H
    have hvc_q58z := Sl.cells (ownSl (H.get (k := 2) rfl))
    have hvo_q58z := Sl.oc (ownSl (H.get (k := 2) rfl))
    refine s_nil ⟨(H.pick [1, 4, 5, 6, 7, 8, 9, 10, 11] (by decide) rfl), ?_⟩
    refine t_l rfl ?_
    refine t_st (k := 3) (b := b_5) (off := 0) (cs := [v_l]) (vs := [v56z]) (cs' := [v56z]) (v := v56z) (L' := [cOwn (α := Int) 3 v52z ([(r2 : Int)]), cBlk b_9 [I x2.lo, I x2.hi] 35, cOwn (α := Int) 3 v56z (l ++ ([(r2 : Int)])), cBlk b_5 [v56z] 27, cMk (D30z :: ([])), cBlk nb0_6 [I r00] 3, cBlk nb1_7 [I r10] 3, cBlk nb2_8 [.pointer (some ⟨nb0_2, 0, none⟩)] 102, cBlk b_4 [.func (.func 92) #[] #[]] 113, cBlk nb0_2 [v_b_Years, v_b_Olds, I r02, I r03, .map (some nb1_3)] 126, cMl I encSp nb1_3 r04, cBlk b_1 [v_b_Years, v_b_Olds, I b_First, I b_Last] 26]) H rfl rfl rfl Sz27 (Sl.cells (ownSl (H.get (k := 2) rfl))) rfl rfl (by simp only [List.all_cons, List.all_nil, Bool.true_and, Bool.and_true, Sl.oc (ownSl (H.get (k := 2) rfl))]; try rfl) rfl rfl ?_
    intro w59z H
    refine s_nil ⟨(H.pick [1, 4, 5, 6, 7, 8, 9, 10, 11] (by decide) rfl), ?_⟩
    refine t_nil ?_
    exact ⟨l ++ ([(r2 : Int)]), [cOwn (α := Int) 3 v56z (l ++ ([(r2 : Int)])), cBlk b_5 [v56z] 27], (M.e_pure hM).symm, ⟨v56z, rfl⟩, H.pick [2, 3, 4, 5, 6, 7, 8, 9, 10, 11] (by decide) rfl⟩
   skip
   obtain ⟨r61z, hx60z, hM⟩ := M.e_bind hM
   refine s_callv (f := 92) rfl cf92 [.agg #[I x2.lo, I x2.hi]] rfl (zat x2 hx60z _ (St.give (T := [cBlk b_9 [I x2.lo, I x2.hi] 35, cOwn (α := Int) 3 v_l l, cBlk b_5 [v_l] 27, cMk (D30z :: ([])), cBlk nb0_6 [I r00] 3, cBlk nb1_7 [I r10] 3, cBlk nb2_8 [.pointer (some ⟨nb0_2, 0, none⟩)] 102, cBlk b_4 [.func (.func 92) #[] #[]] 113, cBlk nb0_2 [v_b_Years, v_b_Olds, I r02, I r03, .map (some nb1_3)] 126, cMl I encSp nb1_3 r04, cBlk b_1 [v_b_Years, v_b_Olds, I b_First, I b_Last] 26]) H rfl)) ?_
   rintro vq w62z ⟨r2, hr63z, hvq, H2_⟩
   subst hr63z
   subst vq
   try dsimp only at hM
   replace H : St w w62z [cBlk b_9 [I x2.lo, I x2.hi] 35, cOwn (α := Int) 3 v_l l, cBlk b_5 [v_l] 27, cMk (D30z :: ([])), cBlk nb0_6 [I r00] 3, cBlk nb1_7 [I r10] 3, cBlk nb2_8 [.pointer (some ⟨nb0_2, 0, none⟩)] 102, cBlk b_4 [.func (.func 92) #[] #[]] 113, cBlk nb0_2 [v_b_Years, v_b_Olds, I r02, I r03, .map (some nb1_3)] 126, cMl I encSp nb1_3 r04, cBlk b_1 [v_b_Years, v_b_Olds, I b_First, I b_Last] 26] R := H.back H2_ rfl
   clear H2_
   have hvc_q64z := Sl.cells (ownSl (H.get (k := 1) rfl))
   have hvo_q64z := Sl.oc (ownSl (H.get (k := 1) rfl))
   refine s_nil ⟨(H.pick [0, 3, 4, 5, 6, 7, 8, 9, 10] (by decide) rfl), ?_⟩
   obtain ⟨sd67z, hM⟩ := M.e_grd hM
   simp only [Bool.and_eq_true, decide_eq_true_eq] at sd67z
   refine t_l2 rfl rfl ?_ ?_
   ·skip
    refine s_val (x_ld (p := .pointer (some ⟨b_5, 0, none⟩)) (v := v_l) rfl (ldb_sc Sc27 (H.blk (k := 2) rfl) rfl)) ?_
    refine s_nil ⟨(H.pick [0, 3, 4, 5, 6, 7, 8, 9, 10] (by decide) rfl), ?_⟩
    refine t_l rfl ?_
    refine t_bs (α := Int) T27 [I r2] [(r2 : Int)] H rfl (.cons rfl (Flat.rep_enc _ (r2 : Int)) <| .nil) rfl rfl rfl ?_
    intro v71z w72z H
    have hvc_q73z := Sl.cells (ownSl (H.get (k := 0) rfl))
    have hvo_q73z := Sl.oc (ownSl (H.get (k := 0) rfl))
    refine s_nil ⟨(H.pick [1, 4, 5, 6, 7, 8, 9, 10, 11] (by decide) rfl), ?_⟩
    refine t_l rfl ?_
    refine t_app (α := Int) (k := 2) (l := l) (l2 := [(r2 : Int)]) (l' := l ++ ([(r2 : Int)])) (vy := v71z) T27 rfl H rfl rfl rfl (ownSl (H.get (k := 0) rfl)) (ownLe _ (H.get (k := 0) rfl)) (rfl) (by first | omega | (simp only [List.length_nil] at *; omega)) ?_
    intro v74z w75z H
    replace H : St w w75z [cOwn (α := Int) 3 v71z ([(r2 : Int)]), cBlk b_9 [I x2.lo, I x2.hi] 35, cOwn (α := Int) 3 v74z (l ++ ([(r2 : Int)])), cBlk b_5 [v_l] 27, cMk (D30z :: ([])), cBlk nb0_6 [I r00] 3, cBlk nb1_7 [I r10] 3, cBlk nb2_8 [.pointer (some ⟨nb0_2, 0, none⟩)] 102, cBlk b_4 [.func (.func 92) #[] #[]] 113, cBlk nb0_2 [v_b_Years, v_b_Olds, I r02, I r03, .map (some nb1_3)] 126, cMl I encSp nb1_3 r04, cBlk b_1 [v_b_Years, v_b_Olds, I b_First, I b_Last] 26] R := H
    have hvc_q76z := Sl.cells (ownSl (H.get (k := 2) rfl))
    have hvo_q76z := Sl.oc (ownSl (H.get (k := 2) rfl))
    refine s_nil ⟨(H.pick [1, 4, 5, 6, 7, 8, 9, 10, 11] (by decide) rfl), ?_⟩
    refine t_l rfl ?_
    refine t_st (k := 3) (b := b_5) (off := 0) (cs := [v_l]) (vs := [v74z]) (cs' := [v74z]) (v := v74z) (L' := [cOwn (α := Int) 3 v71z ([(r2 : Int)]), cBlk b_9 [I x2.lo, I x2.hi] 35, cOwn (α := Int) 3 v74z (l ++ ([(r2 : Int)])), cBlk b_5 [v74z] 27, cMk (D30z :: ([])), cBlk nb0_6 [I r00] 3, cBlk nb1_7 [I r10] 3, cBlk nb2_8 [.pointer (some ⟨nb0_2, 0, none⟩)] 102, cBlk b_4 [.func (.func 92) #[] #[]] 113, cBlk nb0_2 [v_b_Years, v_b_Olds, I r02, I r03, .map (some nb1_3)] 126, cMl I encSp nb1_3 r04, cBlk b_1 [v_b_Years, v_b_Olds, I b_First, I b_Last] 26]) H rfl rfl rfl Sz27 (Sl.cells (ownSl (H.get (k := 2) rfl))) rfl rfl (by simp only [List.all_cons, List.all_nil, Bool.true_and, Bool.and_true, Sl.oc (ownSl (H.get (k := 2) rfl))]; try rfl) rfl rfl ?_
    intro w77z H
    refine s_nil ⟨(H.pick [1, 4, 5, 6, 7, 8, 9, 10, 11] (by decide) rfl), ?_⟩
    refine t_nil ?_
    exact ⟨l ++ ([(r2 : Int)]), [cOwn (α := Int) 3 v74z (l ++ ([(r2 : Int)])), cBlk b_5 [v74z] 27], (M.e_pure hM).symm, ⟨v74z, rfl⟩, H.pick [2, 3, 4, 5, 6, 7, 8, 9, 10, 11] (by decide) rfl⟩
   skip
   refine t_bs (α := Int) T27 [I r2] [(r2 : Int)] H rfl (.cons rfl (Flat.rep_enc _ (r2 : Int)) <| .nil) rfl rfl rfl ?_
   intro v78z w79z H
   have hvc_q80z := Sl.cells (ownSl (H.get (k := 0) rfl))
   have hvo_q80z := Sl.oc (ownSl (H.get (k := 0) rfl))
   refine s_nil ⟨(H.pick [1, 4, 5, 6, 7, 8, 9, 10, 11] (by decide) rfl), ?_⟩
   refine t_l rfl ?_
   refine s_val (x_ld (p := .pointer (some ⟨b_5, 0, none⟩)) (v := v_l) rfl (ldb_sc Sc27 (H.blk (k := 3) rfl) rfl)) ?_
   refine s_nil ⟨(H.pick [1, 4, 5, 6, 7, 8, 9, 10, 11] (by decide) rfl), ?_⟩
   refine t_l rfl ?_
   refine t_app (α := Int) (k := 2) (l := l) (l2 := [(r2 : Int)]) (l' := l ++ ([(r2 : Int)])) (vy := v78z) T27 rfl H rfl rfl rfl (ownSl (H.get (k := 0) rfl)) (ownLe _ (H.get (k := 0) rfl)) (rfl) (by first | omega | (simp only [List.length_nil] at *; omega)) ?_
   intro v81z w82z H
   replace H : St w w82z [cOwn (α := Int) 3 v78z ([(r2 : Int)]), cBlk b_9 [I x2.lo, I x2.hi] 35, cOwn (α := Int) 3 v81z (l ++ ([(r2 : Int)])), cBlk b_5 [v_l] 27, cMk (D30z :: ([])), cBlk nb0_6 [I r00] 3, cBlk nb1_7 [I r10] 3, cBlk nb2_8 [.pointer (some ⟨nb0_2, 0, none⟩)] 102, cBlk b_4 [.func (.func 92) #[] #[]] 113, cBlk nb0_2 [v_b_Years, v_b_Olds, I r02, I r03, .map (some nb1_3)] 126, cMl I encSp nb1_3 r04, cBlk b_1 [v_b_Years, v_b_Olds, I b_First, I b_Last] 26] R := H
   have hvc_q83z := Sl.cells (ownSl (H.get (k := 2) rfl))
   have hvo_q83z := Sl.oc (ownSl (H.get (k := 2) rfl))
   refine s_nil ⟨(H.pick [1, 4, 5, 6, 7, 8, 9, 10, 11] (by decide) rfl), ?_⟩
   refine t_l rfl ?_
   refine t_st (k := 3) (b := b_5) (off := 0) (cs := [v_l]) (vs := [v81z]) (cs' := [v81z]) (v := v81z) (L' := [cOwn (α := Int) 3 v78z ([(r2 : Int)]), cBlk b_9 [I x2.lo, I x2.hi] 35, cOwn (α := Int) 3 v81z (l ++ ([(r2 : Int)])), cBlk b_5 [v81z] 27, cMk (D30z :: ([])), cBlk nb0_6 [I r00] 3, cBlk nb1_7 [I r10] 3, cBlk nb2_8 [.pointer (some ⟨nb0_2, 0, none⟩)] 102, cBlk b_4 [.func (.func 92) #[] #[]] 113, cBlk nb0_2 [v_b_Years, v_b_Olds, I r02, I r03, .map (some nb1_3)] 126, cMl I encSp nb1_3 r04, cBlk b_1 [v_b_Years, v_b_Olds, I b_First, I b_Last] 26]) H rfl rfl rfl Sz27 (Sl.cells (ownSl (H.get (k := 2) rfl))) rfl rfl (by simp only [List.all_cons, List.all_nil, Bool.true_and, Bool.and_true, Sl.oc (ownSl (H.get (k := 2) rfl))]; try rfl) rfl rfl ?_
   intro w84z H
   refine s_nil ⟨(H.pick [1, 4, 5, 6, 7, 8, 9, 10, 11] (by decide) rfl), ?_⟩
   refine t_nil ?_
   exact ⟨l ++ ([(r2 : Int)]), [cOwn (α := Int) 3 v81z (l ++ ([(r2 : Int)])), cBlk b_5 [v81z] 27], (M.e_pure hM).symm, ⟨v81z, rfl⟩, H.pick [2, 3, 4, 5, 6, 7, 8, 9, 10, 11] (by decide) rfl⟩
  replace H : St w w32z (cAll (cObj l29z (.loop r31z) :: [cOwn (α := Int) 3 (.slice none 0 0) ([]), cBlk b_5 [(.slice none 0 0)] 27]) :: [cMk (D30z :: ([])), cBlk nb0_6 [I r00] 3, cBlk nb1_7 [I r10] 3, cBlk nb2_8 [.pointer (some ⟨nb0_2, 0, none⟩)] 102, cBlk b_4 [.func (.func 92) #[] #[]] 113, cBlk nb0_2 [v_b_Years, v_b_Olds, I r02, I r03, .map (some nb1_3)] 126, cMl I encSp nb1_3 r04, cBlk b_1 [v_b_Years, v_b_Olds, I b_First, I b_Last] 26]) R := St.bundleB (A := cObj l29z (.loop r31z) :: [cOwn (α := Int) 3 (.slice none 0 0) ([]), cBlk b_5 [(.slice none 0 0)] 27]) (T := [cMk (D30z :: ([])), cBlk nb0_6 [I r00] 3, cBlk nb1_7 [I r10] 3, cBlk nb2_8 [.pointer (some ⟨nb0_2, 0, none⟩)] 102, cBlk b_4 [.func (.func 92) #[] #[]] 113, cBlk nb0_2 [v_b_Years, v_b_Olds, I r02, I r03, .map (some nb1_3)] 126, cMl I encSp nb1_3 r04, cBlk b_1 [v_b_Years, v_b_Olds, I b_First, I b_Last] 26]) rfl (H.pick [0, 2, 3, 1, 4, 5, 6, 7, 8, 9, 10] (by decide) rfl)
  refine (zaw (M.yl zal) (.inl ([])) r00 r10 b_Years b_Olds r02 r03 r04 hYC ⟨_, rfl, ⟨(.slice none 0 0), rfl⟩⟩ (Has.here (k := 1) rfl) (Has.here (k := 2) rfl) (hC_b_Years.app _) hs_b_Years (hC_b_Olds.app _) hs_b_Olds (Has.here (k := 6) rfl) (Has.here (k := 5) rfl) (Has.here (k := 3) rfl) hx28z _ (St.give (A := [cAll (cObj l29z (.loop r31z) :: [cOwn (α := Int) 3 (.slice none 0 0) ([]), cBlk b_5 [(.slice none 0 0)] 27])]) (T := [cMk (D30z :: ([])), cBlk nb0_6 [I r00] 3, cBlk nb1_7 [I r10] 3, cBlk nb2_8 [.pointer (some ⟨nb0_2, 0, none⟩)] 102, cBlk b_4 [.func (.func 92) #[] #[]] 113, cBlk nb0_2 [v_b_Years, v_b_Olds, I r02, I r03, .map (some nb1_3)] 126, cMl I encSp nb1_3 r04, cBlk b_1 [v_b_Years, v_b_Olds, I b_First, I b_Last] 26]) H rfl)).mono ?_
  rintro vq w85z ⟨t89z, Ls87z, hq90z, hvq, H2_, hY88z⟩
  subst hq90z
  replace H := H.back H2_ rfl
  clear H2_ hYC
  rcases t89z with l | _
  ·try dsimp only at hM
   obtain ⟨_, rfl, v_l, rfl⟩ := hY88z
   refine ⟨_, [cOwn (α := Int) 3 v_l l, cBlk b_5 [v_l] 27, cBlk nb0_6 [I r00] 3, cBlk nb1_7 [I r10] 3, cBlk nb2_8 [.pointer (some ⟨nb0_2, 0, none⟩)] 102, cBlk b_4 [.func (.func 92) #[] #[]] 113, cBlk nb0_2 [v_b_Years, v_b_Olds, I r02, I r03, .map (some nb1_3)] 126, cMl I encSp nb1_3 r04, cBlk b_1 [v_b_Years, v_b_Olds, I b_First, I b_Last] 26], H.unbundle.pick [0, 3, 1, 2, 4, 5, 6, 7, 8, 9, 10] (by decide) rfl, hr33z.nb, ?_⟩
   intro w86z H
   rw [hr33z.pd]
   replace H : St w w86z [cMk (D30z :: ([])), cOwn (α := Int) 3 v_l l, cBlk b_5 [v_l] 27, cBlk nb0_6 [I r00] 3, cBlk nb1_7 [I r10] 3, cBlk nb2_8 [.pointer (some ⟨nb0_2, 0, none⟩)] 102, cBlk b_4 [.func (.func 92) #[] #[]] 113, cBlk nb0_2 [v_b_Years, v_b_Olds, I r02, I r03, .map (some nb1_3)] 126, cMl I encSp nb1_3 r04, cBlk b_1 [v_b_Years, v_b_Olds, I b_First, I b_Last] 26] R := H
   try simp only []
   refine WD.seq ?_
   refine WD.of ?_
   refine W.region rfl ?_
   refine s_val (x_ld (p := .pointer (some ⟨b_5, 0, none⟩)) (v := v_l) rfl (ldb_sc Sc27 (H.blk (k := 2) rfl) rfl)) ?_
   refine s_val (x_as (v := v_l) rfl) ?_
   refine s_val (x_as (v := I 0) rfl) ?_
   refine s_nil ?_
   refine WD.of ?_
   refine W.ret ?_
   refine bodyD_r (H.pick [0, 1, 2, 3, 4, 5, 6, 7, 8, 9] (by decide) rfl) ?_
   intro w91z H
   replace H : St w w91z [cOwn (α := Int) 3 v_l l, cBlk b_5 [v_l] 27, cBlk nb0_6 [I r00] 3, cBlk nb1_7 [I r10] 3, cBlk nb2_8 [.pointer (some ⟨nb0_2, 0, none⟩)] 102, cBlk b_4 [.func (.func 92) #[] #[]] 113, cBlk nb0_2 [v_b_Years, v_b_Olds, I r02, I r03, .map (some nb1_3)] 126, cMl I encSp nb1_3 r04, cBlk b_1 [v_b_Years, v_b_Olds, I b_First, I b_Last] 26] R := H
   have hr_ := M.e_pure hM
   exact ⟨_, resE_tmp2 rfl, ⟨l, 0, v_l, hr_, rfl, (H.pick [0] (by decide) rfl)⟩⟩
  obtain ⟨_, _, h_⟩ := hY88z; exact h_.elim
 replace hM := M.e_f hM c16z
 refine WD.of ?_
 refine W.skip ?_
 refine WD.seq ?_
 refine WD.of ?_
 refine W.region rfl ?_
 refine t_alloc (cs := [.slice none 0 0]) H Al27 rfl ?_
 intro b_5 w92z H
 refine s_nil ?_
 refine WD.seq ?_
 refine WD.seq ?_
 refine WD.of ?_
 refine W.region rfl ?_
 refine s_val (x_mv (v := .pointer (some ⟨nb0_2, 0, none⟩)) rfl) ?_
 refine s_val (x_fa (a := .pointer (some ⟨b_1, 0, none⟩)) (v := .pointer (some ⟨b_1, 2, none⟩)) rfl (fa_blk (o := 0) Fd26_2 Sz3)) ?_
 refine s_val (x_ld (p := .pointer (some ⟨b_1, 2, none⟩)) (v := I b_First) rfl (ldb_sc Sc3 (H.blk (k := 4) rfl) rfl)) ?_
 refine s_val (x_fa (a := .pointer (some ⟨b_1, 0, none⟩)) (v := .pointer (some ⟨b_1, 3, none⟩)) rfl (fa_blk (o := 0) Fd26_3 Sz3)) ?_
 refine s_val (x_ld (p := .pointer (some ⟨b_1, 3, none⟩)) (v := I b_Last) rfl (ldb_sc Sc3 (H.blk (k := 4) rfl) rfl)) ?_
 obtain ⟨r94z, hx93z, hM⟩ := M.e_bind hM
 refine s_call cf54 [.pointer (some ⟨nb0_2, 0, none⟩), I b_First, I b_Last] rfl (zaG b_Years b_Olds r02 r03 r04 b_First b_Last (hC_b_Years.app _) hs_b_Years (hC_b_Olds.app _) hs_b_Olds (Has.here (k := 3) rfl) (Has.here (k := 2) rfl) hx93z _ (St.give (T := [cBlk b_5 [.slice none 0 0] 27, cBlk b_4 [.func (.func 91) #[] #[]] 113, cBlk nb0_2 [v_b_Years, v_b_Olds, I r02, I r03, .map (some nb1_3)] 126, cMl I encSp nb1_3 r04, cBlk b_1 [v_b_Years, v_b_Olds, I b_First, I b_Last] 26, cMk ([])]) H rfl)) ?_
 rintro vq w95z ⟨r00, r10, nb0_6, nb1_7, nb2_8, hr96z, hvq, H2_⟩
 subst hr96z
 subst vq
 try dsimp only at hM
 replace H : St w w95z [cBlk nb0_6 [I r00] 3, cBlk nb1_7 [I r10] 3, cBlk nb2_8 [.pointer (some ⟨nb0_2, 0, none⟩)] 102, cBlk b_5 [.slice none 0 0] 27, cBlk b_4 [.func (.func 91) #[] #[]] 113, cBlk nb0_2 [v_b_Years, v_b_Olds, I r02, I r03, .map (some nb1_3)] 126, cMl I encSp nb1_3 r04, cBlk b_1 [v_b_Years, v_b_Olds, I b_First, I b_Last] 26, cMk ([])] R := H.back H2_ rfl
 clear H2_
 refine s_nil ?_
 refine WD.block ?_
 replace H : St w w95z [cOwn (α := Int) 3 (.slice none 0 0) ([]), cBlk nb0_6 [I r00] 3, cBlk nb1_7 [I r10] 3, cBlk nb2_8 [.pointer (some ⟨nb0_2, 0, none⟩)] 102, cBlk b_5 [.slice none 0 0] 27, cBlk b_4 [.func (.func 91) #[] #[]] 113, cBlk nb0_2 [v_b_Years, v_b_Olds, I r02, I r03, .map (some nb1_3)] 126, cMl I encSp nb1_3 r04, cBlk b_1 [v_b_Years, v_b_Olds, I b_First, I b_Last] 26, cMk ([])] R := H.nilOwn (α := Int) 3
 obtain ⟨t97z, hx98z, hM⟩ := M.e_bind hM
 refine WD.range (L := [cOwn (α := Int) 3 (.slice none 0 0) ([]), cBlk b_5 [(.slice none 0 0)] 27, cBlk nb0_6 [I r00] 3, cBlk nb1_7 [I r10] 3, cBlk nb2_8 [.pointer (some ⟨nb0_2, 0, none⟩)] 102, cBlk b_4 [.func (.func 91) #[] #[]] 113, cBlk nb0_2 [v_b_Years, v_b_Olds, I r02, I r03, .map (some nb1_3)] 126, cMl I encSp nb1_3 r04, cBlk b_1 [v_b_Years, v_b_Olds, I b_First, I b_Last] 26]) [.pointer (some ⟨nb0_6, 0, none⟩), .pointer (some ⟨nb1_7, 0, none⟩), .pointer (some ⟨nb2_8, 0, none⟩)] (H.pick [9, 0, 4, 1, 2, 3, 5, 6, 7, 8] (by decide) rfl) rfl cf90 ?_
 intro l99z D100z r101z w102z hr103z H
 have hYC : YieldC Try.prog ([cMk (D100z :: ([])), cBlk nb0_6 [I r00] 3, cBlk nb1_7 [I r10] 3, cBlk nb2_8 [.pointer (some ⟨nb0_2, 0, none⟩)] 102, cBlk b_4 [.func (.func 91) #[] #[]] 113, cBlk nb0_2 [v_b_Years, v_b_Olds, I r02, I r03, .map (some nb1_3)] 126, cMl I encSp nb1_3 r04, cBlk b_1 [v_b_Years, v_b_Olds, I b_First, I b_Last] 26] ++ R) arISpan (yJ l99z r101z (fun l Ls_ => ∃ (v_l : Value), Ls_ = [cOwn (α := Int) 3 v_l l, cBlk b_5 [v_l] 27]) (fun (_ : Unit) _ => False) (fun _ => .ret)) (.func (.yield l99z) #[] #[]) (M.yl zak) := by
  refine YieldC.mk2 hr103z (fun l Ls_ => ∃ (v_l : Value), Ls_ = [cOwn (α := Int) 3 v_l l, cBlk b_5 [v_l] 27]) (fun (_ : Unit) _ => False) (fun _ => .ret) zak (by rintro l _ h_; obtain ⟨_, rfl⟩ := h_; rfl) (fun _ _ h_ => h_.elim) rfl (arISpan_len rfl) ?_
  intro C_ vs_ x_ hA_
  obtain ⟨x, x2⟩ := x_
  obtain rfl := hA_
  intro w R hR_ Ls_ s_ r hY_ hM H
  skip
  obtain ⟨l, hs_eq_⟩ : ∃ y_, y_ = s_ := ⟨_, rfl⟩
  subst hs_eq_
  obtain ⟨v_l, rfl⟩ := hY_
  replace H : St w w [cOwn (α := Int) 3 v_l l, cBlk b_5 [v_l] 27, cMk (D100z :: ([])), cBlk nb0_6 [I r00] 3, cBlk nb1_7 [I r10] 3, cBlk nb2_8 [.pointer (some ⟨nb0_2, 0, none⟩)] 102, cBlk b_4 [.func (.func 91) #[] #[]] 113, cBlk nb0_2 [v_b_Years, v_b_Olds, I r02, I r03, .map (some nb1_3)] 126, cMl I encSp nb1_3 r04, cBlk b_1 [v_b_Years, v_b_Olds, I b_First, I b_Last] 26] R := H
  refine W.region rfl ?_
  refine t_alloc (cs := [I 0, I 0]) H Al35 rfl ?_
  intro b_9 w104z H
  refine t_st (k := 0) (b := b_9) (off := 0) (cs := [I 0, I 0]) (vs := [I x2.lo, I x2.hi]) (cs' := [I x2.lo, I x2.hi]) (v := .agg #[I x2.lo, I x2.hi]) (L' := [cBlk b_9 [I x2.lo, I x2.hi] 35, cOwn (α := Int) 3 v_l l, cBlk b_5 [v_l] 27, cMk (D100z :: ([])), cBlk nb0_6 [I r00] 3, cBlk nb1_7 [I r10] 3, cBlk nb2_8 [.pointer (some ⟨nb0_2, 0, none⟩)] 102, cBlk b_4 [.func (.func 91) #[] #[]] 113, cBlk nb0_2 [v_b_Years, v_b_Olds, I r02, I r03, .map (some nb1_3)] 126, cMl I encSp nb1_3 r04, cBlk b_1 [v_b_Years, v_b_Olds, I b_First, I b_Last] 26]) H rfl rfl rfl Sz35 rfl rfl rfl rfl rfl rfl ?_
  intro w105z H
  refine s_nil ?_
  refine ⟨rfl, [cBlk b_9 [I x2.lo, I x2.hi] 35], H.pick [0, 1, 2, 3, 4, 5, 6, 7, 8, 9, 10] (by decide) rfl, ?_⟩
  clear H hR_
  intro w R hR_ H
  replace hC_b_Years := hC_b_Years.sub hR_
  replace hC_b_Olds := hC_b_Olds.sub hR_
  replace hM : (zak l (x, x2)).Ends r := hM
  simp only [zak] at hM
  replace H : St w w [cBlk b_9 [I x2.lo, I x2.hi] 35, cOwn (α := Int) 3 v_l l, cBlk b_5 [v_l] 27, cMk (D100z :: ([])), cBlk nb0_6 [I r00] 3, cBlk nb1_7 [I r10] 3, cBlk nb2_8 [.pointer (some ⟨nb0_2, 0, none⟩)] 102, cBlk b_4 [.func (.func 91) #[] #[]] 113, cBlk nb0_2 [v_b_Years, v_b_Olds, I r02, I r03, .map (some nb1_3)] 126, cMl I encSp nb1_3 r04, cBlk b_1 [v_b_Years, v_b_Olds, I b_First, I b_Last] 26] R := H
  refine W.block ?_
  refine W.drawT (fun W => St w W [cBlk b_9 [I x2.lo, I x2.hi] 35, cMk (D100z :: ([])), cBlk nb0_6 [I r00] 3, cBlk nb1_7 [I r10] 3, cBlk nb2_8 [.pointer (some ⟨nb0_2, 0, none⟩)] 102, cBlk b_4 [.func (.func 91) #[] #[]] 113, cBlk nb0_2 [v_b_Years, v_b_Olds, I r02, I r03, .map (some nb1_3)] 126, cMl I encSp nb1_3 r04, cBlk b_1 [v_b_Years, v_b_Olds, I b_First, I b_Last] 26] R) (.q 1 (.q 2 (.q 3 (.l2 0 (.l 4 (.l 5 (.l 6 (.l 7 .nil)))) 4 (.l2 0 (.l 5 (.l 6 (.l 7 .nil))) 5 (.l 0 (.l 6 (.l 7 .nil)))))))) mixed (by decide +kernel) rfl ?_
  intro w106z hx_
  replace H : St w w106z [cBlk b_9 [I x2.lo, I x2.hi] 35, cOwn (α := Int) 3 v_l l, cBlk b_5 [v_l] 27, cMk (D100z :: ([])), cBlk nb0_6 [I r00] 3, cBlk nb1_7 [I r10] 3, cBlk nb2_8 [.pointer (some ⟨nb0_2, 0, none⟩)] 102, cBlk b_4 [.func (.func 91) #[] #[]] 113, cBlk nb0_2 [v_b_Years, v_b_Olds, I r02, I r03, .map (some nb1_3)] 126, cMl I encSp nb1_3 r04, cBlk b_1 [v_b_Years, v_b_Olds, I b_First, I b_Last] 26] R := H.ext hx_
  clear hx_
  refine ⟨(H.pick [0, 3, 4, 5, 6, 7, 8, 9, 10] (by decide) rfl), ?_⟩
  refine t_q rfl (fun w' H => x_fa (a := .pointer (some ⟨b_4, 0, none⟩)) (v := .pointer (some ⟨b_4, 0, none⟩)) rfl (fa_blk (o := 0) Fd113_0 Sz111)) ?_
  refine t_q rfl (fun w' H => x_ld (p := .pointer (some ⟨b_4, 0, none⟩)) (v := .func (.func 91) #[] #[]) rfl (ldb_sc Sc111 (H.blk (k := 5) rfl) rfl)) ?_
  refine t_q rfl (fun w' H => x_ld (p := .pointer (some ⟨b_9, 0, none⟩)) (v := .agg #[I x2.lo, I x2.hi]) rfl (ldb_ag (ds := [I x2.lo, I x2.hi]) Ag35 Sz35 (H.blk (k := 0) rfl) rfl rfl)) ?_
  refine t_l2 rfl rfl ?_ ?_
  ·skip
   refine s_val (x_ld (p := .pointer (some ⟨b_5, 0, none⟩)) (v := v_l) rfl (ldb_sc Sc27 (H.blk (k := 2) rfl) rfl)) ?_
   have hvc_q117z := Sl.cells (ownSl (H.get (k := 1) rfl))
   have hvo_q117z := Sl.oc (ownSl (H.get (k := 1) rfl))
   refine s_nil ⟨(H.pick [0, 3, 4, 5, 6, 7, 8, 9, 10] (by decide) rfl), ?_⟩
   refine t_l rfl ?_
   obtain ⟨r119z, hx118z, hM⟩ := M.e_bind hM
   refine s_callv (f := 91) rfl cf91 [.agg #[I x2.lo, I x2.hi]] rfl (za3 x2 hx118z _ (St.give (T := [cBlk b_9 [I x2.lo, I x2.hi] 35, cOwn (α := Int) 3 v_l l, cBlk b_5 [v_l] 27, cMk (D100z :: ([])), cBlk nb0_6 [I r00] 3, cBlk nb1_7 [I r10] 3, cBlk nb2_8 [.pointer (some ⟨nb0_2, 0, none⟩)] 102, cBlk b_4 [.func (.func 91) #[] #[]] 113, cBlk nb0_2 [v_b_Years, v_b_Olds, I r02, I r03, .map (some nb1_3)] 126, cMl I encSp nb1_3 r04, cBlk b_1 [v_b_Years, v_b_Olds, I b_First, I b_Last] 26]) H rfl)) ?_
   rintro vq w120z ⟨r2, hr121z, hvq, H2_⟩
   subst hr121z
   subst vq
   try dsimp only at hM
   replace H : St w w120z [cBlk b_9 [I x2.lo, I x2.hi] 35, cOwn (α := Int) 3 v_l l, cBlk b_5 [v_l] 27, cMk (D100z :: ([])), cBlk nb0_6 [I r00] 3, cBlk nb1_7 [I r10] 3, cBlk nb2_8 [.pointer (some ⟨nb0_2, 0, none⟩)] 102, cBlk b_4 [.func (.func 91) #[] #[]] 113, cBlk nb0_2 [v_b_Years, v_b_Olds, I r02, I r03, .map (some nb1_3)] 126, cMl I encSp nb1_3 r04, cBlk b_1 [v_b_Years, v_b_Olds, I b_First, I b_Last] 26] R := H.back H2_ rfl
   clear H2_
   refine s_nil ⟨(H.pick [0, 3, 4, 5, 6, 7, 8, 9, 10] (by decide) rfl), ?_⟩
   refine t_l rfl ?_
   refine t_bs (α := Int) T27 [I r2] [(r2 : Int)] H rfl (.cons rfl (Flat.rep_enc _ (r2 : Int)) <| .nil) rfl rfl rfl ?_
   intro v122z w123z H
   have hvc_q124z := Sl.cells (ownSl (H.get (k := 0) rfl))
   have hvo_q124z := Sl.oc (ownSl (H.get (k := 0) rfl))
   refine s_nil ⟨(H.pick [1, 4, 5, 6, 7, 8, 9, 10, 11] (by decide) rfl), ?_⟩
   refine t_l rfl ?_
   obtain ⟨sd125z, hM⟩ := M.e_grd hM
   simp only [Bool.and_eq_true, decide_eq_true_eq] at sd125z
   refine t_app (α := Int) (k := 2) (l := l) (l2 := [(r2 : Int)]) (l' := l ++ ([(r2 : Int)])) (vy := v122z) T27 rfl H rfl rfl rfl (ownSl (H.get (k := 0) rfl)) (ownLe _ (H.get (k := 0) rfl)) (rfl) (by first | omega | (simp only [List.length_nil] at *; omega)) ?_
   intro v126z w127z H
   replace H : St w w127z [cOwn (α := Int) 3 v122z ([(r2 : Int)]), cBlk b_9 [I x2.lo, I x2.hi] 35, cOwn (α := Int) 3 v126z (l ++ ([(r2 : Int)])), cBlk b_5 [v_l] 27, cMk (D100z :: ([])), cBlk nb0_6 [I r00] 3, cBlk nb1_7 [I r10] 3, cBlk nb2_8 [.pointer (some ⟨nb0_2, 0, none⟩)] 102, cBlk b_4 [.func (.func 91) #[] #[]] 113, cBlk nb0_2 [v_b_Years, v_b_Olds, I r02, I r03, .map (some nb1_3)] 126, cMl I encSp nb1_3 r04, cBlk b_1 [v_b_Years, v_b_Olds, I b_First, I b_Last] 26] R := H
   have hvc_q128z := Sl.cells (ownSl (H.get (k := 2) rfl))
   have hvo_q128z := Sl.oc (ownSl (H.get (k := 2) rfl))
   refine s_nil ⟨(H.pick [1, 4, 5, 6, 7, 8, 9, 10, 11] (by decide) rfl), ?_⟩
   refine t_l rfl ?_
   refine t_st (k := 3) (b := b_5) (off := 0) (cs := [v_l]) (vs := [v126z]) (cs' := [v126z]) (v := v126z) (L' := [cOwn (α := Int) 3 v122z ([(r2 : Int)]), cBlk b_9 [I x2.lo, I x2.hi] 35, cOwn (α := Int) 3 v126z (l ++ ([(r2 : Int)])), cBlk b_5 [v126z] 27, cMk (D100z :: ([])), cBlk nb0_6 [I r00] 3, cBlk nb1_7 [I r10] 3, cBlk nb2_8 [.pointer (some ⟨nb0_2, 0, none⟩)] 102, cBlk b_4 [.func (.func 91) #[] #[]] 113, cBlk nb0_2 [v_b_Years, v_b_Olds, I r02, I r03, .map (some nb1_3)] 126, cMl I encSp nb1_3 r04, cBlk b_1 [v_b_Years, v_b_Olds, I b_First, I b_Last] 26]) H rfl rfl rfl Sz27 (Sl.cells (ownSl (H.get (k := 2) rfl))) rfl rfl (by simp only [List.all_cons, List.all_nil, Bool.true_and, Bool.and_true, Sl.oc (ownSl (H.get (k := 2) rfl))]; try rfl) rfl rfl ?_
   intro w129z H
   refine s_nil ⟨(H.pick [1, 4, 5, 6, 7, 8, 9, 10, 11] (by decide) rfl), ?_⟩
   refine t_nil ?_
   exact ⟨l ++ ([(r2 : Int)]), [cOwn (α := Int) 3 v126z (l ++ ([(r2 : Int)])), cBlk b_5 [v126z] 27], (M.e_pure hM).symm, ⟨v126z, rfl⟩, H.pick [2, 3, 4, 5, 6, 7, 8, 9, 10, 11] (by decide) rfl⟩
  skip
  obtain ⟨r131z, hx130z, hM⟩ := M.e_bind hM
  refine s_callv (f := 91) rfl cf91 [.agg #[I x2.lo, I x2.hi]] rfl (za3 x2 hx130z _ (St.give (T := [cBlk b_9 [I x2.lo, I x2.hi] 35, cOwn (α := Int) 3 v_l l, cBlk b_5 [v_l] 27, cMk (D100z :: ([])), cBlk nb0_6 [I r00] 3, cBlk nb1_7 [I r10] 3, cBlk nb2_8 [.pointer (some ⟨nb0_2, 0, none⟩)] 102, cBlk b_4 [.func (.func 91) #[] #[]] 113, cBlk nb0_2 [v_b_Years, v_b_Olds, I r02, I r03, .map (some nb1_3)] 126, cMl I encSp nb1_3 r04, cBlk b_1 [v_b_Years, v_b_Olds, I b_First, I b_Last] 26]) H rfl)) ?_
  rintro vq w132z ⟨r2, hr133z, hvq, H2_⟩
  subst hr133z
  subst vq
  try dsimp only at hM
  replace H : St w w132z [cBlk b_9 [I x2.lo, I x2.hi] 35, cOwn (α := Int) 3 v_l l, cBlk b_5 [v_l] 27, cMk (D100z :: ([])), cBlk nb0_6 [I r00] 3, cBlk nb1_7 [I r10] 3, cBlk nb2_8 [.pointer (some ⟨nb0_2, 0, none⟩)] 102, cBlk b_4 [.func (.func 91) #[] #[]] 113, cBlk nb0_2 [v_b_Years, v_b_Olds, I r02, I r03, .map (some nb1_3)] 126, cMl I encSp nb1_3 r04, cBlk b_1 [v_b_Years, v_b_Olds, I b_First, I b_Last] 26] R := H.back H2_ rfl
  clear H2_
  have hvc_q134z := Sl.cells (ownSl (H.get (k := 1) rfl))
  have hvo_q134z := Sl.oc (ownSl (H.get (k := 1) rfl))
  refine s_nil ⟨(H.pick [0, 3, 4, 5, 6, 7, 8, 9, 10] (by decide) rfl), ?_⟩
  obtain ⟨sd137z, hM⟩ := M.e_grd hM
  simp only [Bool.and_eq_true, decide_eq_true_eq] at sd137z
  refine t_l2 rfl rfl ?_ ?_
  ·skip
   refine s_val (x_ld (p := .pointer (some ⟨b_5, 0, none⟩)) (v := v_l) rfl (ldb_sc Sc27 (H.blk (k := 2) rfl) rfl)) ?_
   refine s_nil ⟨(H.pick [0, 3, 4, 5, 6, 7, 8, 9, 10] (by decide) rfl), ?_⟩
   refine t_l rfl ?_
   refine t_bs (α := Int) T27 [I r2] [(r2 : Int)] H rfl (.cons rfl (Flat.rep_enc _ (r2 : Int)) <| .nil) rfl rfl rfl ?_
   intro v141z w142z H
   have hvc_q143z := Sl.cells (ownSl (H.get (k := 0) rfl))
   have hvo_q143z := Sl.oc (ownSl (H.get (k := 0) rfl))
   refine s_nil ⟨(H.pick [1, 4, 5, 6, 7, 8, 9, 10, 11] (by decide) rfl), ?_⟩
   refine t_l rfl ?_
   refine t_app (α := Int) (k := 2) (l := l) (l2 := [(r2 : Int)]) (l' := l ++ ([(r2 : Int)])) (vy := v141z) T27 rfl H rfl rfl rfl (ownSl (H.get (k := 0) rfl)) (ownLe _ (H.get (k := 0) rfl)) (rfl) (by first | omega | (simp only [List.length_nil] at *; omega)) ?_
   intro v144z w145z H
   replace H : St w w145z [cOwn (α := Int) 3 v141z ([(r2 : Int)]), cBlk b_9 [I x2.lo, I x2.hi] 35, cOwn (α := Int) 3 v144z (l ++ ([(r2 : Int)])), cBlk b_5 [v_l] 27, cMk (D100z :: ([])), cBlk nb0_6 [I r00] 3, cBlk nb1_7 [I r10] 3, cBlk nb2_8 [.pointer (some ⟨nb0_2, 0, none⟩)] 102, cBlk b_4 [.func (.func 91) #[] #[]] 113, cBlk nb0_2 [v_b_Years, v_b_Olds, I r02, I r03, .map (some nb1_3)] 126, cMl I encSp nb1_3 r04, cBlk b_1 [v_b_Years, v_b_Olds, I b_First, I b_Last] 26] R := H
   have hvc_q146z := Sl.cells (ownSl (H.get (k := 2) rfl))
   have hvo_q146z := Sl.oc (ownSl (H.get (k := 2) rfl))
   refine s_nil ⟨(H.pick [1, 4, 5, 6, 7, 8, 9, 10, 11] (by decide) rfl), ?_⟩
   refine t_l rfl ?_
   refine t_st (k := 3) (b := b_5) (off := 0) (cs := [v_l]) (vs := [v144z]) (cs' := [v144z]) (v := v144z) (L' := [cOwn (α := Int) 3 v141z ([(r2 : Int)]), cBlk b_9 [I x2.lo, I x2.hi] 35, cOwn (α := Int) 3 v144z (l ++ ([(r2 : Int)])), cBlk b_5 [v144z] 27, cMk (D100z :: ([])), cBlk nb0_6 [I r00] 3, cBlk nb1_7 [I r10] 3, cBlk nb2_8 [.pointer (some ⟨nb0_2, 0, none⟩)] 102, cBlk b_4 [.func (.func 91) #[] #[]] 113, cBlk nb0_2 [v_b_Years, v_b_Olds, I r02, I r03, .map (some nb1_3)] 126, cMl I encSp nb1_3 r04, cBlk b_1 [v_b_Years, v_b_Olds, I b_First, I b_Last] 26]) H rfl rfl rfl Sz27 (Sl.cells (ownSl (H.get (k := 2) rfl))) rfl rfl (by simp only [List.all_cons, List.all_nil, Bool.true_and, Bool.and_true, Sl.oc (ownSl (H.get (k := 2) rfl))]; try rfl) rfl rfl ?_
   intro w147z H
   refine s_nil ⟨(H.pick [1, 4, 5, 6, 7, 8, 9, 10, 11] (by decide) rfl), ?_⟩
   refine t_nil ?_
   exact ⟨l ++ ([(r2 : Int)]), [cOwn (α := Int) 3 v144z (l ++ ([(r2 : Int)])), cBlk b_5 [v144z] 27], (M.e_pure hM).symm, ⟨v144z, rfl⟩, H.pick [2, 3, 4, 5, 6, 7, 8, 9, 10, 11] (by decide) rfl⟩
  skip
  refine t_bs (α := Int) T27 [I r2] [(r2 : Int)] H rfl (.cons rfl (Flat.rep_enc _ (r2 : Int)) <| .nil) rfl rfl rfl ?_
  intro v148z w149z H
  have hvc_q150z := Sl.cells (ownSl (H.get (k := 0) rfl))
  have hvo_q150z := Sl.oc (ownSl (H.get (k := 0) rfl))
  refine s_nil ⟨(H.pick [1, 4, 5, 6, 7, 8, 9, 10, 11] (by decide) rfl), ?_⟩
  refine t_l rfl ?_
  refine s_val (x_ld (p := .pointer (some ⟨b_5, 0, none⟩)) (v := v_l) rfl (ldb_sc Sc27 (H.blk (k := 3) rfl) rfl)) ?_
  refine s_nil ⟨(H.pick [1, 4, 5, 6, 7, 8, 9, 10, 11] (by decide) rfl), ?_⟩
  refine t_l rfl ?_
  refine t_app (α := Int) (k := 2) (l := l) (l2 := [(r2 : Int)]) (l' := l ++ ([(r2 : Int)])) (vy := v148z) T27 rfl H rfl rfl rfl (ownSl (H.get (k := 0) rfl)) (ownLe _ (H.get (k := 0) rfl)) (rfl) (by first | omega | (simp only [List.length_nil] at *; omega)) ?_
  intro v151z w152z H
  replace H : St w w152z [cOwn (α := Int) 3 v148z ([(r2 : Int)]), cBlk b_9 [I x2.lo, I x2.hi] 35, cOwn (α := Int) 3 v151z (l ++ ([(r2 : Int)])), cBlk b_5 [v_l] 27, cMk (D100z :: ([])), cBlk nb0_6 [I r00] 3, cBlk nb1_7 [I r10] 3, cBlk nb2_8 [.pointer (some ⟨nb0_2, 0, none⟩)] 102, cBlk b_4 [.func (.func 91) #[] #[]] 113, cBlk nb0_2 [v_b_Years, v_b_Olds, I r02, I r03, .map (some nb1_3)] 126, cMl I encSp nb1_3 r04, cBlk b_1 [v_b_Years, v_b_Olds, I b_First, I b_Last] 26] R := H
  have hvc_q153z := Sl.cells (ownSl (H.get (k := 2) rfl))
  have hvo_q153z := Sl.oc (ownSl (H.get (k := 2) rfl))
  refine s_nil ⟨(H.pick [1, 4, 5, 6, 7, 8, 9, 10, 11] (by decide) rfl), ?_⟩
  refine t_l rfl ?_
  refine t_st (k := 3) (b := b_5) (off := 0) (cs := [v_l]) (vs := [v151z]) (cs' := [v151z]) (v := v151z) (L' := [cOwn (α := Int) 3 v148z ([(r2 : Int)]), cBlk b_9 [I x2.lo, I x2.hi] 35, cOwn (α := Int) 3 v151z (l ++ ([(r2 : Int)])), cBlk b_5 [v151z] 27, cMk (D100z :: ([])), cBlk nb0_6 [I r00] 3, cBlk nb1_7 [I r10] 3, cBlk nb2_8 [.pointer (some ⟨nb0_2, 0, none⟩)] 102, cBlk b_4 [.func (.func 91) #[] #[]] 113, cBlk nb0_2 [v_b_Years, v_b_Olds, I r02, I r03, .map (some nb1_3)] 126, cMl I encSp nb1_3 r04, cBlk b_1 [v_b_Years, v_b_Olds, I b_First, I b_Last] 26]) H rfl rfl rfl Sz27 (Sl.cells (ownSl (H.get (k := 2) rfl))) rfl rfl (by simp only [List.all_cons, List.all_nil, Bool.true_and, Bool.and_true, Sl.oc (ownSl (H.get (k := 2) rfl))]; try rfl) rfl rfl ?_
  intro w154z H
  refine s_nil ⟨(H.pick [1, 4, 5, 6, 7, 8, 9, 10, 11] (by decide) rfl), ?_⟩
  refine t_nil ?_
  exact ⟨l ++ ([(r2 : Int)]), [cOwn (α := Int) 3 v151z (l ++ ([(r2 : Int)])), cBlk b_5 [v151z] 27], (M.e_pure hM).symm, ⟨v151z, rfl⟩, H.pick [2, 3, 4, 5, 6, 7, 8, 9, 10, 11] (by decide) rfl⟩
 replace H : St w w102z (cAll (cObj l99z (.loop r101z) :: [cOwn (α := Int) 3 (.slice none 0 0) ([]), cBlk b_5 [(.slice none 0 0)] 27]) :: [cMk (D100z :: ([])), cBlk nb0_6 [I r00] 3, cBlk nb1_7 [I r10] 3, cBlk nb2_8 [.pointer (some ⟨nb0_2, 0, none⟩)] 102, cBlk b_4 [.func (.func 91) #[] #[]] 113, cBlk nb0_2 [v_b_Years, v_b_Olds, I r02, I r03, .map (some nb1_3)] 126, cMl I encSp nb1_3 r04, cBlk b_1 [v_b_Years, v_b_Olds, I b_First, I b_Last] 26]) R := St.bundleB (A := cObj l99z (.loop r101z) :: [cOwn (α := Int) 3 (.slice none 0 0) ([]), cBlk b_5 [(.slice none 0 0)] 27]) (T := [cMk (D100z :: ([])), cBlk nb0_6 [I r00] 3, cBlk nb1_7 [I r10] 3, cBlk nb2_8 [.pointer (some ⟨nb0_2, 0, none⟩)] 102, cBlk b_4 [.func (.func 91) #[] #[]] 113, cBlk nb0_2 [v_b_Years, v_b_Olds, I r02, I r03, .map (some nb1_3)] 126, cMl I encSp nb1_3 r04, cBlk b_1 [v_b_Years, v_b_Olds, I b_First, I b_Last] 26]) rfl (H.pick [0, 2, 3, 1, 4, 5, 6, 7, 8, 9, 10] (by decide) rfl)
 refine (zaw (M.yl zak) (.inl ([])) r00 r10 b_Years b_Olds r02 r03 r04 hYC ⟨_, rfl, ⟨(.slice none 0 0), rfl⟩⟩ (Has.here (k := 1) rfl) (Has.here (k := 2) rfl) (hC_b_Years.app _) hs_b_Years (hC_b_Olds.app _) hs_b_Olds (Has.here (k := 6) rfl) (Has.here (k := 5) rfl) (Has.here (k := 3) rfl) hx98z _ (St.give (A := [cAll (cObj l99z (.loop r101z) :: [cOwn (α := Int) 3 (.slice none 0 0) ([]), cBlk b_5 [(.slice none 0 0)] 27])]) (T := [cMk (D100z :: ([])), cBlk nb0_6 [I r00] 3, cBlk nb1_7 [I r10] 3, cBlk nb2_8 [.pointer (some ⟨nb0_2, 0, none⟩)] 102, cBlk b_4 [.func (.func 91) #[] #[]] 113, cBlk nb0_2 [v_b_Years, v_b_Olds, I r02, I r03, .map (some nb1_3)] 126, cMl I encSp nb1_3 r04, cBlk b_1 [v_b_Years, v_b_Olds, I b_First, I b_Last] 26]) H rfl)).mono ?_
 rintro vq w155z ⟨t159z, Ls157z, hq160z, hvq, H2_, hY158z⟩
 subst hq160z
 replace H := H.back H2_ rfl
 clear H2_ hYC
 rcases t159z with l | _
 ·try dsimp only at hM
  obtain ⟨_, rfl, v_l, rfl⟩ := hY158z
  refine ⟨_, [cOwn (α := Int) 3 v_l l, cBlk b_5 [v_l] 27, cBlk nb0_6 [I r00] 3, cBlk nb1_7 [I r10] 3, cBlk nb2_8 [.pointer (some ⟨nb0_2, 0, none⟩)] 102, cBlk b_4 [.func (.func 91) #[] #[]] 113, cBlk nb0_2 [v_b_Years, v_b_Olds, I r02, I r03, .map (some nb1_3)] 126, cMl I encSp nb1_3 r04, cBlk b_1 [v_b_Years, v_b_Olds, I b_First, I b_Last] 26], H.unbundle.pick [0, 3, 1, 2, 4, 5, 6, 7, 8, 9, 10] (by decide) rfl, hr103z.nb, ?_⟩
  intro w156z H
  rw [hr103z.pd]
  replace H : St w w156z [cMk (D100z :: ([])), cOwn (α := Int) 3 v_l l, cBlk b_5 [v_l] 27, cBlk nb0_6 [I r00] 3, cBlk nb1_7 [I r10] 3, cBlk nb2_8 [.pointer (some ⟨nb0_2, 0, none⟩)] 102, cBlk b_4 [.func (.func 91) #[] #[]] 113, cBlk nb0_2 [v_b_Years, v_b_Olds, I r02, I r03, .map (some nb1_3)] 126, cMl I encSp nb1_3 r04, cBlk b_1 [v_b_Years, v_b_Olds, I b_First, I b_Last] 26] R := H
  try simp only []
  refine WD.seq ?_
  refine WD.of ?_
  refine W.region rfl ?_
  refine s_val (x_ld (p := .pointer (some ⟨b_5, 0, none⟩)) (v := v_l) rfl (ldb_sc Sc27 (H.blk (k := 2) rfl) rfl)) ?_
  refine s_val (x_as (v := v_l) rfl) ?_
  refine s_val (x_as (v := I 0) rfl) ?_
  refine s_nil ?_
  refine WD.of ?_
  refine W.ret ?_
  refine bodyD_r (H.pick [0, 1, 2, 3, 4, 5, 6, 7, 8, 9] (by decide) rfl) ?_
  intro w161z H
  replace H : St w w161z [cOwn (α := Int) 3 v_l l, cBlk b_5 [v_l] 27, cBlk nb0_6 [I r00] 3, cBlk nb1_7 [I r10] 3, cBlk nb2_8 [.pointer (some ⟨nb0_2, 0, none⟩)] 102, cBlk b_4 [.func (.func 91) #[] #[]] 113, cBlk nb0_2 [v_b_Years, v_b_Olds, I r02, I r03, .map (some nb1_3)] 126, cMl I encSp nb1_3 r04, cBlk b_1 [v_b_Years, v_b_Olds, I b_First, I b_Last] 26] R := H
  have hr_ := M.e_pure hM
  exact ⟨_, resE_tmp2 rfl, ⟨l, 0, v_l, hr_, rfl, (H.pick [0] (by decide) rfl)⟩⟩
 obtain ⟨_, _, h_⟩ := hY158z; exact h_.elim

end Go.Proofs.Ytcgalcbkkijkhaa
end
section
set_option maxRecDepth 100000
set_option maxHeartbeats 16000000
namespace Go.Proofs.Ytcgalcbkkijkhaa
open Go Go.Nm
def zbh (b_Years : List Yr) (b_Olds : List Old10) (b_First : Int) (b_Last : Int) (from_ : Int) (to_ : Int) (n : Int) (first : Int) (last : Int) : M Int :=
  M.bind (zbH b_Years b_Olds b_First b_Last) fun (r0, r1) =>
  bif ((r1 != 0) && (r1 != 5)) then (
  M.pure r1)
  else (
  bif (((decide (from_ < b_First)) || (decide (b_Last < to_))) || (decide (to_ < from_))) then (
  M.pure 2)
  else (
  M.bind (zac n first last) fun r2 =>
  bif r2 then (
  M.pure 4)
  else (
  bif r1 == 0 then (
  M.pure 6)
  else (
  M.pure 0))))
theorem zcu {R : List Chunk} {C_b_Years : Cells} {v_b_Years : Value} {C_b_Olds : Cells} {v_b_Olds : Value} (b_Years : List Yr) (b_Olds : List Old10) (b_First : Int) (b_Last : Int) (from_ : Int) (to_ : Int) (n : Int) (first : Int) (last : Int) (hC_b_Years : Reads R C_b_Years) (hs_b_Years : Sl C_b_Years v_b_Years b_Years) (hC_b_Olds : Reads R C_b_Olds) (hs_b_Olds : Sl C_b_Olds v_b_Olds b_Olds) {r : Int} (hM : (zbh b_Years b_Olds b_First b_Last from_ to_ n first last).Ends r) (w : World) (H : St w w [] R) : Ret Try.prog 65 #[.agg #[v_b_Years, v_b_Olds, I b_First, I b_Last], I from_, I to_, I n, I first, I last] w fun v w' => ∃ (y0 : Int), y0 = r /\ v = I y0 /\ St w w' [] R := by
 refine ret_of_W Try.func65 rfl rfl rfl ?_
 refine W.seq ?_
 refine W.region rfl ?_
 refine t_box (v := .agg #[v_b_Years, v_b_Olds, I b_First, I b_Last]) (cs := [v_b_Years, v_b_Olds, I b_First, I b_Last]) H rfl rfl ?_
 intro b_1 w1z H
 refine s_val (x_as (v := I 0) rfl) ?_
 refine s_nil ?_
 refine W.seq ?_
 refine W.region rfl ?_
 refine s_val (x_ld (p := .pointer (some ⟨b_1, 0, none⟩)) (v := .agg #[v_b_Years, v_b_Olds, I b_First, I b_Last]) rfl (ldb_ag (ds := [v_b_Years, v_b_Olds, I b_First, I b_Last]) Ag55 Sz55 (H.blk (k := 0) rfl) rfl rfl)) ?_
 obtain ⟨r3z, hx2z, hM⟩ := M.e_bind hM
 refine s_call cf50 [.agg #[v_b_Years, v_b_Olds, I b_First, I b_Last]] rfl (zc6 b_Years b_Olds b_First b_Last (hC_b_Years.app _) hs_b_Years (hC_b_Olds.app _) hs_b_Olds hx2z _ (St.give (T := [cBlk b_1 [v_b_Years, v_b_Olds, I b_First, I b_Last] 55]) H rfl)) ?_
 rintro vq w4z ⟨r0, r1, hr5z, hvq, H2_⟩
 subst hr5z
 subst vq
 try dsimp only at hM
 replace H : St w w4z [cBlk b_1 [v_b_Years, v_b_Olds, I b_First, I b_Last] 55] R := H.back H2_ rfl
 clear H2_
 refine s_val (x_mv (v := .tuple #[I r0, I r1]) rfl) ?_
 refine s_val (x_ext (vs := [I r0, I r1]) (v := I r0) rfl rfl) ?_
 refine s_val (x_ext (vs := [I r0, I r1]) (v := I r1) rfl rfl) ?_
 refine s_val (x_as (v := I r0) rfl) ?_
 refine s_val (x_as (v := I r1) rfl) ?_
 refine s_nil ?_
 refine W.seq ?_
 refine W.seq ?_
 refine W.region rfl ?_
 refine s_val (x_mv (v := I r1) rfl) ?_
 refine s_val (x_cmp (kd := .i64) (a := r1) (b := 0) (r := r1 != 0) rfl rfl rfl) ?_
 refine s_val (x_mv (v := B (r1 != 0)) rfl) ?_
 refine g_val (r1 != 0) (gy_t rfl) (fun hg => x_mv (v := I r1) rfl) ?_
 refine g_val (r1 != 0) (gy_t rfl) (fun hg => x_cmp (kd := .i64) (a := r1) (b := 5) (r := r1 != 5) (gd_of (c := r1 != 0) hg (I r1)) rfl rfl) ?_
 refine s_val (x_pand (b := r1 != 0) (r := r1 != 5) rfl (fun hb => gd_of (c := r1 != 0) (by first | exact hb | (rw [hb]; rfl) | simp_all) (B (r1 != 5))) rfl) ?_
 refine s_nil ?_
 refine W.cond ((r1 != 0) && (r1 != 5)) rfl (fun c6z => ?_) (fun c6z => ?_)
 ·replace hM := M.e_t hM c6z
  refine W.seq ?_
  refine W.region rfl ?_
  refine s_val (x_mv (v := I r1) rfl) ?_
  refine s_val (x_as (v := I r1) rfl) ?_
  refine s_nil ?_
  refine W.ret ?_
  have hr_ := M.e_pure hM
  exact ⟨_, resE_tmp rfl, ⟨r1, hr_, rfl, (H.pick [] (by decide) rfl)⟩⟩
 replace hM := M.e_f hM c6z
 refine W.skip ?_
 refine W.seq ?_
 refine W.seq ?_
 refine W.region rfl ?_
 refine s_val (x_mv (v := I from_) rfl) ?_
 refine s_val (x_fa (a := .pointer (some ⟨b_1, 0, none⟩)) (v := .pointer (some ⟨b_1, 2, none⟩)) rfl (fa_blk (o := 0) Fd55_2 Sz3)) ?_
 refine s_val (x_ld (p := .pointer (some ⟨b_1, 2, none⟩)) (v := I b_First) rfl (ldb_sc Sc3 (H.blk (k := 0) rfl) rfl)) ?_
 refine s_val (x_cmp (kd := .i64) (a := from_) (b := b_First) (r := decide (from_ < b_First)) rfl rfl rfl) ?_
 refine s_val (x_mv (v := B (decide (from_ < b_First))) rfl) ?_
 refine g_val (!(decide (from_ < b_First))) (gy_f rfl) (fun hg => x_mv (v := I to_) rfl) ?_
 refine g_val (!(decide (from_ < b_First))) (gy_f rfl) (fun hg => x_fa (a := .pointer (some ⟨b_1, 0, none⟩)) (v := .pointer (some ⟨b_1, 3, none⟩)) rfl (fa_blk (o := 0) Fd55_3 Sz3)) ?_
 refine g_val (!(decide (from_ < b_First))) (gy_f rfl) (fun hg => x_ld (p := .pointer (some ⟨b_1, 3, none⟩)) (v := I b_Last) (gd_of (c := !(decide (from_ < b_First))) hg (.pointer (some ⟨b_1, 3, none⟩))) (ldb_sc Sc3 (H.blk (k := 0) rfl) rfl)) ?_
 refine g_val (!(decide (from_ < b_First))) (gy_f rfl) (fun hg => x_cmp (kd := .i64) (a := to_) (b := b_Last) (r := decide (b_Last < to_)) (gd_of (c := !(decide (from_ < b_First))) hg (I to_)) (gd_of (c := !(decide (from_ < b_First))) hg (I b_Last)) rfl) ?_
 refine s_val (x_por (b := decide (from_ < b_First)) (r := decide (b_Last < to_)) rfl rfl (fun hb => gd_of (c := !(decide (from_ < b_First))) (by first | exact hb | (rw [hb]; rfl) | simp_all) (B (decide (b_Last < to_))))) ?_
 refine s_val (x_mv (v := B ((decide (from_ < b_First)) || (decide (b_Last < to_)))) rfl) ?_
 refine g_val (!((decide (from_ < b_First)) || (decide (b_Last < to_)))) (gy_f rfl) (fun hg => x_mv (v := I from_) rfl) ?_
 refine g_val (!((decide (from_ < b_First)) || (decide (b_Last < to_)))) (gy_f rfl) (fun hg => x_mv (v := I to_) rfl) ?_
 refine g_val (!((decide (from_ < b_First)) || (decide (b_Last < to_)))) (gy_f rfl) (fun hg => x_cmp (kd := .i64) (a := from_) (b := to_) (r := decide (to_ < from_)) (gd_of (c := !((decide (from_ < b_First)) || (decide (b_Last < to_)))) hg (I from_)) (gd_of (c := !((decide (from_ < b_First)) || (decide (b_Last < to_)))) hg (I to_)) rfl) ?_
 refine s_val (x_por (b := ((decide (from_ < b_First)) || (decide (b_Last < to_)))) (r := decide (to_ < from_)) rfl rfl (fun hb => gd_of (c := !((decide (from_ < b_First)) || (decide (b_Last < to_)))) (by first | exact hb | (rw [hb]; rfl) | simp_all) (B (decide (to_ < from_))))) ?_
 refine s_nil ?_
 refine W.cond (((decide (from_ < b_First)) || (decide (b_Last < to_))) || (decide (to_ < from_))) rfl (fun c7z => ?_) (fun c7z => ?_)
 ·replace hM := M.e_t hM c7z
  refine W.seq ?_
  refine W.region rfl ?_
  refine s_val (x_as (v := I 2) rfl) ?_
  refine s_nil ?_
  refine W.ret ?_
  have hr_ := M.e_pure hM
  exact ⟨_, resE_tmp rfl, ⟨2, hr_, rfl, (H.pick [] (by decide) rfl)⟩⟩
 replace hM := M.e_f hM c7z
 refine W.skip ?_
 refine W.seq ?_
 refine W.seq ?_
 refine W.region rfl ?_
 refine s_val (x_mv (v := I n) rfl) ?_
 refine s_val (x_mv (v := I first) rfl) ?_
 refine s_val (x_mv (v := I last) rfl) ?_
 obtain ⟨r9z, hx8z, hM⟩ := M.e_bind hM
 refine s_call cf67 [I n, I first, I last] rfl (zae n first last hx8z _ (St.give (T := [cBlk b_1 [v_b_Years, v_b_Olds, I b_First, I b_Last] 55]) H rfl)) ?_
 rintro vq w10z ⟨r2, hr11z, hvq, H2_⟩
 subst hr11z
 subst vq
 try dsimp only at hM
 replace H : St w w10z [cBlk b_1 [v_b_Years, v_b_Olds, I b_First, I b_Last] 55] R := H.back H2_ rfl
 clear H2_
 refine s_nil ?_
 refine W.cond r2 rfl (fun c12z => ?_) (fun c12z => ?_)
 ·replace hM := M.e_t hM c12z
  refine W.seq ?_
  refine W.region rfl ?_
  refine s_val (x_as (v := I 4) rfl) ?_
  refine s_nil ?_
  refine W.ret ?_
  have hr_ := M.e_pure hM
  exact ⟨_, resE_tmp rfl, ⟨4, hr_, rfl, (H.pick [] (by decide) rfl)⟩⟩
 replace hM := M.e_f hM c12z
 refine W.skip ?_
 refine W.seq ?_
 refine W.seq ?_
 refine W.region rfl ?_
 refine s_val (x_mv (v := I r1) rfl) ?_
 refine s_val (x_cmp (kd := .i64) (a := r1) (b := 0) (r := r1 == 0) rfl rfl rfl) ?_
 refine s_nil ?_
 refine W.cond (r1 == 0) rfl (fun c13z => ?_) (fun c13z => ?_)
 ·replace hM := M.e_t hM c13z
  simp only [decide_eq_true_eq, decide_eq_false_iff_not, beq_iff_eq, bne_iff_ne, beq_eq_false_iff_ne, bne_eq_false_iff_eq, ne_eq, Decidable.not_not] at c13z
  refine W.seq ?_
  refine W.region rfl ?_
  refine s_val (x_as (v := I 6) rfl) ?_
  refine s_nil ?_
  refine W.ret ?_
  have hr_ := M.e_pure hM
  exact ⟨_, resE_tmp rfl, ⟨6, hr_, rfl, (H.pick [] (by decide) rfl)⟩⟩
 replace hM := M.e_f hM c13z
 simp only [decide_eq_true_eq, decide_eq_false_iff_not, beq_iff_eq, bne_iff_ne, beq_eq_false_iff_ne, bne_eq_false_iff_eq, ne_eq, Decidable.not_not] at c13z
 refine W.skip ?_
 refine W.seq ?_
 refine W.region rfl ?_
 refine s_val (x_as (v := I 0) rfl) ?_
 refine s_nil ?_
 refine W.ret ?_
 have hr_ := M.e_pure hM
 exact ⟨_, resE_tmp rfl, ⟨0, hr_, rfl, (H.pick [] (by decide) rfl)⟩⟩

def zbs (b_Years : List Yr) (b_Olds : List Old10) (b_First : Int) (b_Last : Int) (to_ : Int) (stage : Int) : (Int × Int × Int) -> M ((Int × Int × Int) ⊕ (Int × Int)) := fun (s, s2, year) =>
  bif decide (year <= to_) then (
  M.bind (zaC b_Years b_Olds b_First b_Last year) fun (r0, r1) =>
  bif decide (stage <= r0) then (
  M.grd (decide ((-9223372036854775808 : Int) <= (s + 1)) && decide ((s + 1) <= (9223372036854775807 : Int))) <|
  bif decide (stage <= r1) then (
  M.grd (decide ((-9223372036854775808 : Int) <= (s2 + 1)) && decide ((s2 + 1) <= (9223372036854775807 : Int))) <|
  M.grd (decide ((-9223372036854775808 : Int) <= (year + 1)) && decide ((year + 1) <= (9223372036854775807 : Int))) <|
  M.pure (.inl (s + 1, s2 + 1, year + 1)))
  else (
  M.grd (decide ((-9223372036854775808 : Int) <= (year + 1)) && decide ((year + 1) <= (9223372036854775807 : Int))) <|
  M.pure (.inl (s + 1, s2, year + 1))))
  else (
  bif decide (stage <= r1) then (
  M.grd (decide ((-9223372036854775808 : Int) <= (s2 + 1)) && decide ((s2 + 1) <= (9223372036854775807 : Int))) <|
  M.grd (decide ((-9223372036854775808 : Int) <= (year + 1)) && decide ((year + 1) <= (9223372036854775807 : Int))) <|
  M.pure (.inl (s, s2 + 1, year + 1)))
  else (
  M.grd (decide ((-9223372036854775808 : Int) <= (year + 1)) && decide ((year + 1) <= (9223372036854775807 : Int))) <|
  M.pure (.inl (s, s2, year + 1)))))
  else (
  M.pure (.inr (s, s2)))
def za2 (b_Years : List Yr) (b_Olds : List Old10) (b_First : Int) (b_Last : Int) (from_ : Int) (to_ : Int) (stage : Int) : M (Int × Int × Int) :=
  M.bind (zbh b_Years b_Olds b_First b_Last from_ to_ stage 0 2000) fun r2 =>
  bif r2 != 0 then (
  M.pure (0, 0, r2))
  else (
  M.bind (M.iter (zbs b_Years b_Olds b_First b_Last to_ stage) (0, 0, from_)) fun (s3, s4) =>
  M.pure (s3, s4, 0))
theorem zcs {R : List Chunk} {C_b_Years : Cells} {v_b_Years : Value} {C_b_Olds : Cells} {v_b_Olds : Value} (b_Years : List Yr) (b_Olds : List Old10) (b_First : Int) (b_Last : Int) (from_ : Int) (to_ : Int) (stage : Int) (hC_b_Years : Reads R C_b_Years) (hs_b_Years : Sl C_b_Years v_b_Years b_Years) (hC_b_Olds : Reads R C_b_Olds) (hs_b_Olds : Sl C_b_Olds v_b_Olds b_Olds) {r : (Int × Int × Int)} (hM : (za2 b_Years b_Olds b_First b_Last from_ to_ stage).Ends r) (w : World) (H : St w w [] R) : Ret Try.prog 23 #[.agg #[v_b_Years, v_b_Olds, I b_First, I b_Last], I from_, I to_, I stage] w fun v w' => ∃ (y0 : Int) (y1 : Int) (y2 : Int), (y0, y1, y2) = r /\ v = .tuple #[.agg #[I y0, I y1], I y2] /\ St w w' [] R := by
 refine ret_of_W Try.func23 rfl rfl rfl ?_
 refine W.seq ?_
 refine W.region rfl ?_
 refine t_box (v := .agg #[v_b_Years, v_b_Olds, I b_First, I b_Last]) (cs := [v_b_Years, v_b_Olds, I b_First, I b_Last]) H rfl rfl ?_
 intro b_1 w1z H
 refine t_alloc (cs := [I 0, I 0]) H Al35 rfl ?_
 intro b_2 w2z H
 refine s_val (x_as (v := I 0) rfl) ?_
 refine s_nil ?_
 refine W.seq ?_
 refine W.seq ?_
 refine W.region rfl ?_
 refine s_val (x_ld (p := .pointer (some ⟨b_1, 0, none⟩)) (v := .agg #[v_b_Years, v_b_Olds, I b_First, I b_Last]) rfl (ldb_ag (ds := [v_b_Years, v_b_Olds, I b_First, I b_Last]) Ag55 Sz55 (H.blk (k := 1) rfl) rfl rfl)) ?_
 refine s_val (x_mv (v := I from_) rfl) ?_
 refine s_val (x_mv (v := I to_) rfl) ?_
 refine s_val (x_mv (v := I stage) rfl) ?_
 obtain ⟨r4z, hx3z, hM⟩ := M.e_bind hM
 refine s_call cf65 [.agg #[v_b_Years, v_b_Olds, I b_First, I b_Last], I from_, I to_, I stage, I 0, I 2000] rfl (zcu b_Years b_Olds b_First b_Last from_ to_ stage 0 2000 (hC_b_Years.app _) hs_b_Years (hC_b_Olds.app _) hs_b_Olds hx3z _ (St.give (T := [cBlk b_2 [I 0, I 0] 35, cBlk b_1 [v_b_Years, v_b_Olds, I b_First, I b_Last] 55]) H rfl)) ?_
 rintro vq w5z ⟨r2, hr6z, hvq, H2_⟩
 subst hr6z
 subst vq
 try dsimp only at hM
 replace H : St w w5z [cBlk b_2 [I 0, I 0] 35, cBlk b_1 [v_b_Years, v_b_Olds, I b_First, I b_Last] 55] R := H.back H2_ rfl
 clear H2_
 refine s_val (x_as (v := I r2) rfl) ?_
 refine s_nil ?_
 refine W.seq ?_
 refine W.region rfl ?_
 refine s_val (x_mv (v := I r2) rfl) ?_
 refine s_val (x_cmp (kd := .i64) (a := r2) (b := 0) (r := r2 != 0) rfl rfl rfl) ?_
 refine s_nil ?_
 refine W.cond (r2 != 0) rfl (fun c7z => ?_) (fun c7z => ?_)
 ·replace hM := M.e_t hM c7z
  simp only [decide_eq_true_eq, decide_eq_false_iff_not, beq_iff_eq, bne_iff_ne, beq_eq_false_iff_ne, bne_eq_false_iff_eq, ne_eq, Decidable.not_not] at c7z
  refine W.seq ?_
  refine W.region rfl ?_
  refine s_val (x_bld (ps := []) (zs := [I 0, I 0]) (L' := [I 0, I 0]) rfl Try.underlying35 Al35 rfl (Bd35 Try.underlying35) (.nil)) ?_
  refine s_val (x_mv (v := I r2) rfl) ?_
  refine t_st (k := 0) (b := b_2) (off := 0) (cs := [I 0, I 0]) (vs := [I 0, I 0]) (cs' := [I 0, I 0]) (v := .agg #[I 0, I 0]) (L' := [cBlk b_2 [I 0, I 0] 35, cBlk b_1 [v_b_Years, v_b_Olds, I b_First, I b_Last] 55]) H rfl rfl rfl Sz35 rfl rfl rfl rfl rfl rfl ?_
  intro w8z H
  refine s_val (x_as (v := I r2) rfl) ?_
  refine s_nil ?_
  refine W.ret ?_
  have hb9z := (H.blk (k := 0) rfl)
  have hr_ := M.e_pure hM
  exact ⟨_, (resE_ofn (vs := [.agg #[I 0, I 0], I r2]) rfl rfl (.cell (v := .agg #[I 0, I 0]) rfl (run_loadVar_ag (ds := [I 0, I 0]) Ag35 Sz35 hb9z rfl rfl) <| .tmp (v := I r2) rfl <| .nil)), ⟨0, 0, r2, hr_, rfl, (H.pick [] (by decide) rfl)⟩⟩
 replace hM := M.e_f hM c7z
 simp only [decide_eq_true_eq, decide_eq_false_iff_not, beq_iff_eq, bne_iff_ne, beq_eq_false_iff_ne, bne_eq_false_iff_eq, ne_eq, Decidable.not_not] at c7z
 refine W.skip ?_
 refine W.seq ?_
 refine W.region rfl ?_
 refine t_alloc (cs := [I 0, I 0]) H Al35 rfl ?_
 intro b_3 w10z H
 refine s_nil ?_
 refine W.seq ?_
 refine W.seq ?_
 refine W.region rfl ?_
 refine s_val (x_mv (v := I from_) rfl) ?_
 refine s_val (x_as (v := I from_) rfl) ?_
 refine s_nil ?_
 refine W.block ?_
 obtain ⟨ex11z, hi12z, hk13z⟩ := M.e_bind hM
 obtain ⟨m0_, hi12z⟩ := M.e_iter hi12z
 refine W.loop (fun m σ W => ∃ (s : Int) (s2 : Int) (year : Int) (ρ : Env), σ = upds ρ [(2, I to_), (3, I stage), (4, .pointer (some ⟨b_1, 0, none⟩)), (8, .pointer (some ⟨b_2, 0, none⟩)), (11, .pointer (some ⟨b_3, 0, none⟩)), (12, I year)] /\ M.iterN (zbs b_Years b_Olds b_First b_Last to_ stage) m (s, s2, year) = some ex11z /\ St w W [cBlk b_3 [I s, I s2] 35, cBlk b_2 [I 0, I 0] 35, cBlk b_1 [v_b_Years, v_b_Olds, I b_First, I b_Last] 55] R) ?_ ?_
 ·exact ⟨_, 0, 0, from_, _, upds_of _ _ ⟨rfl, rfl, rfl, rfl, rfl, rfl, trivial⟩, hi12z, H⟩
 rintro m16z σ w14z ⟨s, s2, year, ρ, rfl, hI15z, H⟩
 obtain ⟨m17z, lt18z, x19z, hM, hN20z⟩ := M.e_iterN hI15z
 simp only [zbs] at hM
 clear hI15z
 refine W.seq ?_
 refine W.seq ?_
 refine W.region rfl ?_
 refine s_val (x_mv (v := I year) rfl) ?_
 refine s_val (x_mv (v := I to_) rfl) ?_
 refine s_val (x_cmp (kd := .i64) (a := year) (b := to_) (r := decide (year <= to_)) rfl rfl rfl) ?_
 refine s_nil ?_
 refine W.cond (decide (year <= to_)) rfl (fun c21z => ?_) (fun c21z => ?_)
 ·replace hM := M.e_t hM c21z
  simp only [decide_eq_true_eq, decide_eq_false_iff_not, beq_iff_eq, bne_iff_ne, beq_eq_false_iff_ne, bne_eq_false_iff_eq, ne_eq, Decidable.not_not] at c21z
  refine W.skip ?_
  refine W.seq ?_
  refine W.block ?_
  refine W.seq ?_
  refine W.region rfl ?_
  refine s_val (x_ld (p := .pointer (some ⟨b_1, 0, none⟩)) (v := .agg #[v_b_Years, v_b_Olds, I b_First, I b_Last]) rfl (ldb_ag (ds := [v_b_Years, v_b_Olds, I b_First, I b_Last]) Ag55 Sz55 (H.blk (k := 2) rfl) rfl rfl)) ?_
  refine s_val (x_mv (v := I year) rfl) ?_
  obtain ⟨r23z, hx22z, hM⟩ := M.e_bind hM
  refine s_call cf66 [.agg #[v_b_Years, v_b_Olds, I b_First, I b_Last], I year] rfl (zb3 b_Years b_Olds b_First b_Last year (hC_b_Years.app _) hs_b_Years (hC_b_Olds.app _) hs_b_Olds hx22z _ (St.give (T := [cBlk b_3 [I s, I s2] 35, cBlk b_2 [I 0, I 0] 35, cBlk b_1 [v_b_Years, v_b_Olds, I b_First, I b_Last] 55]) H rfl)) ?_
  rintro vq w24z ⟨r0, r1, hr25z, hvq, H2_⟩
  subst hr25z
  subst vq
  try dsimp only at hM
  replace H : St w w24z [cBlk b_3 [I s, I s2] 35, cBlk b_2 [I 0, I 0] 35, cBlk b_1 [v_b_Years, v_b_Olds, I b_First, I b_Last] 55] R := H.back H2_ rfl
  clear H2_
  refine t_alloc (cs := [I 0, I 0]) H Al35 rfl ?_
  intro b_4 w26z H
  refine t_st (k := 0) (b := b_4) (off := 0) (cs := [I 0, I 0]) (vs := [I r0, I r1]) (cs' := [I r0, I r1]) (v := .agg #[I r0, I r1]) (L' := [cBlk b_4 [I r0, I r1] 35, cBlk b_3 [I s, I s2] 35, cBlk b_2 [I 0, I 0] 35, cBlk b_1 [v_b_Years, v_b_Olds, I b_First, I b_Last] 55]) H rfl rfl rfl Sz35 rfl rfl rfl rfl rfl rfl ?_
  intro w27z H
  refine s_nil ?_
  refine W.seq ?_
  refine W.seq ?_
  refine W.region rfl ?_
  refine s_val (x_fa (a := .pointer (some ⟨b_4, 0, none⟩)) (v := .pointer (some ⟨b_4, 0, none⟩)) rfl (fa_blk (o := 0) Fd35_0 Sz3)) ?_
  refine s_val (x_ld (p := .pointer (some ⟨b_4, 0, none⟩)) (v := I r0) rfl (ldb_sc Sc3 (H.blk (k := 0) rfl) rfl)) ?_
  refine s_val (x_mv (v := I stage) rfl) ?_
  refine s_val (x_cmp (kd := .i64) (a := r0) (b := stage) (r := decide (stage <= r0)) rfl rfl rfl) ?_
  refine s_nil ?_
  refine W.cond (decide (stage <= r0)) rfl (fun c28z => ?_) (fun c28z => ?_)
  ·replace hM := M.e_t hM c28z
   simp only [decide_eq_true_eq, decide_eq_false_iff_not, beq_iff_eq, bne_iff_ne, beq_eq_false_iff_ne, bne_eq_false_iff_eq, ne_eq, Decidable.not_not] at c28z
   refine W.region rfl ?_
   refine s_val (x_fa (a := .pointer (some ⟨b_3, 0, none⟩)) (v := .pointer (some ⟨b_3, 0, none⟩)) rfl (fa_blk (o := 0) Fd35_0 Sz3)) ?_
   refine s_val (x_ld (p := .pointer (some ⟨b_3, 0, none⟩)) (v := I s) rfl (ldb_sc Sc3 (H.blk (k := 1) rfl) rfl)) ?_
   obtain ⟨sd29z, hM⟩ := M.e_grd hM
   simp only [Bool.and_eq_true, decide_eq_true_eq] at sd29z
   refine s_val (x_ari (a := s) (b := 1) (r := s + 1) rfl rfl rfl (by omega)) ?_
   refine s_val (x_fa (a := .pointer (some ⟨b_3, 0, none⟩)) (v := .pointer (some ⟨b_3, 0, none⟩)) rfl (fa_blk (o := 0) Fd35_0 Sz3)) ?_
   refine t_st (k := 1) (b := b_3) (off := 0) (cs := [I s, I s2]) (vs := [I (s + 1)]) (cs' := [I (s + 1), I s2]) (v := I (s + 1)) (L' := [cBlk b_4 [I r0, I r1] 35, cBlk b_3 [I (s + 1), I s2] 35, cBlk b_2 [I 0, I 0] 35, cBlk b_1 [v_b_Years, v_b_Olds, I b_First, I b_Last] 55]) H rfl rfl rfl Sz3 rfl rfl rfl rfl rfl rfl ?_
   intro w30z H
   refine s_nil ?_
   refine W.seq ?_
   refine W.region rfl ?_
   refine s_val (x_fa (a := .pointer (some ⟨b_4, 0, none⟩)) (v := .pointer (some ⟨b_4, 1, none⟩)) rfl (fa_blk (o := 0) Fd35_1 Sz3)) ?_
   refine s_val (x_ld (p := .pointer (some ⟨b_4, 1, none⟩)) (v := I r1) rfl (ldb_sc Sc3 (H.blk (k := 0) rfl) rfl)) ?_
   refine s_val (x_mv (v := I stage) rfl) ?_
   refine s_val (x_cmp (kd := .i64) (a := r1) (b := stage) (r := decide (stage <= r1)) rfl rfl rfl) ?_
   refine s_nil ?_
   refine W.cond (decide (stage <= r1)) rfl (fun c31z => ?_) (fun c31z => ?_)
   ·replace hM := M.e_t hM c31z
    simp only [decide_eq_true_eq, decide_eq_false_iff_not, beq_iff_eq, bne_iff_ne, beq_eq_false_iff_ne, bne_eq_false_iff_eq, ne_eq, Decidable.not_not] at c31z
    refine W.region rfl ?_
    refine s_val (x_fa (a := .pointer (some ⟨b_3, 0, none⟩)) (v := .pointer (some ⟨b_3, 1, none⟩)) rfl (fa_blk (o := 0) Fd35_1 Sz3)) ?_
    refine s_val (x_ld (p := .pointer (some ⟨b_3, 1, none⟩)) (v := I s2) rfl (ldb_sc Sc3 (H.blk (k := 1) rfl) rfl)) ?_
    obtain ⟨sd32z, hM⟩ := M.e_grd hM
    simp only [Bool.and_eq_true, decide_eq_true_eq] at sd32z
    refine s_val (x_ari (a := s2) (b := 1) (r := s2 + 1) rfl rfl rfl (by omega)) ?_
    refine s_val (x_fa (a := .pointer (some ⟨b_3, 0, none⟩)) (v := .pointer (some ⟨b_3, 1, none⟩)) rfl (fa_blk (o := 0) Fd35_1 Sz3)) ?_
    refine t_st (k := 1) (b := b_3) (off := 1) (cs := [I (s + 1), I s2]) (vs := [I (s2 + 1)]) (cs' := [I (s + 1), I (s2 + 1)]) (v := I (s2 + 1)) (L' := [cBlk b_4 [I r0, I r1] 35, cBlk b_3 [I (s + 1), I (s2 + 1)] 35, cBlk b_2 [I 0, I 0] 35, cBlk b_1 [v_b_Years, v_b_Olds, I b_First, I b_Last] 55]) H rfl rfl rfl Sz3 rfl rfl rfl rfl rfl rfl ?_
    intro w33z H
    refine s_nil ?_
    refine W.region rfl ?_
    refine s_val (x_mv (v := I year) rfl) ?_
    obtain ⟨sd34z, hM⟩ := M.e_grd hM
    simp only [Bool.and_eq_true, decide_eq_true_eq] at sd34z
    refine s_val (x_ari (a := year) (b := 1) (r := year + 1) rfl rfl rfl (by omega)) ?_
    refine s_val (x_as (v := I (year + 1)) rfl) ?_
    refine s_nil ?_
    exact ⟨m17z, lt18z, s + 1, s2 + 1, year + 1, _, upds_of _ _ ⟨rfl, rfl, rfl, rfl, rfl, rfl, trivial⟩, M.e_inl hM hN20z, (H.pick [1, 2, 3] (by decide) rfl)⟩
   replace hM := M.e_f hM c31z
   simp only [decide_eq_true_eq, decide_eq_false_iff_not, beq_iff_eq, bne_iff_ne, beq_eq_false_iff_ne, bne_eq_false_iff_eq, ne_eq, Decidable.not_not] at c31z
   refine W.skip ?_
   refine W.region rfl ?_
   refine s_val (x_mv (v := I year) rfl) ?_
   obtain ⟨sd35z, hM⟩ := M.e_grd hM
   simp only [Bool.and_eq_true, decide_eq_true_eq] at sd35z
   refine s_val (x_ari (a := year) (b := 1) (r := year + 1) rfl rfl rfl (by omega)) ?_
   refine s_val (x_as (v := I (year + 1)) rfl) ?_
   refine s_nil ?_
   exact ⟨m17z, lt18z, s + 1, s2, year + 1, _, upds_of _ _ ⟨rfl, rfl, rfl, rfl, rfl, rfl, trivial⟩, M.e_inl hM hN20z, (H.pick [1, 2, 3] (by decide) rfl)⟩
  replace hM := M.e_f hM c28z
  simp only [decide_eq_true_eq, decide_eq_false_iff_not, beq_iff_eq, bne_iff_ne, beq_eq_false_iff_ne, bne_eq_false_iff_eq, ne_eq, Decidable.not_not] at c28z
  refine W.skip ?_
  refine W.seq ?_
  refine W.region rfl ?_
  refine s_val (x_fa (a := .pointer (some ⟨b_4, 0, none⟩)) (v := .pointer (some ⟨b_4, 1, none⟩)) rfl (fa_blk (o := 0) Fd35_1 Sz3)) ?_
  refine s_val (x_ld (p := .pointer (some ⟨b_4, 1, none⟩)) (v := I r1) rfl (ldb_sc Sc3 (H.blk (k := 0) rfl) rfl)) ?_
  refine s_val (x_mv (v := I stage) rfl) ?_
  refine s_val (x_cmp (kd := .i64) (a := r1) (b := stage) (r := decide (stage <= r1)) rfl rfl rfl) ?_
  refine s_nil ?_
  refine W.cond (decide (stage <= r1)) rfl (fun c36z => ?_) (fun c36z => ?_)
  ·replace hM := M.e_t hM c36z
   simp only [decide_eq_true_eq, decide_eq_false_iff_not, beq_iff_eq, bne_iff_ne, beq_eq_false_iff_ne, bne_eq_false_iff_eq, ne_eq, Decidable.not_not] at c36z
   refine W.region rfl ?_
   refine s_val (x_fa (a := .pointer (some ⟨b_3, 0, none⟩)) (v := .pointer (some ⟨b_3, 1, none⟩)) rfl (fa_blk (o := 0) Fd35_1 Sz3)) ?_
   refine s_val (x_ld (p := .pointer (some ⟨b_3, 1, none⟩)) (v := I s2) rfl (ldb_sc Sc3 (H.blk (k := 1) rfl) rfl)) ?_
   obtain ⟨sd37z, hM⟩ := M.e_grd hM
   simp only [Bool.and_eq_true, decide_eq_true_eq] at sd37z
   refine s_val (x_ari (a := s2) (b := 1) (r := s2 + 1) rfl rfl rfl (by omega)) ?_
   refine s_val (x_fa (a := .pointer (some ⟨b_3, 0, none⟩)) (v := .pointer (some ⟨b_3, 1, none⟩)) rfl (fa_blk (o := 0) Fd35_1 Sz3)) ?_
   refine t_st (k := 1) (b := b_3) (off := 1) (cs := [I s, I s2]) (vs := [I (s2 + 1)]) (cs' := [I s, I (s2 + 1)]) (v := I (s2 + 1)) (L' := [cBlk b_4 [I r0, I r1] 35, cBlk b_3 [I s, I (s2 + 1)] 35, cBlk b_2 [I 0, I 0] 35, cBlk b_1 [v_b_Years, v_b_Olds, I b_First, I b_Last] 55]) H rfl rfl rfl Sz3 rfl rfl rfl rfl rfl rfl ?_
   intro w38z H
   refine s_nil ?_
   refine W.region rfl ?_
   refine s_val (x_mv (v := I year) rfl) ?_
   obtain ⟨sd39z, hM⟩ := M.e_grd hM
   simp only [Bool.and_eq_true, decide_eq_true_eq] at sd39z
   refine s_val (x_ari (a := year) (b := 1) (r := year + 1) rfl rfl rfl (by omega)) ?_
   refine s_val (x_as (v := I (year + 1)) rfl) ?_
   refine s_nil ?_
   exact ⟨m17z, lt18z, s, s2 + 1, year + 1, _, upds_of _ _ ⟨rfl, rfl, rfl, rfl, rfl, rfl, trivial⟩, M.e_inl hM hN20z, (H.pick [1, 2, 3] (by decide) rfl)⟩
  replace hM := M.e_f hM c36z
  simp only [decide_eq_true_eq, decide_eq_false_iff_not, beq_iff_eq, bne_iff_ne, beq_eq_false_iff_ne, bne_eq_false_iff_eq, ne_eq, Decidable.not_not] at c36z
  refine W.skip ?_
  refine W.region rfl ?_
  refine s_val (x_mv (v := I year) rfl) ?_
  obtain ⟨sd40z, hM⟩ := M.e_grd hM
  simp only [Bool.and_eq_true, decide_eq_true_eq] at sd40z
  refine s_val (x_ari (a := year) (b := 1) (r := year + 1) rfl rfl rfl (by omega)) ?_
  refine s_val (x_as (v := I (year + 1)) rfl) ?_
  refine s_nil ?_
  exact ⟨m17z, lt18z, s, s2, year + 1, _, upds_of _ _ ⟨rfl, rfl, rfl, rfl, rfl, rfl, trivial⟩, M.e_inl hM hN20z, (H.pick [1, 2, 3] (by decide) rfl)⟩
 replace hM := M.e_f hM c21z
 simp only [decide_eq_true_eq, decide_eq_false_iff_not, beq_iff_eq, bne_iff_ne, beq_eq_false_iff_ne, bne_eq_false_iff_eq, ne_eq, Decidable.not_not] at c21z
 refine W.exit ?_
 have hX41z := M.e_inr hM hN20z
 subst hX41z
 replace hM := hk13z
 try dsimp only at hM
 refine W.seq ?_
 refine W.region rfl ?_
 refine s_val (x_ld (p := .pointer (some ⟨b_3, 0, none⟩)) (v := .agg #[I s, I s2]) rfl (ldb_ag (ds := [I s, I s2]) Ag35 Sz35 (H.blk (k := 0) rfl) rfl rfl)) ?_
 refine t_st (k := 1) (b := b_2) (off := 0) (cs := [I 0, I 0]) (vs := [I s, I s2]) (cs' := [I s, I s2]) (v := .agg #[I s, I s2]) (L' := [cBlk b_3 [I s, I s2] 35, cBlk b_2 [I s, I s2] 35, cBlk b_1 [v_b_Years, v_b_Olds, I b_First, I b_Last] 55]) H rfl rfl rfl Sz35 rfl rfl rfl rfl rfl rfl ?_
 intro w42z H
 refine s_val (x_as (v := I 0) rfl) ?_
 refine s_nil ?_
 refine W.ret ?_
 have hb43z := (H.blk (k := 1) rfl)
 have hr_ := M.e_pure hM
 exact ⟨_, (resE_ofn (vs := [.agg #[I s, I s2], I 0]) rfl rfl (.cell (v := .agg #[I s, I s2]) rfl (run_loadVar_ag (ds := [I s, I s2]) Ag35 Sz35 hb43z rfl rfl) <| .tmp (v := I 0) rfl <| .nil)), ⟨s, s2, 0, hr_, rfl, (H.pick [] (by decide) rfl)⟩⟩

def zbG (r_ : Rto) : Nat -> M (Nat ⊕ (Unit ⊕ Unit)) := fun k =>
  bif decide ((k : Int) <= r_.den) then (
  M.grd (decide ((0 : Int) <= r_.num) && decide ((0 : Int) < (k : Int))) <|
  M.grd ((!((r_.num % (k : Int)) == 0) || (decide ((0 : Int) <= r_.den) && decide ((0 : Int) < (k : Int))))) <|
  bif (((r_.num % (k : Int)) == 0) && ((r_.den % (k : Int)) == 0)) then (
  M.pure (.inr (.inl ())))
  else (
  M.grd (decide ((-9223372036854775808 : Int) <= ((k : Int) + 1)) && decide (((k : Int) + 1) <= (9223372036854775807 : Int))) <|
  M.pure (.inl (k + 1))))
  else (
  M.pure (.inr (.inr ())))
def zaQ (b_Years : List Yr) (b_Olds : List Old10) (b_First : Int) (b_Last : Int) (r_ : Rto) (n : Int) : M Bool :=
  M.grd (decide ((-9223372036854775808 : Int) <= (b_Last - b_First)) && decide ((b_Last - b_First) <= (9223372036854775807 : Int))) <|
  M.grd (decide ((-9223372036854775808 : Int) <= ((b_Last - b_First) + 1)) && decide (((b_Last - b_First) + 1) <= (9223372036854775807 : Int))) <|
  M.grd ((!(!(decide (r_.den < 1))) || (decide ((-9223372036854775808 : Int) <= (r_.num * ((b_Last - b_First) + 1))) && decide ((r_.num * ((b_Last - b_First) + 1)) <= (9223372036854775807 : Int))))) <|
  M.grd ((!(!(decide (r_.den < 1))) || (decide ((-9223372036854775808 : Int) <= (n * r_.den)) && decide ((n * r_.den) <= (9223372036854775807 : Int))))) <|
  bif ((decide (r_.den < 1)) || ((r_.num * ((b_Last - b_First) + 1)) != (n * r_.den))) then (
  M.pure false)
  else (
  M.bind (M.iter (zbG r_) 2) fun x_ => match x_ with
  | (.inl (_ : Unit)) => (
  M.pure false)
  | (.inr (_ : Unit)) => (
  M.pure true))
theorem zct {R : List Chunk} {C_b_Years : Cells} {v_b_Years : Value} {C_b_Olds : Cells} {v_b_Olds : Value} (b_Years : List Yr) (b_Olds : List Old10) (b_First : Int) (b_Last : Int) (r_ : Rto) (n : Int) (hC_b_Years : Reads R C_b_Years) (hs_b_Years : Sl C_b_Years v_b_Years b_Years) (hC_b_Olds : Reads R C_b_Olds) (hs_b_Olds : Sl C_b_Olds v_b_Olds b_Olds) {r : Bool} (hM : (zaQ b_Years b_Olds b_First b_Last r_ n).Ends r) (w : World) (H : St w w [] R) : Ret Try.prog 27 #[.agg #[v_b_Years, v_b_Olds, I b_First, I b_Last], .agg #[I r_.num, I r_.den], I n] w fun v w' => ∃ (y0 : Bool), y0 = r /\ v = B y0 /\ St w w' [] R := by
 refine ret_of_W Try.func27 rfl rfl rfl ?_
 refine W.seq ?_
 refine W.region rfl ?_
 refine t_box (v := .agg #[v_b_Years, v_b_Olds, I b_First, I b_Last]) (cs := [v_b_Years, v_b_Olds, I b_First, I b_Last]) H rfl rfl ?_
 intro b_1 w1z H
 refine t_box (v := .agg #[I r_.num, I r_.den]) (cs := [I r_.num, I r_.den]) H rfl rfl ?_
 intro b_2 w2z H
 refine s_val (x_as (v := B false) rfl) ?_
 refine s_nil ?_
 refine W.seq ?_
 refine W.region rfl ?_
 refine s_val (x_fa (a := .pointer (some ⟨b_1, 0, none⟩)) (v := .pointer (some ⟨b_1, 3, none⟩)) rfl (fa_blk (o := 0) Fd55_3 Sz3)) ?_
 refine s_val (x_ld (p := .pointer (some ⟨b_1, 3, none⟩)) (v := I b_Last) rfl (ldb_sc Sc3 (H.blk (k := 1) rfl) rfl)) ?_
 refine s_val (x_fa (a := .pointer (some ⟨b_1, 0, none⟩)) (v := .pointer (some ⟨b_1, 2, none⟩)) rfl (fa_blk (o := 0) Fd55_2 Sz3)) ?_
 refine s_val (x_ld (p := .pointer (some ⟨b_1, 2, none⟩)) (v := I b_First) rfl (ldb_sc Sc3 (H.blk (k := 1) rfl) rfl)) ?_
 obtain ⟨sd3z, hM⟩ := M.e_grd hM
 simp only [Bool.and_eq_true, decide_eq_true_eq] at sd3z
 refine s_val (x_ari (a := b_Last) (b := b_First) (r := b_Last - b_First) rfl rfl rfl (by omega)) ?_
 obtain ⟨sd4z, hM⟩ := M.e_grd hM
 simp only [Bool.and_eq_true, decide_eq_true_eq] at sd4z
 refine s_val (x_ari (a := b_Last - b_First) (b := 1) (r := (b_Last - b_First) + 1) rfl rfl rfl (by omega)) ?_
 refine s_val (x_as (v := I ((b_Last - b_First) + 1)) rfl) ?_
 refine s_nil ?_
 refine W.seq ?_
 refine W.seq ?_
 refine W.region rfl ?_
 refine s_val (x_fa (a := .pointer (some ⟨b_2, 0, none⟩)) (v := .pointer (some ⟨b_2, 1, none⟩)) rfl (fa_blk (o := 0) Fd63_1 Sz3)) ?_
 refine s_val (x_ld (p := .pointer (some ⟨b_2, 1, none⟩)) (v := I r_.den) rfl (ldb_sc Sc3 (H.blk (k := 0) rfl) rfl)) ?_
 refine s_val (x_cmp (kd := .i64) (a := r_.den) (b := 1) (r := decide (r_.den < 1)) rfl rfl rfl) ?_
 refine s_val (x_mv (v := B (decide (r_.den < 1))) rfl) ?_
 refine g_val (!(decide (r_.den < 1))) (gy_f rfl) (fun hg => x_fa (a := .pointer (some ⟨b_2, 0, none⟩)) (v := .pointer (some ⟨b_2, 0, none⟩)) rfl (fa_blk (o := 0) Fd63_0 Sz3)) ?_
 refine g_val (!(decide (r_.den < 1))) (gy_f rfl) (fun hg => x_ld (p := .pointer (some ⟨b_2, 0, none⟩)) (v := I r_.num) (gd_of (c := !(decide (r_.den < 1))) hg (.pointer (some ⟨b_2, 0, none⟩))) (ldb_sc Sc3 (H.blk (k := 0) rfl) rfl)) ?_
 refine g_val (!(decide (r_.den < 1))) (gy_f rfl) (fun hg => x_mv (v := I ((b_Last - b_First) + 1)) rfl) ?_
 obtain ⟨sd5z, hM⟩ := M.e_grd hM
 replace sd5z := M.imp_of sd5z
 simp only [Bool.and_eq_true, decide_eq_true_eq] at sd5z
 refine g_val (!(decide (r_.den < 1))) (gy_f rfl) (fun hg => x_ari (a := r_.num) (b := (b_Last - b_First) + 1) (r := r_.num * ((b_Last - b_First) + 1)) (gd_of (c := !(decide (r_.den < 1))) hg (I r_.num)) (gd_of (c := !(decide (r_.den < 1))) hg (I ((b_Last - b_First) + 1))) rfl (by have h1_ := sd5z.resolve_left (by rw [hg]; decide); first | exact h1_ | exact h1_.1 | exact h1_.2 | omega | (have hx_ := hg; simp at hx_; omega))) ?_
 refine g_val (!(decide (r_.den < 1))) (gy_f rfl) (fun hg => x_mv (v := I n) rfl) ?_
 refine g_val (!(decide (r_.den < 1))) (gy_f rfl) (fun hg => x_fa (a := .pointer (some ⟨b_2, 0, none⟩)) (v := .pointer (some ⟨b_2, 1, none⟩)) rfl (fa_blk (o := 0) Fd63_1 Sz3)) ?_
 refine g_val (!(decide (r_.den < 1))) (gy_f rfl) (fun hg => x_ld (p := .pointer (some ⟨b_2, 1, none⟩)) (v := I r_.den) (gd_of (c := !(decide (r_.den < 1))) hg (.pointer (some ⟨b_2, 1, none⟩))) (ldb_sc Sc3 (H.blk (k := 0) rfl) rfl)) ?_
 obtain ⟨sd6z, hM⟩ := M.e_grd hM
 replace sd6z := M.imp_of sd6z
 simp only [Bool.and_eq_true, decide_eq_true_eq] at sd6z
 refine g_val (!(decide (r_.den < 1))) (gy_f rfl) (fun hg => x_ari (a := n) (b := r_.den) (r := n * r_.den) (gd_of (c := !(decide (r_.den < 1))) hg (I n)) (gd_of (c := !(decide (r_.den < 1))) hg (I r_.den)) rfl (by have h1_ := sd5z.resolve_left (by rw [hg]; decide); have h2_ := sd6z.resolve_left (by rw [hg]; decide); first | exact h1_ | exact h1_.1 | exact h1_.2 | exact h2_ | exact h2_.1 | exact h2_.2 | omega | (have hx_ := hg; simp at hx_; omega))) ?_
 refine g_val (!(decide (r_.den < 1))) (gy_f rfl) (fun hg => x_cmp (kd := .i64) (a := r_.num * ((b_Last - b_First) + 1)) (b := n * r_.den) (r := (r_.num * ((b_Last - b_First) + 1)) != (n * r_.den)) (gd_of (c := !(decide (r_.den < 1))) hg (I (r_.num * ((b_Last - b_First) + 1)))) (gd_of (c := !(decide (r_.den < 1))) hg (I (n * r_.den))) rfl) ?_
 refine s_val (x_por (b := decide (r_.den < 1)) (r := (r_.num * ((b_Last - b_First) + 1)) != (n * r_.den)) rfl rfl (fun hb => gd_of (c := !(decide (r_.den < 1))) (by first | exact hb | (rw [hb]; rfl) | simp_all) (B ((r_.num * ((b_Last - b_First) + 1)) != (n * r_.den))))) ?_
 refine s_nil ?_
 refine W.cond ((decide (r_.den < 1)) || ((r_.num * ((b_Last - b_First) + 1)) != (n * r_.den))) rfl (fun c7z => ?_) (fun c7z => ?_)
 ·replace hM := M.e_t hM c7z
  refine W.seq ?_
  refine W.region rfl ?_
  refine s_val (x_as (v := B false) rfl) ?_
  refine s_nil ?_
  refine W.ret ?_
  have hr_ := M.e_pure hM
  exact ⟨_, resE_tmp rfl, ⟨false, hr_, rfl, (H.pick [] (by decide) rfl)⟩⟩
 replace hM := M.e_f hM c7z
 refine W.skip ?_
 refine W.seq ?_
 refine W.seq ?_
 refine W.region rfl ?_
 refine s_val (x_as (v := I 2) rfl) ?_
 refine s_nil ?_
 refine W.block ?_
 obtain ⟨ex8z, hi9z, hk10z⟩ := M.e_bind hM
 obtain ⟨m0_, hi9z⟩ := M.e_iter hi9z
 refine W.loop (fun m σ W => ∃ (k : Nat) (ρ : Env), σ = upds ρ [(4, .pointer (some ⟨b_2, 0, none⟩)), (8, I (k : Int))] /\ M.iterN (zbG r_) m k = some ex8z /\ St w W [cBlk b_2 [I r_.num, I r_.den] 63, cBlk b_1 [v_b_Years, v_b_Olds, I b_First, I b_Last] 55] R) ?_ ?_
 ·exact ⟨_, 2, _, upds_of _ _ ⟨rfl, rfl, trivial⟩, hi9z, H⟩
 rintro m13z σ w11z ⟨k, ρ, rfl, hI12z, H⟩
 obtain ⟨m14z, lt15z, x16z, hM, hN17z⟩ := M.e_iterN hI12z
 simp only [zbG] at hM
 clear hI12z
 refine W.seq ?_
 refine W.seq ?_
 refine W.region rfl ?_
 refine s_val (x_mv (v := I (k : Int)) rfl) ?_
 refine s_val (x_fa (a := .pointer (some ⟨b_2, 0, none⟩)) (v := .pointer (some ⟨b_2, 1, none⟩)) rfl (fa_blk (o := 0) Fd63_1 Sz3)) ?_
 refine s_val (x_ld (p := .pointer (some ⟨b_2, 1, none⟩)) (v := I r_.den) rfl (ldb_sc Sc3 (H.blk (k := 0) rfl) rfl)) ?_
 refine s_val (x_cmp (kd := .i64) (a := (k : Int)) (b := r_.den) (r := decide ((k : Int) <= r_.den)) rfl rfl rfl) ?_
 refine s_nil ?_
 refine W.cond (decide ((k : Int) <= r_.den)) rfl (fun c18z => ?_) (fun c18z => ?_)
 ·replace hM := M.e_t hM c18z
  simp only [decide_eq_true_eq, decide_eq_false_iff_not, beq_iff_eq, bne_iff_ne, beq_eq_false_iff_ne, bne_eq_false_iff_eq, ne_eq, Decidable.not_not] at c18z
  refine W.skip ?_
  refine W.seq ?_
  refine W.block ?_
  refine W.seq ?_
  refine W.region rfl ?_
  refine s_val (x_fa (a := .pointer (some ⟨b_2, 0, none⟩)) (v := .pointer (some ⟨b_2, 0, none⟩)) rfl (fa_blk (o := 0) Fd63_0 Sz3)) ?_
  refine s_val (x_ld (p := .pointer (some ⟨b_2, 0, none⟩)) (v := I r_.num) rfl (ldb_sc Sc3 (H.blk (k := 0) rfl) rfl)) ?_
  refine s_val (x_mv (v := I (k : Int)) rfl) ?_
  obtain ⟨sd19z, hM⟩ := M.e_grd hM
  simp only [Bool.and_eq_true, decide_eq_true_eq] at sd19z
  refine s_val (x_rem' (a := r_.num) (b := (k : Int)) rfl rfl (by omega)) ?_
  refine s_val (x_cmp (kd := .i64) (a := r_.num % (k : Int)) (b := 0) (r := (r_.num % (k : Int)) == 0) rfl rfl rfl) ?_
  refine s_val (x_mv (v := B ((r_.num % (k : Int)) == 0)) rfl) ?_
  refine g_val ((r_.num % (k : Int)) == 0) (gy_t rfl) (fun hg => x_fa (a := .pointer (some ⟨b_2, 0, none⟩)) (v := .pointer (some ⟨b_2, 1, none⟩)) rfl (fa_blk (o := 0) Fd63_1 Sz3)) ?_
  refine g_val ((r_.num % (k : Int)) == 0) (gy_t rfl) (fun hg => x_ld (p := .pointer (some ⟨b_2, 1, none⟩)) (v := I r_.den) (gd_of (c := (r_.num % (k : Int)) == 0) hg (.pointer (some ⟨b_2, 1, none⟩))) (ldb_sc Sc3 (H.blk (k := 0) rfl) rfl)) ?_
  refine g_val ((r_.num % (k : Int)) == 0) (gy_t rfl) (fun hg => x_mv (v := I (k : Int)) rfl) ?_
  obtain ⟨sd20z, hM⟩ := M.e_grd hM
  replace sd20z := M.imp_of sd20z
  simp only [Bool.and_eq_true, decide_eq_true_eq] at sd20z
  refine g_val ((r_.num % (k : Int)) == 0) (gy_t rfl) (fun hg => x_rem' (a := r_.den) (b := (k : Int)) (gd_of (c := (r_.num % (k : Int)) == 0) hg (I r_.den)) (gd_of (c := (r_.num % (k : Int)) == 0) hg (I (k : Int))) (by have h1_ := sd20z.resolve_left (by rw [hg]; decide); first | exact h1_ | exact h1_.1 | exact h1_.2 | omega | (have hx_ := hg; simp at hx_; omega))) ?_
  refine g_val ((r_.num % (k : Int)) == 0) (gy_t rfl) (fun hg => x_cmp (kd := .i64) (a := r_.den % (k : Int)) (b := 0) (r := (r_.den % (k : Int)) == 0) (gd_of (c := (r_.num % (k : Int)) == 0) hg (I (r_.den % (k : Int)))) rfl rfl) ?_
  refine s_val (x_pand (b := (r_.num % (k : Int)) == 0) (r := (r_.den % (k : Int)) == 0) rfl (fun hb => gd_of (c := (r_.num % (k : Int)) == 0) (by first | exact hb | (rw [hb]; rfl) | simp_all) (B ((r_.den % (k : Int)) == 0))) rfl) ?_
  refine s_nil ?_
  refine W.cond (((r_.num % (k : Int)) == 0) && ((r_.den % (k : Int)) == 0)) rfl (fun c21z => ?_) (fun c21z => ?_)
  ·replace hM := M.e_t hM c21z
   refine W.seq ?_
   refine W.region rfl ?_
   refine s_val (x_as (v := B false) rfl) ?_
   refine s_nil ?_
   refine W.ret ?_
   have hX22z := M.e_inr hM hN17z
   subst hX22z
   replace hM := hk10z
   try dsimp only at hM
   have hr_ := M.e_pure hM
   exact ⟨_, resE_tmp rfl, ⟨false, hr_, rfl, (H.pick [] (by decide) rfl)⟩⟩
  replace hM := M.e_f hM c21z
  refine W.skip ?_
  refine W.region rfl ?_
  refine s_val (x_mv (v := I (k : Int)) rfl) ?_
  obtain ⟨sd23z, hM⟩ := M.e_grd hM
  simp only [Bool.and_eq_true, decide_eq_true_eq] at sd23z
  refine s_val (x_ari (a := (k : Int)) (b := 1) (r := (k : Int) + 1) rfl rfl rfl (by omega)) ?_
  refine s_val (x_as (v := I ((k : Int) + 1)) rfl) ?_
  refine s_nil ?_
  exact ⟨m14z, lt15z, k + 1, _, upds_of _ _ ⟨rfl, rfl, trivial⟩, M.e_inl hM hN17z, H⟩
 replace hM := M.e_f hM c18z
 simp only [decide_eq_true_eq, decide_eq_false_iff_not, beq_iff_eq, bne_iff_ne, beq_eq_false_iff_ne, bne_eq_false_iff_eq, ne_eq, Decidable.not_not] at c18z
 refine W.exit ?_
 have hX24z := M.e_inr hM hN17z
 subst hX24z
 replace hM := hk10z
 try dsimp only at hM
 refine W.seq ?_
 refine W.region rfl ?_
 refine s_val (x_as (v := B true) rfl) ?_
 refine s_nil ?_
 refine W.ret ?_
 have hr_ := M.e_pure hM
 exact ⟨_, resE_tmp rfl, ⟨true, hr_, rfl, (H.pick [] (by decide) rfl)⟩⟩

def zaF (b_Years : List Yr) (b_Olds : List Old10) (b_First : Int) (b_Last : Int) (to_ : Int) : (Int × (List Span)) -> M ((Int × (List Span)) ⊕ ((List Span) × (List Span))) := fun (year, l) =>
  bif decide (year <= to_) then (
  M.bind (zaC b_Years b_Olds b_First b_Last year) fun (r0, r1) =>
  M.grd (decide ((l.length + ([(⟨(r0 : Int), (r1 : Int)⟩ : Span)]).length) * 16 <= 140737488355328)) <|
  M.grd (decide ((-9223372036854775808 : Int) <= (year + 1)) && decide ((year + 1) <= (9223372036854775807 : Int))) <|
  M.pure (.inl (year + 1, l ++ ([(⟨(r0 : Int), (r1 : Int)⟩ : Span)]))))
  else (
  M.pure (.inr (l, l)))
def zaD (l3 : List Span) (stage : Nat) (high : Nat) (i : Nat) (low : Int) : M ((Int × Nat × Nat) ⊕ (Int × Int)) :=
  bif decide ((stage : Int) <= ((l3.getD i default).hi)) then (
  M.grd (decide ((-9223372036854775808 : Int) <= ((high : Int) + 1)) && decide (((high : Int) + 1) <= (9223372036854775807 : Int))) <|
  M.pure (.inl (low, high + 1, i + 1)))
  else (
  M.pure (.inl (low, high, i + 1)))
def zaB (l3 : List Span) (stage : Nat) : (Int × Nat × Nat) -> M ((Int × Nat × Nat) ⊕ (Int × Int)) := fun (low2, high, i) =>
  bif decide ((i : Int) < (l3.length : Int)) then (
  M.grd (decide ((i : Int) < (l3.length : Int))) <|
  bif decide ((stage : Int) <= ((l3.getD i default).lo)) then (
  M.grd (decide ((-9223372036854775808 : Int) <= (low2 + 1)) && decide ((low2 + 1) <= (9223372036854775807 : Int))) <|
  zaD l3 stage high i (low2 + 1))
  else (
  zaD l3 stage high i low2))
  else (
  M.pure (.inr (low2, (high : Int))))
def za5 (times : Int) (stage : Nat) (s3 : Int) (high2 : Int) (s : Int) : M ((Nat × Int × Int) ⊕ (Int × Int)) :=
  bif decide (times <= high2) then (
  M.grd (decide ((-9223372036854775808 : Int) <= ((stage : Int) + 1)) && decide (((stage : Int) + 1) <= (9223372036854775807 : Int))) <|
  M.pure (.inl (stage + 1, s, (stage : Int))))
  else (
  M.grd (decide ((-9223372036854775808 : Int) <= ((stage : Int) + 1)) && decide (((stage : Int) + 1) <= (9223372036854775807 : Int))) <|
  M.pure (.inl (stage + 1, s, s3)))
def zay (times : Int) (l3 : List Span) : (Nat × Int × Int) -> M ((Nat × Int × Int) ⊕ (Int × Int)) := fun (stage, s2, s3) =>
  bif decide ((stage : Int) <= 2000) then (
  M.bind (M.iter (zaB l3 stage) (0, 0, 0)) fun (low3, high2) =>
  bif decide (times <= low3) then (
  za5 times stage s3 high2 (stage : Int))
  else (
  za5 times stage s3 high2 s2))
  else (
  M.pure (.inr (s2, s3)))
def zaH (b_Years : List Yr) (b_Olds : List Old10) (b_First : Int) (b_Last : Int) (from_ : Int) (to_ : Int) (times : Int) (many : Int) : M (Int × Int × Int) :=
  M.bind (zbh b_Years b_Olds b_First b_Last from_ to_ times 1 many) fun r2 =>
  bif r2 != 0 then (
  M.pure (0, 0, r2))
  else (
  M.bind (M.iter (zaF b_Years b_Olds b_First b_Last to_) (from_, [])) fun (l2, l3) =>
  M.bind (M.iter (zay times l3) (0, 0, 0)) fun (s4, s5) =>
  M.pure (s4, s5, 0))
def zbg (b_Years : List Yr) (b_Olds : List Old10) (b_First : Int) (b_Last : Int) (from_ : Int) (to_ : Int) (times : Int) : M (Int × Int × Int) :=
  bif (((decide (0 <= from_)) && (decide (to_ <= 3000))) && (decide (from_ <= to_))) then (
  M.grd (decide ((-9223372036854775808 : Int) <= (to_ - from_)) && decide ((to_ - from_) <= (9223372036854775807 : Int))) <|
  M.grd (decide ((-9223372036854775808 : Int) <= ((to_ - from_) + 1)) && decide (((to_ - from_) + 1) <= (9223372036854775807 : Int))) <|
  zaH b_Years b_Olds b_First b_Last from_ to_ times ((to_ - from_) + 1))
  else (
  zaH b_Years b_Olds b_First b_Last from_ to_ times 1)
theorem zcR {R : List Chunk} {C_b_Years : Cells} {v_b_Years : Value} {C_b_Olds : Cells} {v_b_Olds : Value} (b_Years : List Yr) (b_Olds : List Old10) (b_First : Int) (b_Last : Int) (from_ : Int) (to_ : Int) (times : Int) (hC_b_Years : Reads R C_b_Years) (hs_b_Years : Sl C_b_Years v_b_Years b_Years) (hC_b_Olds : Reads R C_b_Olds) (hs_b_Olds : Sl C_b_Olds v_b_Olds b_Olds) {r : (Int × Int × Int)} (hM : (zbg b_Years b_Olds b_First b_Last from_ to_ times).Ends r) (w : World) (H : St w w [] R) : Ret Try.prog 28 #[.agg #[v_b_Years, v_b_Olds, I b_First, I b_Last], I from_, I to_, I times] w fun v w' => ∃ (y0 : Int) (y1 : Int) (y2 : Int), (y0, y1, y2) = r /\ v = .tuple #[.agg #[I y0, I y1], I y2] /\ St w w' [] R := by
 refine ret_of_W Try.func28 rfl rfl rfl ?_
 refine W.seq ?_
 refine W.region rfl ?_
 refine t_box (v := .agg #[v_b_Years, v_b_Olds, I b_First, I b_Last]) (cs := [v_b_Years, v_b_Olds, I b_First, I b_Last]) H rfl rfl ?_
 intro b_1 w1z H
 refine t_alloc (cs := [I 0, I 0]) H Al35 rfl ?_
 intro b_2 w2z H
 refine s_val (x_as (v := I 0) rfl) ?_
 refine s_nil ?_
 refine W.seq ?_
 refine W.region rfl ?_
 refine s_val (x_as (v := I 1) rfl) ?_
 refine s_nil ?_
 refine W.seqJ (fun σ W => ∃ (many : Int) (ρ : Env), σ = upds ρ [(1, I from_), (2, I to_), (3, I times), (4, .pointer (some ⟨b_1, 0, none⟩)), (8, .pointer (some ⟨b_2, 0, none⟩)), (10, I many)] /\ (zaH b_Years b_Olds b_First b_Last from_ to_ times many).Ends r /\ St w W [cBlk b_2 [I 0, I 0] 35, cBlk b_1 [v_b_Years, v_b_Olds, I b_First, I b_Last] 55] R) ?_ ?_
 ·skip
  refine W.seq ?_
  refine W.region rfl ?_
  refine s_val (x_mv (v := I from_) rfl) ?_
  refine s_val (x_cmp (kd := .i64) (a := from_) (b := 0) (r := decide (0 <= from_)) rfl rfl rfl) ?_
  refine s_val (x_mv (v := B (decide (0 <= from_))) rfl) ?_
  refine g_val (decide (0 <= from_)) (gy_t rfl) (fun hg => x_mv (v := I to_) rfl) ?_
  refine g_val (decide (0 <= from_)) (gy_t rfl) (fun hg => x_cmp (kd := .i64) (a := to_) (b := 3000) (r := decide (to_ <= 3000)) (gd_of (c := decide (0 <= from_)) hg (I to_)) rfl rfl) ?_
  refine s_val (x_pand (b := decide (0 <= from_)) (r := decide (to_ <= 3000)) rfl (fun hb => gd_of (c := decide (0 <= from_)) (by first | exact hb | (rw [hb]; rfl) | simp_all) (B (decide (to_ <= 3000)))) rfl) ?_
  refine s_val (x_mv (v := B ((decide (0 <= from_)) && (decide (to_ <= 3000)))) rfl) ?_
  refine g_val ((decide (0 <= from_)) && (decide (to_ <= 3000))) (gy_t rfl) (fun hg => x_mv (v := I to_) rfl) ?_
  refine g_val ((decide (0 <= from_)) && (decide (to_ <= 3000))) (gy_t rfl) (fun hg => x_mv (v := I from_) rfl) ?_
  refine g_val ((decide (0 <= from_)) && (decide (to_ <= 3000))) (gy_t rfl) (fun hg => x_cmp (kd := .i64) (a := to_) (b := from_) (r := decide (from_ <= to_)) (gd_of (c := ((decide (0 <= from_)) && (decide (to_ <= 3000)))) hg (I to_)) (gd_of (c := ((decide (0 <= from_)) && (decide (to_ <= 3000)))) hg (I from_)) rfl) ?_
  refine s_val (x_pand (b := ((decide (0 <= from_)) && (decide (to_ <= 3000)))) (r := decide (from_ <= to_)) rfl (fun hb => gd_of (c := ((decide (0 <= from_)) && (decide (to_ <= 3000)))) (by first | exact hb | (rw [hb]; rfl) | simp_all) (B (decide (from_ <= to_)))) rfl) ?_
  refine s_nil ?_
  refine W.cond (((decide (0 <= from_)) && (decide (to_ <= 3000))) && (decide (from_ <= to_))) rfl (fun c3z => ?_) (fun c3z => ?_)
  ·replace hM := M.e_t hM c3z
   refine W.region rfl ?_
   refine s_val (x_mv (v := I to_) rfl) ?_
   refine s_val (x_mv (v := I from_) rfl) ?_
   obtain ⟨sd4z, hM⟩ := M.e_grd hM
   simp only [Bool.and_eq_true, decide_eq_true_eq] at sd4z
   refine s_val (x_ari (a := to_) (b := from_) (r := to_ - from_) rfl rfl rfl (by omega)) ?_
   obtain ⟨sd5z, hM⟩ := M.e_grd hM
   simp only [Bool.and_eq_true, decide_eq_true_eq] at sd5z
   refine s_val (x_ari (a := to_ - from_) (b := 1) (r := (to_ - from_) + 1) rfl rfl rfl (by omega)) ?_
   refine s_val (x_as (v := I ((to_ - from_) + 1)) rfl) ?_
   refine s_nil ?_
   exact ⟨(to_ - from_) + 1, _, upds_of _ _ ⟨rfl, rfl, rfl, rfl, rfl, rfl, trivial⟩, hM, H⟩
  replace hM := M.e_f hM c3z
  refine W.skip ?_
  exact ⟨1, _, upds_of _ _ ⟨rfl, rfl, rfl, rfl, rfl, rfl, trivial⟩, hM, H⟩
 rintro _ w6z ⟨many, ρ, rfl, hM, H⟩
 unfold zaH at hM
 refine W.seq ?_
 refine W.seq ?_
 refine W.region rfl ?_
 refine s_val (x_ld (p := .pointer (some ⟨b_1, 0, none⟩)) (v := .agg #[v_b_Years, v_b_Olds, I b_First, I b_Last]) rfl (ldb_ag (ds := [v_b_Years, v_b_Olds, I b_First, I b_Last]) Ag55 Sz55 (H.blk (k := 1) rfl) rfl rfl)) ?_
 refine s_val (x_mv (v := I from_) rfl) ?_
 refine s_val (x_mv (v := I to_) rfl) ?_
 refine s_val (x_mv (v := I times) rfl) ?_
 refine s_val (x_mv (v := I many) rfl) ?_
 obtain ⟨r8z, hx7z, hM⟩ := M.e_bind hM
 refine s_call cf65 [.agg #[v_b_Years, v_b_Olds, I b_First, I b_Last], I from_, I to_, I times, I 1, I many] rfl (zcu b_Years b_Olds b_First b_Last from_ to_ times 1 many (hC_b_Years.app _) hs_b_Years (hC_b_Olds.app _) hs_b_Olds hx7z _ (St.give (T := [cBlk b_2 [I 0, I 0] 35, cBlk b_1 [v_b_Years, v_b_Olds, I b_First, I b_Last] 55]) H rfl)) ?_
 rintro vq w9z ⟨r2, hr10z, hvq, H2_⟩
 subst hr10z
 subst vq
 try dsimp only at hM
 replace H : St w w9z [cBlk b_2 [I 0, I 0] 35, cBlk b_1 [v_b_Years, v_b_Olds, I b_First, I b_Last] 55] R := H.back H2_ rfl
 clear H2_
 refine s_val (x_as (v := I r2) rfl) ?_
 refine s_nil ?_
 refine W.seq ?_
 refine W.region rfl ?_
 refine s_val (x_mv (v := I r2) rfl) ?_
 refine s_val (x_cmp (kd := .i64) (a := r2) (b := 0) (r := r2 != 0) rfl rfl rfl) ?_
 refine s_nil ?_
 refine W.cond (r2 != 0) rfl (fun c11z => ?_) (fun c11z => ?_)
 ·replace hM := M.e_t hM c11z
  simp only [decide_eq_true_eq, decide_eq_false_iff_not, beq_iff_eq, bne_iff_ne, beq_eq_false_iff_ne, bne_eq_false_iff_eq, ne_eq, Decidable.not_not] at c11z
  refine W.seq ?_
  refine W.region rfl ?_
  refine s_val (x_bld (ps := []) (zs := [I 0, I 0]) (L' := [I 0, I 0]) rfl Try.underlying35 Al35 rfl (Bd35 Try.underlying35) (.nil)) ?_
  refine s_val (x_mv (v := I r2) rfl) ?_
  refine t_st (k := 0) (b := b_2) (off := 0) (cs := [I 0, I 0]) (vs := [I 0, I 0]) (cs' := [I 0, I 0]) (v := .agg #[I 0, I 0]) (L' := [cBlk b_2 [I 0, I 0] 35, cBlk b_1 [v_b_Years, v_b_Olds, I b_First, I b_Last] 55]) H rfl rfl rfl Sz35 rfl rfl rfl rfl rfl rfl ?_
  intro w12z H
  refine s_val (x_as (v := I r2) rfl) ?_
  refine s_nil ?_
  refine W.ret ?_
  have hb13z := (H.blk (k := 0) rfl)
  have hr_ := M.e_pure hM
  exact ⟨_, (resE_ofn (vs := [.agg #[I 0, I 0], I r2]) rfl rfl (.cell (v := .agg #[I 0, I 0]) rfl (run_loadVar_ag (ds := [I 0, I 0]) Ag35 Sz35 hb13z rfl rfl) <| .tmp (v := I r2) rfl <| .nil)), ⟨0, 0, r2, hr_, rfl, (H.pick [] (by decide) rfl)⟩⟩
 replace hM := M.e_f hM c11z
 simp only [decide_eq_true_eq, decide_eq_false_iff_not, beq_iff_eq, bne_iff_ne, beq_eq_false_iff_ne, bne_eq_false_iff_eq, ne_eq, Decidable.not_not] at c11z
 refine W.skip ?_
 refine W.seq ?_
 refine W.region rfl ?_
 refine s_val (x_as (v := .slice none 0 0) rfl) ?_
 refine s_nil ?_
 refine W.seq ?_
 refine W.seq ?_
 refine W.region rfl ?_
 refine s_val (x_mv (v := I from_) rfl) ?_
 refine s_val (x_as (v := I from_) rfl) ?_
 refine s_nil ?_
 refine W.block ?_
 replace H : St w w9z [cOwn (α := Span) 35 (.slice none 0 0) ([]), cBlk b_2 [I 0, I 0] 35, cBlk b_1 [v_b_Years, v_b_Olds, I b_First, I b_Last] 55] R := H.nilOwn (α := Span) 35
 obtain ⟨ex14z, hi15z, hk16z⟩ := M.e_bind hM
 obtain ⟨m0_, hi15z⟩ := M.e_iter hi15z
 refine W.loop (fun m σ W => ∃ (year : Int) (l : List Span) (v_l : Value) (ρ : Env), σ = upds ρ [(2, I to_), (3, I times), (4, .pointer (some ⟨b_1, 0, none⟩)), (8, .pointer (some ⟨b_2, 0, none⟩)), (12, v_l), (13, I year)] /\ M.iterN (zaF b_Years b_Olds b_First b_Last to_) m (year, l) = some ex14z /\ St w W [cOwn (α := Span) 35 v_l l, cBlk b_2 [I 0, I 0] 35, cBlk b_1 [v_b_Years, v_b_Olds, I b_First, I b_Last] 55] R) ?_ ?_
 ·exact ⟨_, from_, [], (.slice none 0 0), _, upds_of _ _ ⟨rfl, rfl, rfl, rfl, rfl, rfl, trivial⟩, hi15z, H⟩
 rintro m19z σ w17z ⟨year, l, v_l, ρ, rfl, hI18z, H⟩
 obtain ⟨m20z, lt21z, x22z, hM, hN23z⟩ := M.e_iterN hI18z
 simp only [zaF] at hM
 clear hI18z
 refine W.seq ?_
 refine W.seq ?_
 refine W.region rfl ?_
 refine s_val (x_mv (v := I year) rfl) ?_
 refine s_val (x_mv (v := I to_) rfl) ?_
 refine s_val (x_cmp (kd := .i64) (a := year) (b := to_) (r := decide (year <= to_)) rfl rfl rfl) ?_
 refine s_nil ?_
 refine W.cond (decide (year <= to_)) rfl (fun c24z => ?_) (fun c24z => ?_)
 ·replace hM := M.e_t hM c24z
  simp only [decide_eq_true_eq, decide_eq_false_iff_not, beq_iff_eq, bne_iff_ne, beq_eq_false_iff_ne, bne_eq_false_iff_eq, ne_eq, Decidable.not_not] at c24z
  refine W.skip ?_
  refine W.seq ?_
  refine W.block ?_
  refine W.region rfl ?_
  refine s_val (x_mv (v := v_l) rfl) ?_
  refine s_val (x_ld (p := .pointer (some ⟨b_1, 0, none⟩)) (v := .agg #[v_b_Years, v_b_Olds, I b_First, I b_Last]) rfl (ldb_ag (ds := [v_b_Years, v_b_Olds, I b_First, I b_Last]) Ag55 Sz55 (H.blk (k := 2) rfl) rfl rfl)) ?_
  refine s_val (x_mv (v := I year) rfl) ?_
  obtain ⟨r26z, hx25z, hM⟩ := M.e_bind hM
  refine s_call cf66 [.agg #[v_b_Years, v_b_Olds, I b_First, I b_Last], I year] rfl (zb3 b_Years b_Olds b_First b_Last year (hC_b_Years.app _) hs_b_Years (hC_b_Olds.app _) hs_b_Olds hx25z _ (St.give (T := [cOwn (α := Span) 35 v_l l, cBlk b_2 [I 0, I 0] 35, cBlk b_1 [v_b_Years, v_b_Olds, I b_First, I b_Last] 55]) H rfl)) ?_
  rintro vq w27z ⟨r0, r1, hr28z, hvq, H2_⟩
  subst hr28z
  subst vq
  try dsimp only at hM
  replace H : St w w27z [cOwn (α := Span) 35 v_l l, cBlk b_2 [I 0, I 0] 35, cBlk b_1 [v_b_Years, v_b_Olds, I b_First, I b_Last] 55] R := H.back H2_ rfl
  clear H2_
  refine t_bs (α := Span) T133 [.agg #[I r0, I r1]] [(⟨(r0 : Int), (r1 : Int)⟩ : Span)] H rfl (.cons rfl (Flat.rep_enc _ (⟨(r0 : Int), (r1 : Int)⟩ : Span)) <| .nil) rfl rfl rfl ?_
  intro v29z w30z H
  obtain ⟨sd31z, hM⟩ := M.e_grd hM
  simp only [Bool.and_eq_true, decide_eq_true_eq] at sd31z
  refine t_app (α := Span) (k := 1) (l := l) (l2 := [(⟨(r0 : Int), (r1 : Int)⟩ : Span)]) (l' := l ++ ([(⟨(r0 : Int), (r1 : Int)⟩ : Span)])) (vy := v29z) T133 rfl H rfl rfl rfl (ownSl (H.get (k := 0) rfl)) (ownLe _ (H.get (k := 0) rfl)) (rfl) (by first | omega | (simp only [List.length_nil] at *; omega)) ?_
  intro v32z w33z H
  replace H : St w w33z [cOwn (α := Span) 35 v29z ([(⟨(r0 : Int), (r1 : Int)⟩ : Span)]), cOwn (α := Span) 35 v32z (l ++ ([(⟨(r0 : Int), (r1 : Int)⟩ : Span)])), cBlk b_2 [I 0, I 0] 35, cBlk b_1 [v_b_Years, v_b_Olds, I b_First, I b_Last] 55] R := H
  refine s_val (x_as (v := v32z) rfl) ?_
  refine s_nil ?_
  refine W.region rfl ?_
  refine s_val (x_mv (v := I year) rfl) ?_
  obtain ⟨sd34z, hM⟩ := M.e_grd hM
  simp only [Bool.and_eq_true, decide_eq_true_eq] at sd34z
  refine s_val (x_ari (a := year) (b := 1) (r := year + 1) rfl rfl rfl (by omega)) ?_
  refine s_val (x_as (v := I (year + 1)) rfl) ?_
  refine s_nil ?_
  exact ⟨m20z, lt21z, year + 1, l ++ ([(⟨(r0 : Int), (r1 : Int)⟩ : Span)]), v32z, _, upds_of _ _ ⟨rfl, rfl, rfl, rfl, rfl, rfl, trivial⟩, M.e_inl hM hN23z, (H.pick [1, 2, 3] (by decide) rfl)⟩
 replace hM := M.e_f hM c24z
 simp only [decide_eq_true_eq, decide_eq_false_iff_not, beq_iff_eq, bne_iff_ne, beq_eq_false_iff_ne, bne_eq_false_iff_eq, ne_eq, Decidable.not_not] at c24z
 refine W.exit ?_
 have hX35z := M.e_inr hM hN23z
 subst hX35z
 replace hM := hk16z
 try dsimp only at hM
 refine W.seq ?_
 refine W.region rfl ?_
 refine t_alloc (cs := [I 0, I 0]) H Al35 rfl ?_
 intro b_6 w36z H
 refine s_nil ?_
 refine W.seq ?_
 refine W.seq ?_
 refine W.region rfl ?_
 refine s_val (x_as (v := I 0) rfl) ?_
 refine s_nil ?_
 refine W.block ?_
 obtain ⟨ex37z, hi38z, hk39z⟩ := M.e_bind hM
 obtain ⟨m0_, hi38z⟩ := M.e_iter hi38z
 refine W.loop (fun m σ W => ∃ (stage : Nat) (s2 : Int) (s3 : Int) (ρ : Env), σ = upds ρ [(3, I times), (8, .pointer (some ⟨b_2, 0, none⟩)), (12, v_l), (14, .pointer (some ⟨b_6, 0, none⟩)), (15, I (stage : Int))] /\ M.iterN (zay times l) m (stage, s2, s3) = some ex37z /\ St w W [cBlk b_6 [I s2, I s3] 35, cOwn (α := Span) 35 v_l l, cBlk b_2 [I 0, I 0] 35, cBlk b_1 [v_b_Years, v_b_Olds, I b_First, I b_Last] 55] R) ?_ ?_
 ·exact ⟨_, 0, 0, 0, _, upds_of _ _ ⟨rfl, rfl, rfl, rfl, rfl, trivial⟩, hi38z, H⟩
 rintro m42z σ w40z ⟨stage, s2, s3, ρ, rfl, hI41z, H⟩
 obtain ⟨m43z, lt44z, x45z, hM, hN46z⟩ := M.e_iterN hI41z
 simp only [zay] at hM
 clear hI41z
 refine W.seq ?_
 refine W.seq ?_
 refine W.region rfl ?_
 refine s_val (x_mv (v := I (stage : Int)) rfl) ?_
 refine s_val (x_cmp (kd := .i64) (a := (stage : Int)) (b := 2000) (r := decide ((stage : Int) <= 2000)) rfl rfl rfl) ?_
 refine s_nil ?_
 refine W.cond (decide ((stage : Int) <= 2000)) rfl (fun c47z => ?_) (fun c47z => ?_)
 ·replace hM := M.e_t hM c47z
  simp only [decide_eq_true_eq, decide_eq_false_iff_not, beq_iff_eq, bne_iff_ne, beq_eq_false_iff_ne, bne_eq_false_iff_eq, ne_eq, Decidable.not_not] at c47z
  refine W.skip ?_
  refine W.seq ?_
  refine W.block ?_
  refine W.seq ?_
  refine W.region rfl ?_
  refine s_val (x_as (v := I 0) rfl) ?_
  refine s_val (x_as (v := I 0) rfl) ?_
  refine s_nil ?_
  refine W.seq ?_
  refine W.seq ?_
  refine W.region rfl ?_
  refine s_val (x_as (v := I 0) rfl) ?_
  refine s_nil ?_
  refine W.block ?_
  obtain ⟨ex48z, hi49z, hk50z⟩ := M.e_bind hM
  obtain ⟨m0_, hi49z⟩ := M.e_iter hi49z
  refine W.loop (fun m σ W => ∃ (low2 : Int) (high : Nat) (i : Nat) (ρ : Env), σ = upds ρ [(3, I times), (8, .pointer (some ⟨b_2, 0, none⟩)), (12, v_l), (14, .pointer (some ⟨b_6, 0, none⟩)), (15, I (stage : Int)), (16, I low2), (17, I (high : Int)), (18, I (i : Int))] /\ M.iterN (zaB l stage) m (low2, high, i) = some ex48z /\ St w W [cBlk b_6 [I s2, I s3] 35, cOwn (α := Span) 35 v_l l, cBlk b_2 [I 0, I 0] 35, cBlk b_1 [v_b_Years, v_b_Olds, I b_First, I b_Last] 55] R) ?_ ?_
  ·exact ⟨_, 0, 0, 0, _, upds_of _ _ ⟨rfl, rfl, rfl, rfl, rfl, rfl, rfl, rfl, trivial⟩, hi49z, H⟩
  rintro m53z σ w51z ⟨low2, high, i, ρ, rfl, hI52z, H⟩
  obtain ⟨m54z, lt55z, x56z, hM, hN57z⟩ := M.e_iterN hI52z
  simp only [zaB] at hM
  clear hI52z
  refine W.seq ?_
  refine W.seq ?_
  refine W.region rfl ?_
  refine s_val (x_mv (v := I (i : Int)) rfl) ?_
  refine s_val (x_mv (v := v_l) rfl) ?_
  have hl58z := ((ownSl (H.get (k := 1) rfl))).len_le
  refine s_val (x_lenS T133.und rfl (ownSl (H.get (k := 1) rfl))) ?_
  refine s_val (x_cmp (kd := .i64) (a := (i : Int)) (b := (l.length : Int)) (r := decide ((i : Int) < (l.length : Int))) rfl rfl rfl) ?_
  refine s_nil ?_
  refine W.cond (decide ((i : Int) < (l.length : Int))) rfl (fun c59z => ?_) (fun c59z => ?_)
  ·replace hM := M.e_t hM c59z
   simp only [decide_eq_true_eq, decide_eq_false_iff_not, beq_iff_eq, bne_iff_ne, beq_eq_false_iff_ne, bne_eq_false_iff_eq, ne_eq, Decidable.not_not] at c59z
   refine W.skip ?_
   refine W.seq ?_
   refine W.block ?_
   refine W.seqJ (fun σ W => ∃ (low : Int) (ρ : Env), σ = upds ρ [(3, I times), (8, .pointer (some ⟨b_2, 0, none⟩)), (12, v_l), (14, .pointer (some ⟨b_6, 0, none⟩)), (15, I (stage : Int)), (16, I low), (17, I (high : Int)), (18, I (i : Int))] /\ (zaD l stage high i low).Ends x56z /\ St w W [cBlk b_6 [I s2, I s3] 35, cOwn (α := Span) 35 v_l l, cBlk b_2 [I 0, I 0] 35, cBlk b_1 [v_b_Years, v_b_Olds, I b_First, I b_Last] 55] R) ?_ ?_
   ·skip
    refine W.seq ?_
    refine W.region rfl ?_
    refine s_val (x_mv (v := v_l) rfl) ?_
    refine s_val (x_mv (v := I (i : Int)) rfl) ?_
    obtain ⟨sd60z, hM⟩ := M.e_grd hM
    simp only [Bool.and_eq_true, decide_eq_true_eq] at sd60z
    refine s_val (x_ix (a := v_l) (b := I (i : Int)) (v := vat v_l 2 (Int.toNat (i : Int))) rfl rfl (Sl.ix (α := Span) T133.und T133.size (ownSl (H.get (k := 1) rfl)) (by omega) (by omega))) ?_
    refine s_val (x_fa (a := vat v_l 2 (Int.toNat (i : Int))) (v := fat (vat v_l 2 (Int.toNat (i : Int))) 0) rfl (fa_pl Fd35_0 Sz3 (Sl.pl (i := (i : Int)) (ownSl (H.get (k := 1) rfl)) (by omega) (by omega)))) ?_
    refine s_val (x_ld (p := fat (vat v_l 2 (Int.toNat (i : Int))) 0) (v := I ((l.getD i default).lo)) rfl (ld_sc Sc3 (At.mono (Span_at0 (ownSl (H.get (k := 1) rfl)) (i := (i : Int)) (by omega) (by omega)) (ownLe _ (H.get (k := 1) rfl))))) ?_
    refine s_val (x_mv (v := I (stage : Int)) rfl) ?_
    refine s_val (x_cmp (kd := .i64) (a := (l.getD i default).lo) (b := (stage : Int)) (r := decide ((stage : Int) <= ((l.getD i default).lo))) rfl rfl rfl) ?_
    refine s_nil ?_
    refine W.cond (decide ((stage : Int) <= ((l.getD i default).lo))) rfl (fun c61z => ?_) (fun c61z => ?_)
    ·replace hM := M.e_t hM c61z
     simp only [decide_eq_true_eq, decide_eq_false_iff_not, beq_iff_eq, bne_iff_ne, beq_eq_false_iff_ne, bne_eq_false_iff_eq, ne_eq, Decidable.not_not] at c61z
     refine W.region rfl ?_
     refine s_val (x_mv (v := I low2) rfl) ?_
     obtain ⟨sd62z, hM⟩ := M.e_grd hM
     simp only [Bool.and_eq_true, decide_eq_true_eq] at sd62z
     refine s_val (x_ari (a := low2) (b := 1) (r := low2 + 1) rfl rfl rfl (by omega)) ?_
     refine s_val (x_as (v := I (low2 + 1)) rfl) ?_
     refine s_nil ?_
     exact ⟨low2 + 1, _, upds_of _ _ ⟨rfl, rfl, rfl, rfl, rfl, rfl, rfl, rfl, trivial⟩, hM, H⟩
    replace hM := M.e_f hM c61z
    simp only [decide_eq_true_eq, decide_eq_false_iff_not, beq_iff_eq, bne_iff_ne, beq_eq_false_iff_ne, bne_eq_false_iff_eq, ne_eq, Decidable.not_not] at c61z
    refine W.skip ?_
    exact ⟨low2, _, upds_of _ _ ⟨rfl, rfl, rfl, rfl, rfl, rfl, rfl, rfl, trivial⟩, hM, H⟩
   rintro _ w63z ⟨low, ρ, rfl, hM, H⟩
   unfold zaD at hM
   refine W.seq ?_
   refine W.region rfl ?_
   refine s_val (x_mv (v := v_l) rfl) ?_
   refine s_val (x_mv (v := I (i : Int)) rfl) ?_
   refine s_val (x_ix (a := v_l) (b := I (i : Int)) (v := vat v_l 2 (Int.toNat (i : Int))) rfl rfl (Sl.ix (α := Span) T133.und T133.size (ownSl (H.get (k := 1) rfl)) (by omega) (by omega))) ?_
   refine s_val (x_fa (a := vat v_l 2 (Int.toNat (i : Int))) (v := fat (vat v_l 2 (Int.toNat (i : Int))) 1) rfl (fa_pl Fd35_1 Sz3 (Sl.pl (i := (i : Int)) (ownSl (H.get (k := 1) rfl)) (by omega) (by omega)))) ?_
   refine s_val (x_ld (p := fat (vat v_l 2 (Int.toNat (i : Int))) 1) (v := I ((l.getD i default).hi)) rfl (ld_sc Sc3 (At.mono (Span_at1 (ownSl (H.get (k := 1) rfl)) (i := (i : Int)) (by omega) (by omega)) (ownLe _ (H.get (k := 1) rfl))))) ?_
   refine s_val (x_mv (v := I (stage : Int)) rfl) ?_
   refine s_val (x_cmp (kd := .i64) (a := (l.getD i default).hi) (b := (stage : Int)) (r := decide ((stage : Int) <= ((l.getD i default).hi))) rfl rfl rfl) ?_
   refine s_nil ?_
   refine W.cond (decide ((stage : Int) <= ((l.getD i default).hi))) rfl (fun c64z => ?_) (fun c64z => ?_)
   ·replace hM := M.e_t hM c64z
    simp only [decide_eq_true_eq, decide_eq_false_iff_not, beq_iff_eq, bne_iff_ne, beq_eq_false_iff_ne, bne_eq_false_iff_eq, ne_eq, Decidable.not_not] at c64z
    refine W.region rfl ?_
    refine s_val (x_mv (v := I (high : Int)) rfl) ?_
    obtain ⟨sd65z, hM⟩ := M.e_grd hM
    simp only [Bool.and_eq_true, decide_eq_true_eq] at sd65z
    refine s_val (x_ari (a := (high : Int)) (b := 1) (r := (high : Int) + 1) rfl rfl rfl (by omega)) ?_
    refine s_val (x_as (v := I ((high : Int) + 1)) rfl) ?_
    refine s_nil ?_
    refine W.region rfl ?_
    refine s_val (x_mv (v := I (i : Int)) rfl) ?_
    refine s_val (x_ari (a := (i : Int)) (b := 1) (r := (i : Int) + 1) rfl rfl rfl (by omega)) ?_
    refine s_val (x_as (v := I ((i : Int) + 1)) rfl) ?_
    refine s_nil ?_
    exact ⟨m54z, lt55z, low, high + 1, i + 1, _, upds_of _ _ ⟨rfl, rfl, rfl, rfl, rfl, rfl, rfl, rfl, trivial⟩, M.e_inl hM hN57z, H⟩
   replace hM := M.e_f hM c64z
   simp only [decide_eq_true_eq, decide_eq_false_iff_not, beq_iff_eq, bne_iff_ne, beq_eq_false_iff_ne, bne_eq_false_iff_eq, ne_eq, Decidable.not_not] at c64z
   refine W.skip ?_
   refine W.region rfl ?_
   refine s_val (x_mv (v := I (i : Int)) rfl) ?_
   refine s_val (x_ari (a := (i : Int)) (b := 1) (r := (i : Int) + 1) rfl rfl rfl (by omega)) ?_
   refine s_val (x_as (v := I ((i : Int) + 1)) rfl) ?_
   refine s_nil ?_
   exact ⟨m54z, lt55z, low, high, i + 1, _, upds_of _ _ ⟨rfl, rfl, rfl, rfl, rfl, rfl, rfl, rfl, trivial⟩, M.e_inl hM hN57z, H⟩
  replace hM := M.e_f hM c59z
  simp only [decide_eq_true_eq, decide_eq_false_iff_not, beq_iff_eq, bne_iff_ne, beq_eq_false_iff_ne, bne_eq_false_iff_eq, ne_eq, Decidable.not_not] at c59z
  refine W.exit ?_
  have hX66z := M.e_inr hM hN57z
  subst hX66z
  replace hM := hk50z
  try dsimp only at hM
  refine W.seqJ (fun σ W => ∃ (s : Int) (ρ : Env), σ = upds ρ [(3, I times), (8, .pointer (some ⟨b_2, 0, none⟩)), (12, v_l), (14, .pointer (some ⟨b_6, 0, none⟩)), (15, I (stage : Int)), (17, I (high : Int))] /\ (za5 times stage s3 (high : Int) s).Ends x45z /\ St w W [cBlk b_6 [I s, I s3] 35, cOwn (α := Span) 35 v_l l, cBlk b_2 [I 0, I 0] 35, cBlk b_1 [v_b_Years, v_b_Olds, I b_First, I b_Last] 55] R) ?_ ?_
  ·skip
   refine W.seq ?_
   refine W.region rfl ?_
   refine s_val (x_mv (v := I low2) rfl) ?_
   refine s_val (x_mv (v := I times) rfl) ?_
   refine s_val (x_cmp (kd := .i64) (a := low2) (b := times) (r := decide (times <= low2)) rfl rfl rfl) ?_
   refine s_nil ?_
   refine W.cond (decide (times <= low2)) rfl (fun c67z => ?_) (fun c67z => ?_)
   ·replace hM := M.e_t hM c67z
    simp only [decide_eq_true_eq, decide_eq_false_iff_not, beq_iff_eq, bne_iff_ne, beq_eq_false_iff_ne, bne_eq_false_iff_eq, ne_eq, Decidable.not_not] at c67z
    refine W.region rfl ?_
    refine s_val (x_mv (v := I (stage : Int)) rfl) ?_
    refine s_val (x_fa (a := .pointer (some ⟨b_6, 0, none⟩)) (v := .pointer (some ⟨b_6, 0, none⟩)) rfl (fa_blk (o := 0) Fd35_0 Sz3)) ?_
    refine t_st (k := 0) (b := b_6) (off := 0) (cs := [I s2, I s3]) (vs := [I (stage : Int)]) (cs' := [I (stage : Int), I s3]) (v := I (stage : Int)) (L' := [cBlk b_6 [I (stage : Int), I s3] 35, cOwn (α := Span) 35 v_l l, cBlk b_2 [I 0, I 0] 35, cBlk b_1 [v_b_Years, v_b_Olds, I b_First, I b_Last] 55]) H rfl rfl rfl Sz3 rfl rfl rfl rfl rfl rfl ?_
    intro w68z H
    refine s_nil ?_
    exact ⟨(stage : Int), _, upds_of _ _ ⟨rfl, rfl, rfl, rfl, rfl, rfl, trivial⟩, hM, H⟩
   replace hM := M.e_f hM c67z
   simp only [decide_eq_true_eq, decide_eq_false_iff_not, beq_iff_eq, bne_iff_ne, beq_eq_false_iff_ne, bne_eq_false_iff_eq, ne_eq, Decidable.not_not] at c67z
   refine W.skip ?_
   exact ⟨s2, _, upds_of _ _ ⟨rfl, rfl, rfl, rfl, rfl, rfl, trivial⟩, hM, H⟩
  rintro _ w69z ⟨s, ρ, rfl, hM, H⟩
  unfold za5 at hM
  refine W.seq ?_
  refine W.region rfl ?_
  refine s_val (x_mv (v := I (high : Int)) rfl) ?_
  refine s_val (x_mv (v := I times) rfl) ?_
  refine s_val (x_cmp (kd := .i64) (a := (high : Int)) (b := times) (r := decide (times <= (high : Int))) rfl rfl rfl) ?_
  refine s_nil ?_
  refine W.cond (decide (times <= (high : Int))) rfl (fun c70z => ?_) (fun c70z => ?_)
  ·replace hM := M.e_t hM c70z
   simp only [decide_eq_true_eq, decide_eq_false_iff_not, beq_iff_eq, bne_iff_ne, beq_eq_false_iff_ne, bne_eq_false_iff_eq, ne_eq, Decidable.not_not] at c70z
   refine W.region rfl ?_
   refine s_val (x_mv (v := I (stage : Int)) rfl) ?_
   refine s_val (x_fa (a := .pointer (some ⟨b_6, 0, none⟩)) (v := .pointer (some ⟨b_6, 1, none⟩)) rfl (fa_blk (o := 0) Fd35_1 Sz3)) ?_
   refine t_st (k := 0) (b := b_6) (off := 1) (cs := [I s, I s3]) (vs := [I (stage : Int)]) (cs' := [I s, I (stage : Int)]) (v := I (stage : Int)) (L' := [cBlk b_6 [I s, I (stage : Int)] 35, cOwn (α := Span) 35 v_l l, cBlk b_2 [I 0, I 0] 35, cBlk b_1 [v_b_Years, v_b_Olds, I b_First, I b_Last] 55]) H rfl rfl rfl Sz3 rfl rfl rfl rfl rfl rfl ?_
   intro w71z H
   refine s_nil ?_
   refine W.region rfl ?_
   refine s_val (x_mv (v := I (stage : Int)) rfl) ?_
   obtain ⟨sd72z, hM⟩ := M.e_grd hM
   simp only [Bool.and_eq_true, decide_eq_true_eq] at sd72z
   refine s_val (x_ari (a := (stage : Int)) (b := 1) (r := (stage : Int) + 1) rfl rfl rfl (by omega)) ?_
   refine s_val (x_as (v := I ((stage : Int) + 1)) rfl) ?_
   refine s_nil ?_
   exact ⟨m43z, lt44z, stage + 1, s, (stage : Int), _, upds_of _ _ ⟨rfl, rfl, rfl, rfl, rfl, trivial⟩, M.e_inl hM hN46z, H⟩
  replace hM := M.e_f hM c70z
  simp only [decide_eq_true_eq, decide_eq_false_iff_not, beq_iff_eq, bne_iff_ne, beq_eq_false_iff_ne, bne_eq_false_iff_eq, ne_eq, Decidable.not_not] at c70z
  refine W.skip ?_
  refine W.region rfl ?_
  refine s_val (x_mv (v := I (stage : Int)) rfl) ?_
  obtain ⟨sd73z, hM⟩ := M.e_grd hM
  simp only [Bool.and_eq_true, decide_eq_true_eq] at sd73z
  refine s_val (x_ari (a := (stage : Int)) (b := 1) (r := (stage : Int) + 1) rfl rfl rfl (by omega)) ?_
  refine s_val (x_as (v := I ((stage : Int) + 1)) rfl) ?_
  refine s_nil ?_
  exact ⟨m43z, lt44z, stage + 1, s, s3, _, upds_of _ _ ⟨rfl, rfl, rfl, rfl, rfl, trivial⟩, M.e_inl hM hN46z, H⟩
 replace hM := M.e_f hM c47z
 simp only [decide_eq_true_eq, decide_eq_false_iff_not, beq_iff_eq, bne_iff_ne, beq_eq_false_iff_ne, bne_eq_false_iff_eq, ne_eq, Decidable.not_not] at c47z
 refine W.exit ?_
 have hX74z := M.e_inr hM hN46z
 subst hX74z
 replace hM := hk39z
 try dsimp only at hM
 refine W.seq ?_
 refine W.region rfl ?_
 refine s_val (x_ld (p := .pointer (some ⟨b_6, 0, none⟩)) (v := .agg #[I s2, I s3]) rfl (ldb_ag (ds := [I s2, I s3]) Ag35 Sz35 (H.blk (k := 0) rfl) rfl rfl)) ?_
 refine t_st (k := 2) (b := b_2) (off := 0) (cs := [I 0, I 0]) (vs := [I s2, I s3]) (cs' := [I s2, I s3]) (v := .agg #[I s2, I s3]) (L' := [cBlk b_6 [I s2, I s3] 35, cOwn (α := Span) 35 v_l l, cBlk b_2 [I s2, I s3] 35, cBlk b_1 [v_b_Years, v_b_Olds, I b_First, I b_Last] 55]) H rfl rfl rfl Sz35 rfl rfl rfl rfl rfl rfl ?_
 intro w75z H
 refine s_val (x_as (v := I 0) rfl) ?_
 refine s_nil ?_
 refine W.ret ?_
 have hb76z := (H.blk (k := 2) rfl)
 have hr_ := M.e_pure hM
 exact ⟨_, (resE_ofn (vs := [.agg #[I s2, I s3], I 0]) rfl rfl (.cell (v := .agg #[I s2, I s3]) rfl (run_loadVar_ag (ds := [I s2, I s3]) Ag35 Sz35 hb76z rfl rfl) <| .tmp (v := I 0) rfl <| .nil)), ⟨s2, s3, 0, hr_, rfl, (H.pick [] (by decide) rfl)⟩⟩

end Go.Proofs.Ytcgalcbkkijkhaa
end
namespace Go.Nm
namespace Bk
/-- What the years from one on can have. -/
def kl (ys : List Yr) (os : List Old10) (a : Int) (n : Nat) : List Span := (List.range n).map fun (i : Nat) => kn ys os (a + (i : Int))
theorem kl_succ (ys : List Yr) (os : List Old10) (a : Int) (n : Nat) : kl ys os a (n + 1) = kl ys os a n ++ [kn ys os (a + (n : Int))] := by
  unfold kl
  rw [List.range_succ, List.map_append]
  rfl
theorem kl_len (ys : List Yr) (os : List Old10) (a : Int) (n : Nat) : (kl ys os a n).length = n := by unfold kl; rw [List.length_map, List.length_range]
theorem kl_at (ys : List Yr) (os : List Old10) (a : Int) {n i : Nat} (h : i < n) : (kl ys os a n)[i]? = some (kn ys os (a + (i : Int))) := by
  unfold kl
  rw [List.getElem?_map, List.getElem?_range h]
  rfl
theorem kl_mem {ys : List Yr} {os : List Old10} {a : Int} {n : Nat} {s : Span} (h : s ∈ kl ys os a n) : ∃ i : Nat, i < n /\ s = kn ys os (a + (i : Int)) := by
  unfold kl at h
  obtain ⟨i, hi, rfl⟩ := List.mem_map.1 h
  exact ⟨i, List.mem_range.1 hi, rfl⟩
def In (f l fr to : Int) : Prop := f <= fr /\ fr <= to /\ to <= l
/-- The first error of a book, two years, a number, and that no truth can be. -/
def WrE (ys : List Yr) (os : List Old10) (f l fr to n a b e : Int) : Prop := (chkB ys os f l ≠ 0 /\ e = chkB ys os f l) ∨ (chkB ys os f l = 0 /\ ¬ In f l fr to /\ e = 2) ∨ (chkB ys os f l = 0 /\ In f l fr to /\ ¬ (a <= n /\ n <= b) /\ e = 4) ∨
  (chkB ys os f l = 0 /\ In f l fr to /\ (a <= n /\ n <= b) /\ ¬ Fine ys os f l /\ e = 6) ∨ (chkB ys os f l = 0 /\ In f l fr to /\ (a <= n /\ n <= b) /\ Fine ys os f l /\ e = 0)
theorem WrE.uniq {ys : List Yr} {os : List Old10} {f l fr to n a b e e' : Int} (h : WrE ys os f l fr to n a b e) (k : WrE ys os f l fr to n a b e') : e = e' := by
  rcases h with ⟨h1, rfl⟩ | ⟨h1, h2, rfl⟩ | ⟨h1, h2, h3, rfl⟩ | ⟨h1, h2, h3, h4, rfl⟩ | ⟨h1, h2, h3, h4, rfl⟩ <;> rcases k with ⟨k1, rfl⟩ | ⟨k1, k2, rfl⟩ | ⟨k1, k2, k3, rfl⟩ | ⟨k1, k2, k3, k4, rfl⟩ | ⟨k1, k2, k3, k4, rfl⟩ <;> first | rfl | contradiction
theorem WrE.ok {ys : List Yr} {os : List Old10} {f l fr to n a b : Int} (h : WrE ys os f l fr to n a b 0) : chkB ys os f l = 0 /\ In f l fr to /\ (a <= n /\ n <= b) /\ Fine ys os f l := by
  rcases h with ⟨h1, h2⟩ | ⟨h1, h2, h3⟩ | ⟨h1, h2, h3, h4⟩ | ⟨h1, h2, h3, h4, h5⟩ | ⟨h1, h2, h3, h4, h5⟩
  · exact absurd h2.symm h1
  · cases h3
  · cases h4
  · cases h5
  · exact ⟨h1, h2, h3, h4⟩
theorem WrE.last {ys : List Yr} {os : List Old10} {f l fr to n a b b' e : Int} (h : WrE ys os f l fr to n a b e) (hb : chkB ys os f l = 0 -> In f l fr to -> b = b') : WrE ys os f l fr to n a b' e := by
  rcases h with ⟨h1, h2⟩ | ⟨h1, h2, h3⟩ | ⟨h1, h2, h3, h4⟩ | ⟨h1, h2, h3, h4, h5⟩ | ⟨h1, h2, h3, h4, h5⟩
  · exact .inl ⟨h1, h2⟩
  · exact .inr (.inl ⟨h1, h2, h3⟩)
  · exact .inr (.inr (.inl ⟨h1, h2, by rw [← hb h1 h2]; exact h3, h4⟩))
  · exact .inr (.inr (.inr (.inl ⟨h1, h2, by rw [← hb h1 h2]; exact h3, h4, h5⟩)))
  · exact .inr (.inr (.inr (.inr ⟨h1, h2, by rw [← hb h1 h2]; exact h3, h4, h5⟩)))
def many (p : Span -> Bool) (ys : List Yr) (os : List Old10) (fr to : Int) : Int := ((kl ys os fr (Int.toNat (to + 1 - fr))).countP p : Nat)
def lop (x : Int) (s : Span) : Bool := decide (x <= s.lo)
def hip (x : Int) (s : Span) : Bool := decide (x <= s.hi)
def PaE (ys : List Yr) (os : List Old10) (f l fr to st : Int) (r : Int × Int × Int) : Prop := (r.2.2 ≠ 0 /\ WrE ys os f l fr to st 0 2000 r.2.2 /\ r.1 = 0 /\ r.2.1 = 0) ∨ (r.2.2 = 0 /\ WrE ys os f l fr to st 0 2000 0 /\ r.1 = many (lop st) ys os fr to /\ r.2.1 = many (hip st) ys os fr to)
theorem PaE.wr {ys : List Yr} {os : List Old10} {f l fr to st : Int} {r : Int × Int × Int} (h : PaE ys os f l fr to st r) : WrE ys os f l fr to st 0 2000 r.2.2 := by
  rcases h with ⟨h1, h2, h3⟩ | ⟨h1, h2, h3⟩
  · exact h2
  · rw [h1]; exact h2
theorem PaE.uniq {ys : List Yr} {os : List Old10} {f l fr to st : Int} {r s : Int × Int × Int} (h : PaE ys os f l fr to st r) (k : PaE ys os f l fr to st s) : r = s := by
  have e := h.wr.uniq k.wr
  obtain ⟨r1, r2, r3⟩ := r
  obtain ⟨s1, s2, s3⟩ := s
  dsimp only at e
  subst e
  rcases h with ⟨h1, h2, h3, h4⟩ | ⟨h1, h2, h3, h4⟩ <;> rcases k with ⟨k1, k2, k3, k4⟩ | ⟨k1, k2, k3, k4⟩ <;> dsimp only at h1 h3 h4 k1 k3 k4
  · rw [h3, h4, k3, k4]
  · exact absurd k1 h1
  · exact absurd h1 k1
  · rw [h3, h4, k3, k4]
def ofs (most : Bool) (s : Span) : Int := if most = true then s.hi else s.lo
def ToE (ys : List Yr) (os : List Old10) (f l fr to st : Int) (most : Bool) (r : List Int × Int) : Prop := (r.2 ≠ 0 /\ WrE ys os f l fr to st 0 2000 r.2 /\ r.1 = []) ∨ (r.2 = 0 /\ WrE ys os f l fr to st 0 2000 0 /\ r.1 = (kl ys os f (Int.toNat (l + 1 - f))).map (ofs most))
/-- The highest number that so many have. -/
def Top (L : List Int) (t v : Int) : Prop := 0 <= v /\ v <= 2000 /\ t <= (L.countP (fun x => decide (v <= x)) : Nat) /\ ((L.countP (fun x => decide (v + 1 <= x)) : Nat) : Int) < t
theorem cnt_mono {L : List Int} {v w : Int} (h : v <= w) : L.countP (fun x => decide (w <= x)) <= L.countP (fun x => decide (v <= x)) := by
  refine List.countP_mono_left fun x _ hx => ?_
  have := of_decide_eq_true hx
  exact decide_eq_true (by omega)
theorem Top.uniq {L : List Int} {t v w : Int} (h : Top L t v) (k : Top L t w) : v = w := by
  obtain ⟨h1, h2, h3, h4⟩ := h
  obtain ⟨k1, k2, k3, k4⟩ := k
  rcases Int.lt_trichotomy v w with e | e | e
  · have := cnt_mono (L := L) (v := v + 1) (w := w) (by omega)
    omega
  · exact e
  · have := cnt_mono (L := L) (v := w + 1) (w := v) (by omega)
    omega
theorem top_sort {L : List Int} (hL : ∀ x ∈ L, 0 <= x /\ x <= 2000) {t : Nat} (h1 : 1 <= t) (h2 : t <= L.length) : Top L t ((isort L).getD (L.length - t) 0) := by
  have hp := isort_perm L
  have hlen : (isort L).length = L.length := hp.length_eq
  have ha := isort_asc L
  have hm : ∀ x ∈ isort L, 0 <= x /\ x <= 2000 := fun x hx => hL x (hp.mem_iff.1 hx)
  unfold Top
  rw [← hp.countP_eq, ← hp.countP_eq]
  generalize isort L = s at *
  have hk : L.length - t < s.length := by omega
  have e : s.getD (L.length - t) 0 = s[L.length - t] := by rw [List.getD_eq_getElem?_getD, List.getElem?_eq_getElem hk, Option.getD_some]
  rw [e]
  have hv := hm s[L.length - t] (List.getElem_mem hk)
  refine ⟨hv.1, hv.2, ?_, ?_⟩
  · have e1 : s.countP (fun x => decide (s[L.length - t] <= x)) = (s.take (L.length - t)).countP (fun x => decide (s[L.length - t] <= x)) + (s.drop (L.length - t)).countP (fun x => decide (s[L.length - t] <= x)) := by
      rw [← List.countP_append, List.take_append_drop]
    have e2 : (s.drop (L.length - t)).countP (fun x => decide (s[L.length - t] <= x)) = (s.drop (L.length - t)).length := by
      rw [List.countP_eq_length]
      intro x hx
      obtain ⟨i, hi, rfl⟩ := List.getElem_of_mem hx
      rw [List.length_drop] at hi
      rw [List.getElem_drop]
      refine decide_eq_true ?_
      by_cases h0 : i = 0
      · subst h0; exact Int.le_refl _
      · exact List.pairwise_iff_getElem.1 ha (L.length - t) (L.length - t + i) hk (by omega) (by omega)
    rw [List.length_drop] at e2
    omega
  · have e1 : s.countP (fun x => decide (s[L.length - t] + 1 <= x)) = (s.take (L.length - t + 1)).countP (fun x => decide (s[L.length - t] + 1 <= x)) + (s.drop (L.length - t + 1)).countP (fun x => decide (s[L.length - t] + 1 <= x)) := by
      rw [← List.countP_append, List.take_append_drop]
    have e2 : (s.take (L.length - t + 1)).countP (fun x => decide (s[L.length - t] + 1 <= x)) = 0 := by
      rw [List.countP_eq_zero]
      intro x hx
      obtain ⟨i, hi, rfl⟩ := List.getElem_of_mem hx
      rw [List.length_take] at hi
      rw [List.getElem_take, decide_eq_true_eq]
      by_cases h0 : i = L.length - t
      · subst h0; omega
      · have := List.pairwise_iff_getElem.1 ha i (L.length - t) (by omega) hk (by omega)
        omega
    have e3 := List.countP_le_length (p := fun x => decide (s[L.length - t] + 1 <= x)) (l := s.drop (L.length - t + 1))
    rw [List.length_drop] at e3
    omega
def ReE (ys : List Yr) (os : List Old10) (f l fr to t : Int) (r : Int × Int × Int) : Prop := (r.2.2 ≠ 0 /\ WrE ys os f l fr to t 1 (to - fr + 1) r.2.2 /\ r.1 = 0 /\ r.2.1 = 0) ∨
  (r.2.2 = 0 /\ WrE ys os f l fr to t 1 (to - fr + 1) 0 /\ Top ((kl ys os fr (Int.toNat (to + 1 - fr))).map Span.lo) t r.1 /\ Top ((kl ys os fr (Int.toNat (to + 1 - fr))).map Span.hi) t r.2.1)
theorem ReE.wr {ys : List Yr} {os : List Old10} {f l fr to t : Int} {r : Int × Int × Int} (h : ReE ys os f l fr to t r) : WrE ys os f l fr to t 1 (to - fr + 1) r.2.2 := by
  rcases h with ⟨h1, h2, h3⟩ | ⟨h1, h2, h3⟩
  · exact h2
  · rw [h1]; exact h2
theorem ReE.uniq {ys : List Yr} {os : List Old10} {f l fr to t : Int} {r s : Int × Int × Int} (h : ReE ys os f l fr to t r) (k : ReE ys os f l fr to t s) : r = s := by
  have e := h.wr.uniq k.wr
  obtain ⟨r1, r2, r3⟩ := r
  obtain ⟨s1, s2, s3⟩ := s
  dsimp only at e
  subst e
  rcases h with ⟨h1, h2, h3, h4⟩ | ⟨h1, h2, h3, h4⟩ <;> rcases k with ⟨k1, k2, k3, k4⟩ | ⟨k1, k2, k3, k4⟩ <;> dsimp only at h1 h3 h4 k1 k3 k4
  · rw [h3, h4, k3, k4]
  · exact absurd k1 h1
  · exact absurd h1 k1
  · rw [h3.uniq k3, h4.uniq k4]
end Bk
end Go.Nm
namespace Go.Proofs.Ytcgalcbkkijkhaa
open Go Go.Nm
variable {ys : List Yr} {os : List Old10} {f l : Int}
theorem between_out (hy : ys.length <= 1000000) (ho : os.length <= 1000000) (fr to n a b : Int) : (zaE ys os f l fr to n a b).Out (fun r => match r with | .inl e => e ≠ 0 /\ Bk.WrE ys os f l fr to n a b e | .inr (f', l', m, z) => f' = f /\ l' = l /\ z = 0 /\ Bk.WrE ys os f l fr to n a b 0 /\ Knows ys os f l m) := by
  unfold zaE
  by_cases h0 : Bk.chkB ys os f l = 0
  · have h := Bk.chk_ok h0
    obtain ⟨m, g1, hm⟩ := opened_ok hy ho h0
    refine M.o_bindE g1 (M.o_f rfl (M.o_bindE (in_ends _ _ _) (M.o_bindE (a := (decide (f <= fr) && decide (fr <= to)) && (decide (f <= to) && decide (to <= l))) (M.i_opt (fun h => by rw [Bool.not_not] at h; rw [h]; exact in_ends _ _ _) (fun h => by rw [Bool.not_not] at h; rw [h]; rfl)) (M.o_if (fun hb => ?_) (fun hb => ?_)))))
    · have hI : ¬ Bk.In f l fr to := by
        rintro ⟨i1, i2, i3⟩
        rw [decide_eq_true i1, decide_eq_true i2, decide_eq_true i3, decide_eq_true (show f <= to by omega)] at hb
        cases hb
      exact M.o_pure ⟨by decide, .inr (.inl ⟨h0, hI, rfl⟩)⟩
    · have hI : Bk.In f l fr to := by
        rw [Bool.or_eq_false_iff, Bool.not_eq_false', Bool.not_eq_false'] at hb
        have := hb.2
        rw [Bool.and_eq_true, Bool.and_eq_true, Bool.and_eq_true, decide_eq_true_eq, decide_eq_true_eq, decide_eq_true_eq, decide_eq_true_eq] at this
        exact ⟨this.1.1, this.1.2, this.2.2⟩
      refine M.o_bindE (in_ends _ _ _) (M.o_if (fun hb => ?_) (fun hb => ?_))
      · rw [Bool.not_eq_true', Bool.and_eq_false_iff, decide_eq_false_iff_not, decide_eq_false_iff_not] at hb
        exact M.o_pure ⟨by decide, .inr (.inr (.inl ⟨h0, hI, by omega, rfl⟩))⟩
      · rw [Bool.not_eq_false', Bool.and_eq_true, decide_eq_true_eq, decide_eq_true_eq] at hb
        refine M.o_bind (clash_out h hm) ?_
        rintro ⟨y', c⟩ (⟨e, hF⟩ | ⟨e, hF⟩)
        · rw [Prod.mk.injEq] at e
          obtain ⟨rfl, rfl⟩ := e
          exact M.o_f rfl (M.o_pure ⟨rfl, rfl, rfl, .inr (.inr (.inr (.inr ⟨h0, hI, hb, hF, rfl⟩))), hm⟩)
        · dsimp only at e hF
          subst e
          exact M.o_t rfl (M.o_pure ⟨by decide, .inr (.inr (.inr (.inl ⟨h0, hI, hb, fun hh => hF.bad hh, rfl⟩)))⟩)
  · exact M.o_bindE (opened_bad hy ho h0) (M.o_t (bne_iff_ne.2 h0) (M.o_pure ⟨h0, .inl ⟨h0, rfl⟩⟩))
theorem chk_ne5 : Bk.chkB ys os f l ≠ 5 := by
  intro h5
  unfold Bk.chkB at h5
  split at h5
  · cases h5
  · split at h5
    · cases h5
    · split at h5
      · have : ∀ n, Pk.fe (Bk.errY f l ys) n = 0 ∨ Pk.fe (Bk.errY f l ys) n = 9 ∨ Pk.fe (Bk.errY f l ys) n = 110 := by
          intro n
          induction n with
          | zero => exact .inl rfl
          | succ n ih =>
            unfold Pk.fe
            split
            · exact ih
            · unfold Bk.errY
              split
              · exact .inr (.inr rfl)
              · split
                · exact .inr (.inl rfl)
                · exact .inl rfl
        have := this ys.length
        omega
      · split at h5 <;> cases h5
theorem ref_wrong (hy : ys.length <= 1000000) (ho : os.length <= 1000000) (fr to n a b : Int) : (zbh ys os f l fr to n a b).Out (Bk.WrE ys os f l fr to n a b) := by
  unfold zbh
  refine M.o_bind (ref_clash hy ho) ?_
  rintro ⟨u, v⟩ hc
  have hin : ((decide (fr < f) || decide (l < to)) || decide (to < fr)) = false ↔ Bk.In f l fr to := by
    unfold Bk.In
    simp only [Bool.or_eq_false_iff, decide_eq_false_iff_not]
    omega
  rcases hc with ⟨h0, e⟩ | ⟨h0, h1, e⟩ | ⟨h0, h1, e⟩
  · rw [Prod.mk.injEq] at e
    obtain ⟨rfl, rfl⟩ := e
    exact M.o_t (by rw [bne_iff_ne.2 h0, bne_iff_ne.2 chk_ne5]; rfl) (M.o_pure (.inl ⟨h0, rfl⟩))
  · rw [Prod.mk.injEq] at e
    obtain ⟨rfl, rfl⟩ := e
    refine M.o_f rfl (M.o_if (fun hb => ?_) (fun hb => ?_))
    · exact M.o_pure (.inr (.inl ⟨h0, fun hI => (by rw [hin.2 hI] at hb; cases hb), rfl⟩))
    · have hI := hin.1 hb
      refine M.o_bindE (out_ends _ _ _) (M.o_if (fun hb => ?_) (fun hb => ?_))
      · rw [Bool.not_eq_true', Bool.and_eq_false_iff, decide_eq_false_iff_not, decide_eq_false_iff_not] at hb
        exact M.o_pure (.inr (.inr (.inl ⟨h0, hI, by omega, rfl⟩)))
      · rw [Bool.not_eq_false', Bool.and_eq_true, decide_eq_true_eq, decide_eq_true_eq] at hb
        exact M.o_f rfl (M.o_pure (.inr (.inr (.inr (.inr ⟨h0, hI, hb, h1, rfl⟩)))))
  · dsimp only at h1 e
    subst e
    refine M.o_f rfl (M.o_if (fun hb => ?_) (fun hb => ?_))
    · exact M.o_pure (.inr (.inl ⟨h0, fun hI => (by rw [hin.2 hI] at hb; cases hb), rfl⟩))
    · have hI := hin.1 hb
      refine M.o_bindE (out_ends _ _ _) (M.o_if (fun hb => ?_) (fun hb => ?_))
      · rw [Bool.not_eq_true', Bool.and_eq_false_iff, decide_eq_false_iff_not, decide_eq_false_iff_not] at hb
        exact M.o_pure (.inr (.inr (.inl ⟨h0, hI, by omega, rfl⟩)))
      · rw [Bool.not_eq_false', Bool.and_eq_true, decide_eq_true_eq, decide_eq_true_eq] at hb
        exact M.o_t rfl (M.o_pure (.inr (.inr (.inr (.inl ⟨h0, hI, hb, fun hF => h1.bad hF, rfl⟩)))))
theorem cnt_succ (p : Span -> Bool) (a : Int) (n : Nat) : ((Bk.kl ys os a (n + 1)).countP p : Int) = ((Bk.kl ys os a n).countP p : Int) + (if p (Bk.kn ys os (a + (n : Int))) = true then 1 else 0) := by
  rw [Bk.kl_succ, List.countP_append]
  simp only [List.countP_cons, List.countP_nil]
  split <;> simp
theorem cnt_le (p : Span -> Bool) (a : Int) (n : Nat) : (Bk.kl ys os a n).countP p <= n := by
  have := List.countP_le_length (p := p) (l := Bk.kl ys os a n)
  rwa [Bk.kl_len] at this
theorem of_passed (hy : ys.length <= 1000000) (ho : os.length <= 1000000) (fr to st : Int) : (zah ys os f l fr to st).Out (Bk.PaE ys os f l fr to st) := by
  unfold zah
  refine M.o_bind (between_out hy ho fr to st 0 2000) ?_
  rintro (e | ⟨f', l', m, z⟩) h
  · exact M.o_t (bne_iff_ne.2 h.1) (M.o_pure (.inl ⟨h.1, h.2, rfl, rfl⟩))
  · obtain ⟨rfl, rfl, rfl, hw, hm⟩ := h
    obtain ⟨h0, ⟨i1, i2, i3⟩, hn, hF⟩ := hw.ok
    have h := Bk.chk_ok h0
    have hf0 := h.f0
    have hl3 := h.l3
    have hln := h.ln
    unfold zad
    refine M.o_f rfl (M.o_bindE M.i_pure (M.o_bind (P := fun x => match x with | .inl s => s = (Bk.many (Bk.lop st) ys os fr to, Bk.many (Bk.hip st) ys os fr to) | .inr (_ : Unit) => False) ?_ ?_))
    · refine years_out (s0 := ((0 : Int), (0 : Int))) hl3 (by omega) (by omega) i3 i1 hm (fun y s => ∃ n : Nat, y = fr + n /\ s = (((Bk.kl ys os fr n).countP (Bk.lop st) : Int), ((Bk.kl ys os fr n).countP (Bk.hip st) : Int))) ⟨0, by omega, rfl⟩ ?_ ?_ _ _ _ _
      · rintro y ⟨s, s2⟩ h1 h2 ⟨n, rfl, e⟩
        obtain ⟨rfl, rfl⟩ := Prod.mk.inj e
        have c1 := cnt_le (ys := ys) (os := os) (Bk.lop st) fr n
        have c2 := cnt_le (ys := ys) (os := os) (Bk.hip st) fr n
        have d1 := cnt_succ (ys := ys) (os := os) (Bk.lop st) fr n
        have d2 := cnt_succ (ys := ys) (os := os) (Bk.hip st) fr n
        simp only [zan]
        refine M.o_bindE M.i_pure (M.o_bindE M.i_pure (M.o_bindE M.i_pure (M.o_if (fun hb => ?_) (fun hb => ?_))))
        · have hb' : Bk.lop st (Bk.kn ys os (fr + (n : Int))) = true := hb
          rw [if_pos hb'] at d1
          refine M.o_grd (gA2 (by omega) (by omega)) (M.o_bindE M.i_pure (M.o_bindE M.i_pure (M.o_bindE M.i_pure (M.o_if (fun hc => ?_) (fun hc => ?_)))))
          · have hc' : Bk.hip st (Bk.kn ys os (fr + (n : Int))) = true := hc
            rw [if_pos hc'] at d2
            exact M.o_grd (gA2 (by omega) (by omega)) (M.o_pure ⟨n + 1, by omega, by rw [d1, d2]⟩)
          · have hc' : Bk.hip st (Bk.kn ys os (fr + (n : Int))) = false := hc
            rw [if_neg (by rw [hc']; simp)] at d2
            exact M.o_pure ⟨n + 1, by omega, by rw [d1, d2, Int.add_zero]⟩
        · have hb' : Bk.lop st (Bk.kn ys os (fr + (n : Int))) = false := hb
          rw [if_neg (by rw [hb']; simp)] at d1
          refine M.o_bindE M.i_pure (M.o_bindE M.i_pure (M.o_bindE M.i_pure (M.o_if (fun hc => ?_) (fun hc => ?_))))
          · have hc' : Bk.hip st (Bk.kn ys os (fr + (n : Int))) = true := hc
            rw [if_pos hc'] at d2
            exact M.o_grd (gA2 (by omega) (by omega)) (M.o_pure ⟨n + 1, by omega, by rw [d1, d2, Int.add_zero]⟩)
          · have hc' : Bk.hip st (Bk.kn ys os (fr + (n : Int))) = false := hc
            rw [if_neg (by rw [hc']; simp)] at d2
            exact M.o_pure ⟨n + 1, by omega, by rw [d1, d2, Int.add_zero, Int.add_zero]⟩
      · rintro s ⟨n, e, rfl⟩
        unfold Bk.many
        rw [show Int.toNat (to + 1 - fr) = n by omega]
    · intro x hx
      cases x with
      | inl s => subst hx; exact M.o_pure (.inr ⟨rfl, hw, rfl, rfl⟩)
      | inr u => exact hx.elim
theorem ref_passed (hy : ys.length <= 1000000) (ho : os.length <= 1000000) (fr to st : Int) : (za2 ys os f l fr to st).Out (Bk.PaE ys os f l fr to st) := by
  unfold za2
  refine M.o_bind (ref_wrong hy ho fr to st 0 2000) ?_
  intro e hw
  refine M.o_if (fun hb => ?_) (fun hb => ?_)
  · exact M.o_pure (.inl ⟨bne_iff_ne.1 hb, hw, rfl, rfl⟩)
  · obtain rfl : e = 0 := by simpa using hb
    obtain ⟨h0, ⟨i1, i2, i3⟩, hn, hF⟩ := hw.ok
    have h := Bk.chk_ok h0
    have hf0 := h.f0
    have hl3 := h.l3
    have hln := h.ln
    refine M.o_bind (P := fun s => s = (Bk.many (Bk.lop st) ys os fr to, Bk.many (Bk.hip st) ys os fr to)) ?_ (fun s e => by subst e; exact M.o_pure (.inr ⟨rfl, hw, rfl, rfl⟩))
    refine M.o_for (Int.toNat (to + 1 - fr)) (fun i (s : Int × Int × Int) => s = (((Bk.kl ys os fr i).countP (Bk.lop st) : Int), ((Bk.kl ys os fr i).countP (Bk.hip st) : Int), fr + i)) ?_ ?_ (by simp [Bk.kl])
    · rintro n ⟨s, s2, y⟩ hi e
      simp only [Prod.mk.injEq] at e
      obtain ⟨rfl, rfl, rfl⟩ := e
      have c1 := cnt_le (ys := ys) (os := os) (Bk.lop st) fr n
      have c2 := cnt_le (ys := ys) (os := os) (Bk.hip st) fr n
      have d1 := cnt_succ (ys := ys) (os := os) (Bk.lop st) fr n
      have d2 := cnt_succ (ys := ys) (os := os) (Bk.hip st) fr n
      have hff := hF (fr + n) (by omega) (by omega)
      simp only [zbs]
      refine M.o_t (decide_eq_true (by omega)) (M.o_bindE (span_ends h.y h.o _) ?_)
      unfold Bk.sp
      rw [if_pos hff]
      have hs : (fr + ((n + 1 : Nat) : Int)) = fr + n + 1 := by omega
      refine M.o_if (fun hb => ?_) (fun hb => ?_)
      · have hb' : Bk.lop st (Bk.kn ys os (fr + (n : Int))) = true := hb
        rw [if_pos hb'] at d1
        refine M.o_grd (gA2 (by omega) (by omega)) (M.o_if (fun hc => ?_) (fun hc => ?_))
        · have hc' : Bk.hip st (Bk.kn ys os (fr + (n : Int))) = true := hc
          rw [if_pos hc'] at d2
          exact M.o_grd (gA2 (by omega) (by omega)) (M.o_grd (gA2 (by omega) (by omega)) (M.o_pure (by dsimp only; rw [d1, d2, hs])))
        · have hc' : Bk.hip st (Bk.kn ys os (fr + (n : Int))) = false := hc
          rw [if_neg (by rw [hc']; simp)] at d2
          exact M.o_grd (gA2 (by omega) (by omega)) (M.o_pure (by dsimp only; rw [d1, d2, hs, Int.add_zero]))
      · have hb' : Bk.lop st (Bk.kn ys os (fr + (n : Int))) = false := hb
        rw [if_neg (by rw [hb']; simp)] at d1
        refine M.o_if (fun hc => ?_) (fun hc => ?_)
        · have hc' : Bk.hip st (Bk.kn ys os (fr + (n : Int))) = true := hc
          rw [if_pos hc'] at d2
          exact M.o_grd (gA2 (by omega) (by omega)) (M.o_grd (gA2 (by omega) (by omega)) (M.o_pure (by dsimp only; rw [d1, d2, hs, Int.add_zero])))
        · have hc' : Bk.hip st (Bk.kn ys os (fr + (n : Int))) = false := hc
          rw [if_neg (by rw [hc']; simp)] at d2
          exact M.o_grd (gA2 (by omega) (by omega)) (M.o_pure (by dsimp only; rw [d1, d2, hs, Int.add_zero, Int.add_zero]))
    · rintro ⟨s, s2, y⟩ e
      simp only [Prod.mk.injEq] at e
      obtain ⟨rfl, rfl, rfl⟩ := e
      simp only [zbs]
      exact M.o_f (decide_eq_false (by omega)) (M.o_pure rfl)
end Go.Proofs.Ytcgalcbkkijkhaa
namespace Go.Proofs.Ytcgalcbkkijkhaa
open Go Go.Nm
variable {ys : List Yr} {os : List Old10} {f l : Int}
theorem told_list {m : List (Int × Span)} {c d fr to : Int} {bd : List Int -> Int × Span -> M (List Int ⊕ Unit)} (g : Span -> Int) (hb : ∀ q x s, q.length <= 100000 -> (bd q (x, s)).Ends (.inl (q ++ [g s]))) (hd : d <= 3000) (ha : 0 <= fr) (hab : fr <= to + 1) (hto : to <= d) (hc : c <= fr) (hm : Knows ys os c d m) (yw : List Yr) (ow : List Old10) (cw dw : Int) :
    (zag (M.yl bd) (.inl []) fr to yw ow cw dw m).Ends (.inl ((Bk.kl ys os fr (Int.toNat (to + 1 - fr))).map g)) := by
  refine M.Out.ends ?_
  refine years_out (s0 := ([] : List Int)) hd ha hab hto hc hm (fun y s => ∃ n : Nat, y = fr + n /\ s = (Bk.kl ys os fr n).map g) ⟨0, by omega, rfl⟩ ?_ ?_ _ _ _ _
  · rintro y s h1 h2 ⟨n, rfl, rfl⟩
    refine M.o_of (hb _ _ _ (by rw [List.length_map, Bk.kl_len]; omega)) ⟨n + 1, by omega, ?_⟩
    rw [Bk.kl_succ, List.map_append]
    rfl
  · rintro s ⟨n, e, rfl⟩
    rw [show Int.toNat (to + 1 - fr) = n by omega]
theorem of_told (hy : ys.length <= 1000000) (ho : os.length <= 1000000) (fr to st : Int) (most : Bool) : (zbj ys os f l fr to st most).Out (Bk.ToE ys os f l fr to st most) := by
  unfold zbj
  refine M.o_bind (between_out hy ho fr to st 0 2000) ?_
  rintro (e | ⟨f', l', m, z⟩) h
  · exact M.o_t (bne_iff_ne.2 h.1) (M.o_pure (.inl ⟨h.1, h.2, rfl⟩))
  · obtain ⟨rfl, rfl, rfl, hw, hm⟩ := h
    obtain ⟨h0, ⟨i1, i2, i3⟩, hn, hF⟩ := hw.ok
    have h := Bk.chk_ok h0
    have hf0 := h.f0
    have hl3 := h.l3
    have hln := h.ln
    unfold zad
    refine M.o_f rfl (M.o_bindE M.i_pure (M.o_if (fun hb => ?_) (fun hb => ?_)))
    · refine M.o_bindE M.i_pure (M.o_bindE M.i_pure (M.o_bindE (told_list Span.hi (fun q x s hq => ?_) hl3 (by omega) (by omega) (by omega) (by omega) hm _ _ _ _) (M.o_pure (.inr ⟨rfl, hw, ?_⟩))))
      · simp only [zal]
        exact M.i_bind M.i_pure (M.i_grd (decide_eq_true (by simp only [List.length_cons, List.length_nil]; omega)) M.i_pure)
      · refine List.map_congr_left fun s _ => ?_
        unfold Bk.ofs
        rw [if_pos hb]
    · refine M.o_bindE M.i_pure (M.o_bindE (told_list Span.lo (fun q x s hq => ?_) hl3 (by omega) (by omega) (by omega) (by omega) hm _ _ _ _) (M.o_pure (.inr ⟨rfl, hw, ?_⟩)))
      · simp only [zak]
        exact M.i_bind M.i_pure (M.i_grd (decide_eq_true (by simp only [List.length_cons, List.length_nil]; omega)) M.i_pure)
      · refine List.map_congr_left fun s _ => ?_
        unfold Bk.ofs
        rw [if_neg (by rw [hb]; simp)]
/-! ### Shares -/
theorem share_ends {n d : Nat} (hn : n <= 1000000) (hd : d <= 1000000) (h0 : 0 < d) : (zbe (n : Int) (d : Int)).Ends (((n / Nat.gcd n d : Nat) : Int), ((d / Nat.gcd n d : Nat) : Int)) := by
  refine M.Out.ends ?_
  unfold zbe
  have hg : 0 < Nat.gcd n d := Nat.gcd_pos_of_pos_right _ h0
  refine M.o_bind (P := fun a => a = ((Nat.gcd n d : Nat) : Int)) ?_ ?_
  · refine M.o_iter (fun k (s : Int × Int) => ∃ a b : Nat, s = ((a : Int), (b : Int)) /\ k = b /\ Nat.gcd a b = Nat.gcd n d) ?_ d _ ⟨n, d, rfl, rfl, rfl⟩
    rintro k ⟨x, y⟩ ⟨a, b, e, hk, e2⟩
    subst hk
    obtain ⟨rfl, rfl⟩ := Prod.mk.inj e
    simp only [zbx]
    refine M.o_if (fun hb => ?_) (fun hb => ?_)
    · have hb : k ≠ 0 := fun e => by subst e; simp at hb
      refine M.o_grd (gA2 (by omega) (by omega)) (M.o_pure ⟨a % k, Nat.mod_lt _ (by omega), k, a % k, ?_, rfl, ?_⟩)
      · rw [Prod.mk.injEq]
        exact ⟨rfl, (Int.natCast_emod a k).symm⟩
      · rw [← e2, Nat.gcd_comm a k, Nat.gcd_rec k a, Nat.gcd_comm]
    · have hb : k = 0 := by
        have : (k : Int) = 0 := by simpa using hb
        omega
      subst hb
      rw [Nat.gcd_zero_right] at e2
      exact M.o_pure (by rw [e2]; rfl)
  · rintro a rfl
    exact M.o_grd (gA3 (by omega) (by omega) (by omega)) (M.o_grd (gA3 (by omega) (by omega) (by omega)) (M.o_pure (by rw [Int.natCast_ediv, Int.natCast_ediv])))
theorem shared_ends {n : Nat} (hfl : f <= l) (hln : l - f < 1000) (hn : n <= 100000) : (zaQ ys os f l (⟨((n / Nat.gcd n (Int.toNat (l - f + 1)) : Nat) : Int), ((Int.toNat (l - f + 1) / Nat.gcd n (Int.toNat (l - f + 1)) : Nat) : Int)⟩ : Rto) (n : Int)).Ends true := by
  refine M.Out.ends ?_
  obtain ⟨d, hd⟩ : ∃ d : Nat, Int.toNat (l - f + 1) = d := ⟨_, rfl⟩
  have hd1 : l - f + 1 = (d : Int) := by omega
  have h0 : 0 < d := by omega
  have hd2 : d <= 1000 := by omega
  rw [hd]
  have hg : 0 < Nat.gcd n d := Nat.gcd_pos_of_pos_right _ h0
  have hN : n / Nat.gcd n d * Nat.gcd n d = n := Nat.div_mul_cancel (Nat.gcd_dvd_left n d)
  have hD : d / Nat.gcd n d * Nat.gcd n d = d := Nat.div_mul_cancel (Nat.gcd_dvd_right n d)
  have hco : Nat.Coprime (n / Nat.gcd n d) (d / Nat.gcd n d) := Nat.coprime_div_gcd_div_gcd hg
  generalize hgg : Nat.gcd n d = g at *
  generalize n / g = N at *
  generalize d / g = D at *
  have hD0 : 0 < D := by
    rcases Nat.eq_zero_or_pos D with e | e
    · subst e; omega
    · exact e
  have hNn : N <= n := by rw [← hN]; exact Nat.le_mul_of_pos_right _ hg
  have hDd : D <= d := by
    have := Nat.le_mul_of_pos_right D hg
    omega
  have e1 : N * d = n * D := by
    have : N * (D * g) = N * g * D := by rw [Nat.mul_comm D g, Nat.mul_assoc]
    rw [hN, hD] at this
    exact this
  have e2 : N * d <= 100000 * 1000 := Nat.mul_le_mul (by omega) hd2
  have e3 : n * D <= 100000 * 1000 := Nat.mul_le_mul hn (by omega)
  have c1 : (N : Int) * (d : Int) = ((N * d : Nat) : Int) := (Int.natCast_mul N d).symm
  have c2 : (n : Int) * (D : Int) = ((n * D : Nat) : Int) := (Int.natCast_mul n D).symm
  unfold zaQ
  rw [hd1]
  dsimp only
  rw [c1, c2, e1]
  refine M.o_grd (gA2 (by omega) (by omega)) (M.o_grd (gA2 (by omega) (by omega)) (M.o_grd (gI2 fun _ => by omega) (M.o_grd (gI2 fun _ => by omega) (M.o_f ?_ ?_))))
  · rw [decide_eq_false (by omega : ¬ ((D : Int) < 1))]
    simp
  refine M.o_bind (P := fun y => match y with | .inl (_ : Unit) => False | .inr (_ : Unit) => True) ?_ ?_
  · refine M.o_iter (fun m (k : Nat) => 2 <= k /\ m = D + 1 - k) ?_ (D + 1 - 2) _ ⟨Nat.le_refl _, rfl⟩
    rintro m k ⟨hk, rfl⟩
    simp only [zbG]
    refine M.o_if (fun hb => ?_) (fun hb => ?_)
    · have hb := of_decide_eq_true hb
      refine M.o_grd (gA2 (by omega) (by omega)) (M.o_grd (gI2 fun _ => ⟨by omega, by omega⟩) (M.o_if (fun hc => ?_) (fun hc => ?_)))
      · exfalso
        rw [Bool.and_eq_true, beq_iff_eq, beq_iff_eq] at hc
        have d1 : k ∣ N := by
          have := Int.dvd_of_emod_eq_zero hc.1
          exact Int.natCast_dvd_natCast.1 this
        have d2 : k ∣ D := by
          have := Int.dvd_of_emod_eq_zero hc.2
          exact Int.natCast_dvd_natCast.1 this
        have := Nat.dvd_gcd d1 d2
        rw [hco.gcd_eq_one, Nat.dvd_one] at this
        omega
      · exact M.o_grd (gA2 (by omega) (by omega)) (M.o_pure ⟨D + 1 - (k + 1), by omega, by omega, rfl⟩)
    · exact M.o_pure trivial
  · intro y hy
    cases y with
    | inl u => exact hy.elim
    | inr u => exact M.o_pure rfl
/-! ### The highest stage that is passed so often -/
theorem wr64_id {a : Int} (h : -9223372036854775808 <= a /\ a <= 9223372036854775807) : wr64 a = a := wrap64 h
theorem reach_one (g : Span -> Int) (hg : ∀ s : Span, (0 <= s.lo /\ s.lo <= 2000 /\ 0 <= s.hi /\ s.hi <= 2000) -> 0 <= g s /\ g s <= 2000) {fr to t : Int} (h : Bk.Ok ys os f l) (hI : Bk.In f l fr to) (ht : 1 <= t /\ t <= to - fr + 1) {L : List Int} (hL : L = (Bk.kl ys os fr (Int.toNat (to + 1 - fr))).map g) :
    (M.grd (decide (L.length <= 1000000)) <| M.grd (decide ((-9223372036854775808 : Int) <= (((isort L).length : Int) - t)) && decide ((((isort L).length : Int) - t) <= (9223372036854775807 : Int))) <|
      M.grd (decide ((0 : Int) <= (((isort L).length : Int) - t)) && decide ((((isort L).length : Int) - t) < ((isort L).length : Int))) <| M.pure ((isort L).getD (Int.toNat (((isort L).length : Int) - t)) 0)).Out (Bk.Top L t) := by
  obtain ⟨i1, i2, i3⟩ := hI
  have hl3 := h.l3
  have hf0 := h.f0
  have hlen : L.length = Int.toNat (to + 1 - fr) := by rw [hL, List.length_map, Bk.kl_len]
  have hsl : (isort L).length = L.length := (isort_perm L).length_eq
  have hall : ∀ x ∈ L, 0 <= x /\ x <= 2000 := by
    intro x hx
    rw [hL] at hx
    obtain ⟨s, hs, rfl⟩ := List.mem_map.1 hx
    obtain ⟨i, hi, rfl⟩ := Bk.kl_mem hs
    exact hg _ (Bk.kn_in h.y h.o _)
  have k := Bk.top_sort hall (t := Int.toNat t) (by omega) (by omega)
  rw [hsl]
  refine M.o_grdD (by omega) (M.o_grd (gA2 (by omega) (by omega)) (M.o_grd (gA2 (by omega) (by omega)) (M.o_pure ?_)))
  rw [show Int.toNat ((L.length : Int) - t) = L.length - Int.toNat t by omega]
  rwa [show ((Int.toNat t : Nat) : Int) = t by omega] at k
theorem of_reaches (hy : ys.length <= 1000000) (ho : os.length <= 1000000) (fr to t : Int) : (zaq ys os f l fr to t).Out (Bk.ReE ys os f l fr to t) := by
  unfold zaq
  have hlast : Bk.chkB ys os f l = 0 -> Bk.In f l fr to -> wr64 (wr64 (to - fr) + 1) = to - fr + 1 := by
    rintro h0 ⟨i1, i2, i3⟩
    have h := Bk.chk_ok h0
    have hf0 := h.f0
    have hl3 := h.l3
    rw [wr64_id (a := to - fr) (by omega), wr64_id (by omega)]
  refine M.o_bind (between_out hy ho fr to t 1 (wr64 (wr64 (to - fr) + 1))) ?_
  rintro (e | ⟨f', l', m, z⟩) h
  · exact M.o_t (bne_iff_ne.2 h.1) (M.o_pure (.inl ⟨h.1, h.2.last hlast, rfl, rfl⟩))
  · obtain ⟨rfl, rfl, rfl, hw, hm⟩ := h
    have hw := hw.last hlast
    obtain ⟨h0, hI, hn, hF⟩ := hw.ok
    have h := Bk.chk_ok h0
    have hf0 := h.f0
    have hl3 := h.l3
    have hln := h.ln
    obtain ⟨i1, i2, i3⟩ := id hI
    have r1 : (za6 ys os f' l' m fr to t).Out (Bk.Top ((Bk.kl ys os fr (Int.toNat (to + 1 - fr))).map Span.lo) t) := by
      unfold za6 zad
      refine M.o_bindE M.i_pure (M.o_bindE (told_list Span.lo (fun q x s hq => ?_) hl3 (by omega) (by omega) (by omega) (by omega) hm _ _ _ _) (reach_one Span.lo (fun s hs => by omega) h hI hn rfl))
      simp only [zai]
      exact M.i_bind M.i_pure (M.i_grd (decide_eq_true (by simp only [List.length_cons, List.length_nil]; omega)) M.i_pure)
    have r2 : (zbk ys os f' l' m fr to t).Out (Bk.Top ((Bk.kl ys os fr (Int.toNat (to + 1 - fr))).map Span.hi) t) := by
      unfold zbk zad
      refine M.o_bindE M.i_pure (M.o_bindE (told_list Span.hi (fun q x s hq => ?_) hl3 (by omega) (by omega) (by omega) (by omega) hm _ _ _ _) (reach_one Span.hi (fun s hs => by omega) h hI hn rfl))
      simp only [zam]
      exact M.i_bind M.i_pure (M.i_grd (decide_eq_true (by simp only [List.length_cons, List.length_nil]; omega)) M.i_pure)
    refine M.o_f rfl (M.o_bindE M.i_pure (M.o_bind r1 fun a ha => M.o_bindE M.i_pure (M.o_bind r2 fun b hb => M.o_pure (.inr ⟨rfl, hw, ha, hb⟩))))
theorem ref_counts (L : List Span) (hL : L.length <= 100000) (st : Nat) : (M.iter (zaB L st) (0, 0, 0)).Ends (((L.map Span.lo).countP (fun x => decide ((st : Int) <= x)) : Nat), (((L.map Span.hi).countP (fun x => decide ((st : Int) <= x)) : Nat) : Int)) := by
  refine M.Out.ends ?_
  refine M.o_for L.length (fun i (s : Int × Nat × Nat) => s = (((((L.take i).map Span.lo).countP (fun x => decide ((st : Int) <= x)) : Nat) : Int), ((L.take i).map Span.hi).countP (fun x => decide ((st : Int) <= x)), i)) ?_ ?_ rfl
  · rintro i ⟨a', b, k⟩ hi e
    simp only [Prod.mk.injEq] at e
    obtain ⟨ea', eb, rfl⟩ := e
    obtain ⟨a, rfl⟩ : ∃ a : Nat, a' = a := ⟨_, ea'⟩
    have ea : a = ((L.take k).map Span.lo).countP (fun x => decide ((st : Int) <= x)) := by omega
    simp only [zaB]
    have e : L.getD k default = L[k] := by rw [List.getD_eq_getElem?_getD, List.getElem?_eq_getElem hi, Option.getD_some]
    have c1 := List.countP_le_length (p := fun x => decide ((st : Int) <= x)) (l := (L.take k).map Span.lo)
    have c2 := List.countP_le_length (p := fun x => decide ((st : Int) <= x)) (l := (L.take k).map Span.hi)
    rw [List.length_map, List.length_take, ← ea] at c1
    rw [List.length_map, List.length_take, ← eb] at c2
    have d1 : ((L.take (k + 1)).map Span.lo).countP (fun x => decide ((st : Int) <= x)) = a + (if (st : Int) <= L[k].lo then 1 else 0) := by
      rw [← List.take_append_getElem hi, List.map_append, List.countP_append, ea]
      simp [List.countP_cons]
    have d2 : ((L.take (k + 1)).map Span.hi).countP (fun x => decide ((st : Int) <= x)) = b + (if (st : Int) <= L[k].hi then 1 else 0) := by
      rw [← List.take_append_getElem hi, List.map_append, List.countP_append, eb]
      simp [List.countP_cons]
    have j6 : ∀ q : Int, q = (((L.take (k + 1)).map Span.lo).countP (fun x => decide ((st : Int) <= x)) : Nat) -> (zaD L st b k q).Out (fun x => match x with
        | .inl s' => s' = (((((L.take (k + 1)).map Span.lo).countP (fun x => decide ((st : Int) <= x)) : Nat) : Int), ((L.take (k + 1)).map Span.hi).countP (fun x => decide ((st : Int) <= x)), k + 1)
        | .inr r => r = ((((L.map Span.lo).countP (fun x => decide ((st : Int) <= x)) : Nat) : Int), (((L.map Span.hi).countP (fun x => decide ((st : Int) <= x)) : Nat) : Int))) := by
      rintro q rfl
      unfold zaD
      rw [e]
      refine M.o_if (fun hc => ?_) (fun hc => ?_)
      · rw [if_pos (of_decide_eq_true hc)] at d2
        exact M.o_grd (gA2 (by omega) (by omega)) (M.o_pure (by dsimp only; rw [d2]))
      · rw [if_neg (of_decide_eq_false hc)] at d2
        exact M.o_pure (by simp only [d2, Nat.add_zero])
    rw [e]
    refine M.o_t (decide_eq_true (by omega)) (M.o_grdD (by omega) (M.o_if (fun hb => ?_) (fun hb => ?_)))
    · rw [if_pos (of_decide_eq_true hb)] at d1
      exact M.o_grd (gA2 (by omega) (by omega)) (M.o_mono (j6 ((a : Int) + 1) (by omega)) fun x hx => by cases x <;> exact hx)
    · rw [if_neg (of_decide_eq_false hb)] at d1
      exact M.o_mono (j6 (a : Int) (by omega)) fun x hx => by cases x <;> exact hx
  · rintro ⟨a, b, k⟩ e
    simp only [Prod.mk.injEq] at e
    obtain ⟨ea, eb, rfl⟩ := e
    simp only [zaB]
    rw [List.take_length] at ea eb
    exact M.o_f (by simp) (M.o_pure (by rw [ea, eb]))
theorem top_some {L : List Int} {t : Int} (hL : ∀ x ∈ L, 0 <= x /\ x <= 2000) (h : 1 <= t /\ t <= L.length) : ∃ v, Bk.Top L t v := by
  have k := Bk.top_sort hL (t := Int.toNat t) (by omega) (by omega)
  rw [show ((Int.toNat t : Nat) : Int) = t by omega] at k
  exact ⟨_, k⟩
theorem ref_tops {L : List Span} {t u v : Int} (hl : L.length <= 100000) (hu : Bk.Top (L.map Span.lo) t u) (hv : Bk.Top (L.map Span.hi) t v) : (M.iter (zay t L) (0, 0, 0)).Ends (u, v) := by
  refine M.Out.ends ?_
  obtain ⟨u0, u1, u2, u3⟩ := id hu
  obtain ⟨v0, v1, v2, v3⟩ := id hv
  refine M.o_for 2001 (fun i (s : Nat × Int × Int) => s.1 = i /\ ((i = 0 /\ s.2.1 = 0) ∨ (0 < i /\ (i : Int) - 1 <= u /\ s.2.1 = (i : Int) - 1) ∨ (u < (i : Int) - 1 /\ s.2.1 = u)) /\ ((i = 0 /\ s.2.2 = 0) ∨ (0 < i /\ (i : Int) - 1 <= v /\ s.2.2 = (i : Int) - 1) ∨ (v < (i : Int) - 1 /\ s.2.2 = v))) ?_ ?_ ⟨rfl, .inl ⟨rfl, rfl⟩, .inl ⟨rfl, rfl⟩⟩
  · rintro i ⟨k, a, b⟩ hi ⟨e1, e2, e3⟩
    dsimp only at e1 e2 e3
    subst e1
    simp only [zay]
    have g1 : (t <= (((L.map Span.lo).countP (fun x => decide ((k : Int) <= x)) : Nat) : Int)) ↔ (k : Int) <= u := by
      constructor
      · intro h
        refine Int.not_lt.1 fun hn => ?_
        have := Bk.cnt_mono (L := L.map Span.lo) (v := u + 1) (w := k) (by omega)
        omega
      · intro h
        have := Bk.cnt_mono (L := L.map Span.lo) (v := k) (w := u) h
        omega
    have g2 : (t <= (((L.map Span.hi).countP (fun x => decide ((k : Int) <= x)) : Nat) : Int)) ↔ (k : Int) <= v := by
      constructor
      · intro h
        refine Int.not_lt.1 fun hn => ?_
        have := Bk.cnt_mono (L := L.map Span.hi) (v := v + 1) (w := k) (by omega)
        omega
      · intro h
        have := Bk.cnt_mono (L := L.map Span.hi) (v := k) (w := v) h
        omega
    refine M.o_t (decide_eq_true (by omega)) (M.o_bindE (ref_counts L hl k) ?_)
    unfold za5
    refine M.o_if (fun hb => ?_) (fun hb => ?_)
    · have hb := g1.1 (of_decide_eq_true hb)
      refine M.o_if (fun hc => ?_) (fun hc => ?_)
      · have hc := g2.1 (of_decide_eq_true hc)
        exact M.o_grd (gA2 (by omega) (by omega)) (M.o_pure ⟨rfl, .inr (.inl ⟨by omega, by omega, by dsimp only; omega⟩), .inr (.inl ⟨by omega, by omega, by dsimp only; omega⟩)⟩)
      · have hc : ¬ (k : Int) <= v := fun h => of_decide_eq_false hc (g2.2 h)
        exact M.o_grd (gA2 (by omega) (by omega)) (M.o_pure ⟨rfl, .inr (.inl ⟨by omega, by omega, by dsimp only; omega⟩), .inr (.inr ⟨by omega, by dsimp only; omega⟩)⟩)
    · have hb : ¬ (k : Int) <= u := fun h => of_decide_eq_false hb (g1.2 h)
      refine M.o_if (fun hc => ?_) (fun hc => ?_)
      · have hc := g2.1 (of_decide_eq_true hc)
        exact M.o_grd (gA2 (by omega) (by omega)) (M.o_pure ⟨rfl, .inr (.inr ⟨by omega, by dsimp only; omega⟩), .inr (.inl ⟨by omega, by omega, by dsimp only; omega⟩)⟩)
      · have hc : ¬ (k : Int) <= v := fun h => of_decide_eq_false hc (g2.2 h)
        exact M.o_grd (gA2 (by omega) (by omega)) (M.o_pure ⟨rfl, .inr (.inr ⟨by omega, by dsimp only; omega⟩), .inr (.inr ⟨by omega, by dsimp only; omega⟩)⟩)
  · rintro ⟨k, a, b⟩ ⟨e1, e2, e3⟩
    dsimp only at e1 e2 e3
    subst e1
    simp only [zay]
    refine M.o_f (by simp) (M.o_pure ?_)
    show (a, b) = (u, v)
    rw [Prod.mk.injEq]
    omega
theorem ref_spans (h : Bk.Ok ys os f l) (hF : Bk.Fine ys os f l) {fr to : Int} (hI : Bk.In f l fr to) : (M.iter (zaF ys os f l to) (fr, [])).Ends (Bk.kl ys os fr (Int.toNat (to + 1 - fr)), Bk.kl ys os fr (Int.toNat (to + 1 - fr))) := by
  obtain ⟨i1, i2, i3⟩ := hI
  have hl3 := h.l3
  have hf0 := h.f0
  refine M.Out.ends ?_
  refine M.o_for (Int.toNat (to + 1 - fr)) (fun i (s : Int × List Span) => s = (fr + (i : Int), Bk.kl ys os fr i)) ?_ ?_ (by simp [Bk.kl])
  · rintro n ⟨y, q⟩ hi e
    obtain ⟨rfl, rfl⟩ := Prod.mk.inj e
    simp only [zaF]
    refine M.o_t (decide_eq_true (by omega)) (M.o_bindE (span_ends h.y h.o _) ?_)
    unfold Bk.sp
    rw [if_pos (hF (fr + n) (by omega) (by omega))]
    refine M.o_grdD (by rw [Bk.kl_len]; simp only [List.length_cons, List.length_nil]; omega) (M.o_grd (gA2 (by omega) (by omega)) (M.o_pure ?_))
    dsimp only
    rw [Bk.kl_succ, show fr + ((n + 1 : Nat) : Int) = fr + n + 1 by omega]
  · rintro ⟨y, q⟩ e
    obtain ⟨rfl, rfl⟩ := Prod.mk.inj e
    simp only [zaF]
    exact M.o_f (decide_eq_false (by omega)) (M.o_pure rfl)
theorem ref_reaches (hy : ys.length <= 1000000) (ho : os.length <= 1000000) (fr to t : Int) : (zbg ys os f l fr to t).Out (Bk.ReE ys os f l fr to t) := by
  have j10 : ∀ q : Int, (Bk.chkB ys os f l = 0 -> Bk.In f l fr to -> q = to - fr + 1) -> (zaH ys os f l fr to t q).Out (Bk.ReE ys os f l fr to t) := by
    intro q hq
    unfold zaH
    refine M.o_bind (ref_wrong hy ho fr to t 1 q) ?_
    intro e hw
    have hw := hw.last hq
    refine M.o_if (fun hb => ?_) (fun hb => ?_)
    · exact M.o_pure (.inl ⟨bne_iff_ne.1 hb, hw, rfl, rfl⟩)
    · obtain rfl : e = 0 := by simpa using hb
      obtain ⟨h0, hI, hn, hF⟩ := hw.ok
      have h := Bk.chk_ok h0
      obtain ⟨i1, i2, i3⟩ := id hI
      have hl3 := h.l3
      have hf0 := h.f0
      have hlen := Bk.kl_len ys os fr (Int.toNat (to + 1 - fr))
      have hin : ∀ s ∈ Bk.kl ys os fr (Int.toNat (to + 1 - fr)), 0 <= s.lo /\ s.lo <= 2000 /\ 0 <= s.hi /\ s.hi <= 2000 := by
        intro s hs
        obtain ⟨i, hi, rfl⟩ := Bk.kl_mem hs
        exact Bk.kn_in h.y h.o _
      obtain ⟨u, hu⟩ := top_some (L := (Bk.kl ys os fr (Int.toNat (to + 1 - fr))).map Span.lo) (t := t) (fun x hx => by obtain ⟨s, hs, rfl⟩ := List.mem_map.1 hx; have := hin s hs; omega) (by rw [List.length_map, hlen]; omega)
      obtain ⟨v, hv⟩ := top_some (L := (Bk.kl ys os fr (Int.toNat (to + 1 - fr))).map Span.hi) (t := t) (fun x hx => by obtain ⟨s, hs, rfl⟩ := List.mem_map.1 hx; have := hin s hs; omega) (by rw [List.length_map, hlen]; omega)
      exact M.o_bindE (ref_spans h hF hI) (M.o_bindE (ref_tops (by rw [hlen]; omega) hu hv) (M.o_pure (.inr ⟨rfl, hw, hu, hv⟩)))
  unfold zbg
  refine M.o_if (fun hb => ?_) (fun hb => ?_)
  · rw [Bool.and_eq_true, Bool.and_eq_true, decide_eq_true_eq, decide_eq_true_eq, decide_eq_true_eq] at hb
    exact M.o_grd (gA2 (by omega) (by omega)) (M.o_grd (gA2 (by omega) (by omega)) (j10 _ fun _ _ => rfl))
  · refine j10 _ ?_
    rintro h0 ⟨i1, i2, i3⟩
    have h := Bk.chk_ok h0
    have hl3 := h.l3
    have hf0 := h.f0
    rw [decide_eq_true (by omega), decide_eq_true (by omega), decide_eq_true (by omega)] at hb
    cases hb
end Go.Proofs.Ytcgalcbkkijkhaa
