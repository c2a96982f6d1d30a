/- Part 2 of the texts on which the proof rests. Conditions: none. -/
import Derived.Test.YtbaehghammbjdaaGreatProg
import Derived.Laws.StructEq
import Derived.Laws.Tables
import Derived.KernelRfl
import Derived.WideKeyRuns
import Derived.Below
import Derived.Maps.RangeRun
import Derived.Shelf.SlIterI.Nil
import Derived.Shelf.SortM.Plain
import Derived.Shelf.SortM.SortNone
import Derived.Test.YtbaehghammbjdaaGreatZE1
set_option linter.unusedVariables false
set_option linter.unusedSimpArgs false
set_option linter.unusedSectionVars false
namespace Go.Nm
theorem M.Out.ends {α : Type} {m : M α} {a : α} (h : m.Out (fun r => r = a)) : m.Ends a := by
  obtain ⟨r, h1, rfl⟩ := h
  exact h1
theorem gI2 {c : Bool} {p q : Prop} [Decidable p] [Decidable q] (h : c = true -> p /\ q) : (!c || (decide p && decide q)) = true := by
  cases c with
  | true => exact gA2 (h rfl).1 (h rfl).2
  | false => rfl
namespace Wn
def pth (dn : List Int) : Nat -> Int -> List Int
  | 0, _ => []
  | n + 1, s => if s = -1 then [] else s :: pth dn n (dn.getD (Int.toNat s) 0)
/-- The path of a station. -/
def P (dn : List Int) (s : Int) : List Int := pth dn dn.length s
/-- Each station leads on to one that is further down, or to none. -/
def Dn (dn : List Int) : Prop := ∀ i, i < dn.length -> dn.getD i 0 = -1 ∨ ((i : Int) + 1 <= dn.getD i 0 /\ dn.getD i 0 < dn.length)
def Stn (dn : List Int) (s : Int) : Prop := s = -1 ∨ (0 <= s /\ s < dn.length)
variable {dn : List Int}
theorem Dn.next (h : Dn dn) {s : Int} (h0 : 0 <= s) (h1 : s < dn.length) : dn.getD (Int.toNat s) 0 = -1 ∨ (s + 1 <= dn.getD (Int.toNat s) 0 /\ dn.getD (Int.toNat s) 0 < dn.length) := by
  have := h (Int.toNat s) (by omega)
  omega
theorem pth_none (n : Nat) : pth dn n (-1) = [] := by
  cases n with
  | zero => rfl
  | succ n => unfold pth; rw [if_pos rfl]
theorem pth_fuel (h : Dn dn) : ∀ (n m : Nat) (s : Int), Stn dn s -> (s = -1 ∨ (dn.length : Int) <= s + n) -> (s = -1 ∨ (dn.length : Int) <= s + m) -> pth dn n s = pth dn m s := by
  intro n
  induction n with
  | zero =>
    intro m s hs hn _
    have : s = -1 := by
      rcases hs with hs | hs
      · exact hs
      · rcases hn with hn | hn
        · exact hn
        · omega
    subst this
    rw [pth_none, pth_none]
  | succ n ih =>
    intro m s hs hn hm
    by_cases e : s = -1
    · subst e
      rw [pth_none, pth_none]
    · cases m with
      | zero =>
        rcases hs with hs | hs
        · exact absurd hs e
        · rcases hm with hm | hm
          · exact absurd hm e
          · omega
      | succ m =>
        rcases hs with hs | hs
        · exact absurd hs e
        · rcases hn with hn | hn
          · exact absurd hn e
          rcases hm with hm | hm
          · exact absurd hm e
          have hx := h.next hs.1 hs.2
          unfold pth
          rw [if_neg e, if_neg e, ih m _ (by unfold Stn; omega) (by omega) (by omega)]
theorem P_none : P dn (-1) = [] := pth_none _
theorem P_cons (h : Dn dn) {s : Int} (h0 : 0 <= s) (h1 : s < dn.length) : P dn s = s :: P dn (dn.getD (Int.toNat s) 0) := by
  unfold P
  obtain ⟨k, hk⟩ : ∃ k, dn.length = k + 1 := ⟨dn.length - 1, by omega⟩
  have hx := h.next h0 h1
  conv => lhs; rw [hk]; unfold pth
  rw [if_neg (by omega), pth_fuel h k dn.length _ (by unfold Stn; omega) (by omega) (by omega)]
theorem Dn.next_st (h : Dn dn) {s : Int} (h0 : 0 <= s) (h1 : s < dn.length) : Stn dn (dn.getD (Int.toNat s) 0) := by
  have := h.next h0 h1
  unfold Stn
  omega
theorem Dn.ind (h : Dn dn) {p : Int -> Prop} (none : p (-1)) (step : ∀ s : Int, 0 <= s -> s < dn.length -> p (dn.getD (Int.toNat s) 0) -> p s) : ∀ s, Stn dn s -> p s := by
  have key : ∀ (n : Nat) (s : Int), Stn dn s -> (dn.length : Int) - s <= n -> p s := by
    intro n
    induction n with
    | zero =>
      intro s hs hn
      rcases hs with rfl | hs
      · exact none
      · omega
    | succ n ih =>
      intro s hs hn
      rcases hs with rfl | hs
      · exact none
      · refine step s hs.1 hs.2 ?_
        have hx := h.next hs.1 hs.2
        rcases hx with hx | hx
        · rw [hx]; exact none
        · exact ih _ (.inr (by omega)) (by omega)
  intro s hs
  exact key (Int.toNat ((dn.length : Int) - s)) s hs (by omega)
theorem P_mem (h : Dn dn) : ∀ s, Stn dn s -> ∀ x ∈ P dn s, s <= x /\ 0 <= x /\ x < dn.length := by
  refine h.ind (fun x hx => by rw [P_none] at hx; cases hx) fun s h0 h1 ih x hx => ?_
  rw [P_cons h h0 h1] at hx
  have hn := h.next h0 h1
  rcases List.mem_cons.1 hx with rfl | hx
  · omega
  · have := ih x hx
    rcases hn with hn | hn
    · rw [hn, P_none] at hx
      cases hx
    · omega
theorem P_len (h : Dn dn) : ∀ s, Stn dn s -> ((P dn s).length : Int) <= dn.length - s ∨ P dn s = [] := by
  refine h.ind (.inr P_none) fun s h0 h1 ih => ?_
  rw [P_cons h h0 h1, List.length_cons]
  have hn := h.next h0 h1
  left
  rcases ih with ih | ih
  · rcases hn with hn | hn
    · rw [hn, P_none]; simp; omega
    · omega
  · rw [ih]; simp; omega
theorem P_short (h : Dn dn) {s : Int} (hs : Stn dn s) : (P dn s).length <= dn.length := by
  rcases P_len h s hs with k | k
  · rcases hs with rfl | hs
    · rw [P_none]; exact Nat.zero_le _
    · omega
  · rw [k]; exact Nat.zero_le _
/-- What is left of a path is the path of its first station. -/
theorem P_drop (h : Dn dn) : ∀ s, Stn dn s -> ∀ (i : Nat) (hi : i < (P dn s).length), P dn (P dn s)[i] = (P dn s).drop i := by
  refine h.ind (fun i hi => by rw [P_none] at hi; cases hi) fun s h0 h1 ih i hi => ?_
  have e := P_cons h h0 h1
  cases i with
  | zero =>
    have : (P dn s)[0] = s := by simp [e]
    rw [this, List.drop_zero]
  | succ i =>
    have hi' : i < (P dn (dn.getD (Int.toNat s) 0)).length := by
      rw [e, List.length_cons] at hi
      omega
    have e1 : (P dn s)[i + 1] = (P dn (dn.getD (Int.toNat s) 0))[i] := by simp [e]
    rw [e1, ih i hi']
    conv => rhs; rw [e]
    rw [List.drop_succ_cons]
theorem P_up (h : Dn dn) : ∀ s, Stn dn s -> (P dn s).Pairwise (· < ·) := by
  refine h.ind (by rw [P_none]; exact List.Pairwise.nil) fun s h0 h1 ih => ?_
  rw [P_cons h h0 h1, List.pairwise_cons]
  refine ⟨fun x hx => ?_, ih⟩
  have hn := h.next h0 h1
  have := P_mem h _ (h.next_st h0 h1) x hx
  rcases hn with hn | hn
  · rw [hn, P_none] at hx; cases hx
  · omega
/-- The stations ahead of one. -/
def upto (p : List Int) (y : Int) : List Int := p.takeWhile fun x => !(x == y)
theorem upto_take {p : List Int} {y : Int} {k : Nat} (hk : p[k]? = some y) (hn : ∀ x ∈ p.take k, x ≠ y) : upto p y = p.take k := by
  induction p generalizing k with
  | nil => simp at hk
  | cons x p ih =>
    cases k with
    | zero =>
      simp only [List.getElem?_cons_zero, Option.some.injEq] at hk
      subst hk
      unfold upto
      simp
    | succ k =>
      simp only [List.getElem?_cons_succ] at hk
      have hx : x ≠ y := hn x (by simp)
      have := ih hk (fun z hz => hn z (by simp [hz]))
      unfold upto at this ⊢
      rw [List.takeWhile_cons, if_pos (by simp [hx]), this, List.take_succ_cons]
theorem P_split (h : Dn dn) {x y : Int} (hx : Stn dn x) (hy : y ∈ P dn x) : P dn x = upto (P dn x) y ++ P dn y := by
  obtain ⟨k, hk, e⟩ := List.getElem_of_mem hy
  have hu := P_up h x hx
  have h1 : upto (P dn x) y = (P dn x).take k := by
    refine upto_take (by rw [List.getElem?_eq_getElem hk, e]) fun z hz => ?_
    obtain ⟨j, hj, rfl⟩ := List.getElem_of_mem hz
    rw [List.length_take] at hj
    rw [List.getElem_take]
    have := List.pairwise_iff_getElem.1 hu j k (by omega) hk (by omega)
    omega
  have h2 := P_drop h x hx k hk
  rw [e] at h2
  rw [h1, h2, List.take_append_drop]
theorem upto_mem {p : List Int} {y z : Int} (h : z ∈ upto p y) : z ∈ p /\ z ≠ y := by
  unfold upto at h
  exact ⟨(List.takeWhile_sublist _).subset h, by
    have := List.all_takeWhile (p := fun x => !(x == y)) (l := p)
    have := List.all_eq_true.1 this z h
    simpa using this⟩
theorem upto_trans (h : Dn dn) {x y z : Int} (hx : Stn dn x) (hy : y ∈ P dn x) (hz : z ∈ P dn y) : z ∈ P dn x /\ upto (P dn x) z = upto (P dn x) y ++ upto (P dn y) z := by
  have e := P_split h hx hy
  have hys : Stn dn y := .inr (P_mem h x hx y hy).2
  have hA : ∀ w ∈ upto (P dn x) y, w ≠ z := by
    intro w hw
    have hu := P_up h x hx
    rw [e, List.pairwise_append] at hu
    have := hu.2.2 w hw z hz
    omega
  refine ⟨by rw [e]; exact List.mem_append_right _ hz, ?_⟩
  conv => lhs; rw [e]
  unfold upto at hA ⊢
  rw [List.takeWhile_append_of_pos fun w hw => by simp [hA w hw]]
theorem P_self (h : Dn dn) {x : Int} (h0 : 0 <= x) (h1 : x < dn.length) : x ∈ P dn x := by rw [P_cons h h0 h1]; simp
/-- Hours on a list of stations. -/
def sm (f : Int -> Int) (p : List Int) : Int := (p.map f).sum
def lo (tr : List Span) (s : Int) : Int := (tr.getD (Int.toNat s) default).lo
def hi (tr : List Span) (s : Int) : Int := (tr.getD (Int.toNat s) default).hi
theorem sm_app (f : Int -> Int) (p q : List Int) : sm f (p ++ q) = sm f p + sm f q := by unfold sm; rw [List.map_append, List.sum_append]
theorem sm_bound (f : Int -> Int) : ∀ (p : List Int), (∀ x ∈ p, 0 <= f x /\ f x <= 1000) -> 0 <= sm f p /\ sm f p <= 1000 * p.length
  | [], _ => by simp [sm]
  | x :: p, h => by
    have ih := sm_bound f p (fun y hy => h y (by simp [hy]))
    have := h x (by simp)
    unfold sm at ih ⊢
    rw [List.map_cons, List.sum_cons, List.length_cons]
    omega
end Wn
end Go.Nm
namespace Go.Nm
open Go
section
variable {P : Program} {w : World} {σ : Env} {d : Nat} {ty : TypeId} {pos : String} {af : Array Edge} {g : Option (Nat × Bool)}
theorem x_eqS {t yt : TypeId} {x y : Operand} {xs ys : Array Value} {r : Bool} (he : (Op.equalIn 10000 t (.agg xs) (.agg ys)).run P w = .ok r w) (hm : P.eqGuardType P.depth t = false) (hx : ev σ x = .agg xs) (hy : ev σ y = .agg ys) :
    (execOp (ev σ) ⟨some d, .binOp .eql t x y yt, ty, pos, af, g⟩).run P w = .ok (.value (.bool (r))) w := by
  simp [execOp, hx, hy, run_eqGuard_agg _ _ _ _ _ _ _ hm, run_eql_struct, he]
theorem x_neS {t yt : TypeId} {x y : Operand} {xs ys : Array Value} {r : Bool} (he : (Op.equalIn 10000 t (.agg xs) (.agg ys)).run P w = .ok r w) (hm : P.eqGuardType P.depth t = false) (hx : ev σ x = .agg xs) (hy : ev σ y = .agg ys) :
    (execOp (ev σ) ⟨some d, .binOp .neq t x y yt, ty, pos, af, g⟩).run P w = .ok (.value (.bool (!r))) w := by
  simp [execOp, hx, hy, run_eqGuard_agg _ _ _ _ _ _ _ hm, run_neq_struct, he]
end
end Go.Nm
namespace Go.Proofs.YtbaehghammbjdaaGreat
open Go Go.Nm Go.Proofs
theorem eqT26 (a b : Span) (w : World) : (Op.equalIn 10000 26 (.agg #[I a.lo, I a.hi]) (.agg #[I b.lo, I b.hi])).run Tryz.prog w = .ok (decide (a = b)) w := by
  have u3 := Tryz.underlying3
  have a3_ := Tryz.isAgg3
  have z3 := Tryz.sizeOf3
  have hS : Tryz.prog.underlying 26 = some (.struct (Tryz.prog.fieldsOf 26)) := by kernel_rfl
  have hp : Tryz.prog.stoodInHeld 26 = false := by kernel_rfl
  obtain ⟨p0, p1⟩ := a
  obtain ⟨q0, q1⟩ := b
  rw [show (10000 : Nat) = 9999 + 1 from rfl, run_equalIn_agg w 9999 26 _ _ hS hp]
  simp only [Program.fieldsOf, Tryz.underlying26]
  go_simp
  by_cases h0 : p0 = q0 <;> by_cases h1 : p1 = q1 <;> simp [h0, h1]
theorem gdT26 : Tryz.prog.eqGuardType Tryz.prog.depth 26 = false := by kernel_rfl
theorem eqT61 (a b : Dem) (w : World) : (Op.equalIn 10000 61 (.agg #[I a.spring, I a.town]) (.agg #[I b.spring, I b.town])).run Tryz.prog w = .ok (decide (a = b)) w := by
  have u3 := Tryz.underlying3
  have a3_ := Tryz.isAgg3
  have z3 := Tryz.sizeOf3
  have hS : Tryz.prog.underlying 61 = some (.struct (Tryz.prog.fieldsOf 61)) := by kernel_rfl
  have hp : Tryz.prog.stoodInHeld 61 = false := by kernel_rfl
  obtain ⟨p0, p1⟩ := a
  obtain ⟨q0, q1⟩ := b
  rw [show (10000 : Nat) = 9999 + 1 from rfl, run_equalIn_agg w 9999 61 _ _ hS hp]
  simp only [Program.fieldsOf, Tryz.underlying61]
  go_simp
  by_cases h0 : p0 = q0 <;> by_cases h1 : p1 = q1 <;> simp [h0, h1]
theorem gdT61 : Tryz.prog.eqGuardType Tryz.prog.depth 61 = false := by kernel_rfl
theorem eqT70 (a b : Dem) (w : World) : (Op.equalIn 10000 70 (.agg #[I a.spring, I a.town]) (.agg #[I b.spring, I b.town])).run Tryz.prog w = .ok (decide (a = b)) w := by
  have u3 := Tryz.underlying3
  have a3_ := Tryz.isAgg3
  have z3 := Tryz.sizeOf3
  have hS : Tryz.prog.underlying 70 = some (.struct (Tryz.prog.fieldsOf 70)) := by kernel_rfl
  have hp : Tryz.prog.stoodInHeld 70 = false := by kernel_rfl
  obtain ⟨p0, p1⟩ := a
  obtain ⟨q0, q1⟩ := b
  rw [show (10000 : Nat) = 9999 + 1 from rfl, run_equalIn_agg w 9999 70 _ _ hS hp]
  simp only [Program.fieldsOf, Tryz.underlying70]
  go_simp
  by_cases h0 : p0 = q0 <;> by_cases h1 : p1 = q1 <;> simp [h0, h1]
theorem gdT70 : Tryz.prog.eqGuardType Tryz.prog.depth 70 = false := by kernel_rfl
theorem eqT91 (a b : Town) (w : World) : (Op.equalIn 10000 91 (.agg #[I a.station, I a.lead, I a.alarm]) (.agg #[I b.station, I b.lead, I b.alarm])).run Tryz.prog w = .ok (decide (a = b)) w := by
  have u3 := Tryz.underlying3
  have a3_ := Tryz.isAgg3
  have z3 := Tryz.sizeOf3
  have hS : Tryz.prog.underlying 91 = some (.struct (Tryz.prog.fieldsOf 91)) := by kernel_rfl
  have hp : Tryz.prog.stoodInHeld 91 = false := by kernel_rfl
  obtain ⟨p0, p1, p2⟩ := a
  obtain ⟨q0, q1, q2⟩ := b
  rw [show (10000 : Nat) = 9999 + 1 from rfl, run_equalIn_agg w 9999 91 _ _ hS hp]
  simp only [Program.fieldsOf, Tryz.underlying91]
  go_simp
  by_cases h0 : p0 = q0 <;> by_cases h1 : p1 = q1 <;> by_cases h2 : p2 = q2 <;> simp [h0, h1, h2]
theorem gdT91 : Tryz.prog.eqGuardType Tryz.prog.depth 91 = false := by kernel_rfl
end Go.Proofs.YtbaehghammbjdaaGreat
namespace Go.Nm
open Go
def noGotoD (Q : PostD) : PostD
  | .goto _, _, _, _ => False
  | e, Ds, σ, w => Q e Ds σ w
theorem WD.scope {P : Program} {n : Nat} {Q : PostD} {σ : Env} {w : World} {Ds : List Nat} {c : Code} (h : WD P n Ds c (noGotoD Q) σ w) : WD P n Ds (.scope c) Q σ w := by
  intro a ha
  refine (wpIn_wide (n := 0)).2 (wp_scope_straight (wp_mono ((wpIn_wide (n := 0)).1 (h a ha)) ?_))
  rintro e a' w' ⟨d, s, hs, h'⟩
  cases e with
  | goto l => exact h'.elim
  | _ => exact ⟨d, s, hs, h'⟩
section
variable {P : Program} {w : World} {σ : Env} {d : Nat} {ty : TypeId} {pos : String} {af : Array Edge} {g : Option (Nat × Bool)}
/-! ### Values of any type, and what type they are of -/
theorem x_ushr1 {t yt : TypeId} {x y : Operand} {a : Int} (hx : ev σ x = .int .u64 a) (hy : ev σ y = .int .u64 1) :
    (execOp (ev σ) ⟨some d, .binOp .shr t x y yt, ty, pos, af, g⟩).run P w = .ok (.value (.int .u64 (a / 2))) w := by
  have e : a.fdiv 2 = a / 2 := Int.fdiv_eq_ediv_of_nonneg _ (by decide)
  simp only [execOp, hx, hy, eqGuard, binOp, Op.shift]
  simp
  exact e
end
end Go.Nm
namespace Go.Nm
open Go
/-! ### Numbers in order -/
def insI (x : Int) : List Int -> List Int
  | [] => [x]
  | y :: l => bif decide (x <= y) then x :: y :: l else y :: insI x l
def isort (l : List Int) : List Int := l.foldr insI []
theorem insI_perm (x : Int) : ∀ l : List Int, (insI x l).Perm (x :: l)
  | [] => .refl _
  | y :: l => by
    unfold insI
    cases decide (x <= y) with
    | true => exact .refl _
    | false => exact ((insI_perm x l).cons y).trans (.swap x y l)
theorem isort_perm : ∀ l : List Int, (isort l).Perm l
  | [] => .refl _
  | x :: l => (insI_perm x _).trans ((isort_perm l).cons x)
theorem insI_asc (x : Int) : ∀ l : List Int, l.Pairwise (· <= ·) -> (insI x l).Pairwise (· <= ·)
  | [], _ => by simp [insI]
  | y :: l, h => by
    rw [List.pairwise_cons] at h
    unfold insI
    cases hc : decide (x <= y) with
    | true =>
      have hc := of_decide_eq_true hc
      show (x :: y :: l).Pairwise _
      rw [List.pairwise_cons, List.pairwise_cons]
      refine ⟨fun z hz => ?_, h⟩
      rcases List.mem_cons.1 hz with rfl | hz
      · exact hc
      · exact Int.le_trans hc (h.1 z hz)
    | false =>
      have hc := of_decide_eq_false hc
      show (y :: insI x l).Pairwise _
      rw [List.pairwise_cons]
      refine ⟨fun z hz => ?_, insI_asc x l h.2⟩
      rcases List.mem_cons.1 ((insI_perm x l).mem_iff.1 hz) with rfl | hz
      · omega
      · exact h.1 z hz
theorem isort_asc : ∀ l : List Int, (isort l).Pairwise (· <= ·)
  | [] => .nil
  | x :: l => insI_asc x _ (isort_asc l)
theorem asc_uniq : ∀ {l m : List Int}, l.Pairwise (· <= ·) -> m.Pairwise (· <= ·) -> l.Perm m -> l = m
  | [], m, _, _, p => (List.nil_perm.1 p).symm
  | x :: l, [], _, _, p => by have := p.length_eq; simp at this
  | x :: l, y :: m, h, k, p => by
    rw [List.pairwise_cons] at h k
    have h1 : x <= y := by
      rcases List.mem_cons.1 (p.mem_iff.2 (List.mem_cons_self (a := y) (l := m))) with e | e
      · omega
      · exact h.1 y e
    have h2 : y <= x := by
      rcases List.mem_cons.1 (p.mem_iff.1 (List.mem_cons_self (a := x) (l := l))) with e | e
      · omega
      · exact k.1 x e
    obtain rfl : x = y := by omega
    rw [asc_uniq h.2 k.2 (List.perm_cons x |>.1 p)]
theorem merge_isort {ss ks : List Int} (p : ss.Perm ks) : ss.mergeSort (fun x y => decide (x <= y)) = isort ks := by
  refine asc_uniq ?_ (isort_asc ks) (((List.mergeSort_perm ss _).trans p).trans (isort_perm ks).symm)
  have := List.pairwise_mergeSort (le := fun x y : Int => decide (x <= y)) (fun a b c h1 h2 => by simp only [decide_eq_true_eq] at *; omega) (fun a b => by simp only [Bool.or_eq_true, decide_eq_true_eq]; omega) ss
  exact this.imp fun h => of_decide_eq_true h
/-! ### Maps, told entry by entry -/
def MapL {κ ν : Type} (kenc : κ -> Value) (venc : ν -> Value) (es : Array MapEntry) (clk : Nat) (m : List (κ × ν)) : Prop :=
  es.toList.map (fun e => (e.key, e.val)) = m.map (fun p => (kenc p.1, venc p.2)) /\ (es.toList.map (·.born)).Nodup /\ ∀ e ∈ es.toList, e.born < clk
section
variable {P : Program} {w w0 : World} {L L' R : List Chunk} {t kt et : TypeId} {b : Nat} {es : Array MapEntry} {clk : Nat} {ks : List Int}
variable {all rest : List Oper} {Q : Post} {σ : Env} {d : Nat} {ty : TypeId} {pos : String} {af : Array Edge} {g : Option (Nat × Bool)}
end
end Go.Nm
namespace Go.Nm
open Go
/-! ### What is reckoned entry by entry -/
namespace M
variable {κ ν : Type}
def mapL (body : κ -> ν -> M ν) : List (κ × ν) -> M (List (κ × ν))
  | [] => pure []
  | p :: m => bind (body p.1 p.2) fun v => bind (mapL body m) fun m' => pure ((p.1, v) :: m')
theorem mapL_at {body : κ -> ν -> M ν} : ∀ {m m' : List (κ × ν)}, (mapL body m).Ends m' -> m'.length = m.length /\ ∀ (i : Nat) (k : κ) (v : ν), m[i]? = some (k, v) -> ∃ v', (body k v).Ends v' /\ m'[i]? = some (k, v')
  | [], m', h => by
    obtain rfl := e_pure h
    exact ⟨rfl, fun i k v h => by simp at h⟩
  | p :: m, m', h => by
    obtain ⟨v1, h1, h⟩ := e_bind h
    obtain ⟨m1, h2, h⟩ := e_bind h
    obtain rfl := e_pure h
    obtain ⟨l, ih⟩ := mapL_at h2
    refine ⟨by simp [l], fun i k v hi => ?_⟩
    cases i with
    | zero =>
      simp only [List.getElem?_cons_zero, Option.some.injEq] at hi
      subst hi
      exact ⟨v1, h1, rfl⟩
    | succ i => exact ih i k v (by simpa using hi)
end M
/-! ### In memory -/
section
variable {κ ν : Type} [DecidableEq κ] {kenc : κ -> Value} {venc : ν -> Value}
def cMl (kenc : κ -> Value) (venc : ν -> Value) (b : Nat) (m : List (κ × ν)) : Chunk where
  D k := k = b
  ex := true
  ok w := ∃ es n, w.heap[b]? = some (.map es n) /\ MapL kenc venc es n m /\ (m.map Prod.fst).Nodup
  st w w' := fun ⟨es, n, h1, h2⟩ _ k => ⟨es, n, (k b rfl).trans h1, h2⟩
  bd w k := fun ⟨_, _, h, _⟩ e => by rw [e]; exact heap_lt h
variable {P : Program} {w w0 : World} {L L' R : List Chunk} {t kt et : TypeId} {b r : Nat} {es : Array MapEntry} {clk : Nat} {m : List (κ × ν)}
variable {all rest : List Oper} {Q : Post} {σ : Env} {d : Nat} {ty : TypeId} {pos : String} {af : Array Edge} {g : Option (Nat × Bool)}
omit [DecidableEq κ] in theorem t_mkMl {t' : TypeId} (kenc : κ -> Value) (venc : ν -> Value) (H : St w0 w L R) (k : ∀ b w', St w0 w' (cMl kenc venc b [] :: L) R -> SL P all Q rest (upd σ d (.map (some b))) w') : SL P all Q (⟨some d, .makeMap t' none, ty, pos, af, none⟩ :: rest) σ w :=
  s_mkmap fun b w' hn => k b w' (H.push (c := cMl kenc venc b []) hn.ext ⟨_, _, hn.same, ⟨rfl, List.nodup_nil, fun e h => by simp at h⟩, List.nodup_nil⟩ (fun j hj => by rw [show j = b from hj]; exact hn.ge))
end
/-- How far a loop over a map has come: what is left is as it was, what was met is as it will be. -/
def ItR {κ ν : Type} (m m' m1 : List (κ × ν)) (left : List Bool) : Prop := m1.length = m.length /\ m'.length = m.length /\ left.length = m.length /\ ∀ i, i < m.length -> m1[i]? = if left.getD i false then m[i]? else m'[i]?
namespace ItR
variable {κ ν : Type} {m m' m1 : List (κ × ν)} {left : List Bool} {body : κ -> ν -> M ν}
theorem fin (h : ItR m m' m1 left) (hl : ∀ j : Nat, left.getD j false = false) : m1 = m' := by
  apply List.ext_getElem?
  intro i
  by_cases hi : i < m.length
  · rw [h.2.2.2 i hi, hl i]; rfl
  · rw [List.getElem?_eq_none (by have := h.1; omega), List.getElem?_eq_none (by have := h.2.1; omega)]
theorem lt (h : ItR m m' m1 left) {j : Nat} (hj : left.getD j false = true) : j < m.length := by
  rw [← h.2.2.1]
  refine Nat.lt_of_not_le fun hn => ?_
  rw [List.getD_eq_getElem?_getD, List.getElem?_eq_none hn] at hj
  cases hj
theorem at_ (h : ItR m m' m1 left) (hb : (M.mapL body m).Ends m') {j : Nat} {k : κ} {v : ν} (hj : left.getD j false = true) (hm : m1[j]? = some (k, v)) : ∃ v', (body k v).Ends v' /\ m'[j]? = some (k, v') := by
  have := h.2.2.2 j (h.lt hj)
  rw [hj, hm] at this
  exact (M.mapL_at hb).2 j k v (by simpa using this.symm)
theorem step (h : ItR m m' m1 left) {j : Nat} {k : κ} {v v' : ν} (hj : left.getD j false = true) (hm : m1[j]? = some (k, v)) (hv : m'[j]? = some (k, v')) : ItR m m' (m1.set j (k, v')) (left.set j false) := by
  have hjl := h.lt hj
  have hl := h.2.2.1
  have h1 := h.1
  refine ⟨by rw [List.length_set]; exact h.1, h.2.1, by rw [List.length_set]; exact h.2.2.1, fun i hi => ?_⟩
  by_cases e : j = i
  · subst e
    rw [List.getElem?_set_self (by omega), List.getD_eq_getElem?_getD, List.getElem?_set_self (by omega), hv]
    rfl
  · rw [List.getElem?_set_ne e, List.getD_eq_getElem?_getD, List.getElem?_set_ne e, ← List.getD_eq_getElem?_getD]
    exact h.2.2.2 i hi
theorem keep (h : ItR m m' m1 left) {j : Nat} {k : κ} {v : ν} (hj : left.getD j false = true) (hm : m1[j]? = some (k, v)) (hv : m'[j]? = some (k, v)) : ItR m m' m1 (left.set j false) := by
  have := h.step hj hm hv
  rwa [show m1.set j (k, v) = m1 from by
    obtain ⟨hl, e⟩ := List.getElem?_eq_some_iff.1 hm
    rw [← e, List.set_getElem_self]] at this
theorem less {j : Nat} (hj : left.getD j false = true) : (left.set j false).count true < left.count true := by
  have hl : j < left.length := Nat.lt_of_not_le fun hn => by
    rw [List.getD_eq_getElem?_getD, List.getElem?_eq_none hn] at hj
    cases hj
  have hg : left[j] = true := by
    rw [List.getD_eq_getElem?_getD, List.getElem?_eq_getElem hl] at hj
    exact hj
  rw [List.count_set hl, hg]
  have : 0 < left.count true := List.count_pos_iff.2 (by rw [← hg]; exact List.getElem_mem hl)
  simp
  omega
end ItR
end Go.Nm
namespace Go.Proofs
open Go.RowKit Go.Maps Go.Sort Go.Shelf
def Tryz.sortA_ren : Go.Shelf.Ren := ⟨fun | 5 => 106 | 7 => 111 | 8 => 112 | 10 => 115 | 11 => 116 | 12 => 117 | 13 => 118 | 14 => 119 | 15 => 120 | 16 => 121 | 17 => 122 | 18 => 123 | 19 => 124 | 20 => 125 | 30 => 127 | 31 => 128 | 32 => 129 | 33 => 130 | 34 => 131 | 35 => 110 | 40 => 133 | n => n, fun | 0 => 0 | 3 => 3 | 4 => 4 | 5 => 5 | 9 => 9 | 22 => 22 | 23 => 22 | 25 => 3 | 32 => 155 | 35 => 159 | 36 => 160 | 41 => 164 | 44 => 167 | 46 => 169 | 53 => 170 | 57 => 174 | 63 => 176 | 64 => 177 | n => n, fun | n => n⟩
theorem Tryz.sortA : Go.Proofs.SlLaysM.n5 Tryz.prog Tryz.sortA_ren := {
  mixed := by kernel_rfl
  f5 := ⟨"slices.Sort[[]int,int]", by kernel_rfl, Tryz.func106.trans (congrArg some (by kernel_rfl))⟩
  f7 := ⟨"slices.pdqsortOrdered[int]", by kernel_rfl, Tryz.func111.trans (congrArg some (by kernel_rfl))⟩
  f8 := Tryz.func112.trans (congrArg some (by kernel_rfl))
  f10 := ⟨"slices.insertionSortOrdered[int]", by kernel_rfl, Tryz.func115.trans (congrArg some (by kernel_rfl))⟩
  f11 := ⟨"slices.heapSortOrdered[int]", by kernel_rfl, Tryz.func116.trans (congrArg some (by kernel_rfl))⟩
  f12 := ⟨"slices.breakPatternsOrdered[int]", by kernel_rfl, Tryz.func117.trans (congrArg some (by kernel_rfl))⟩
  f13 := ⟨"slices.choosePivotOrdered[int]", by kernel_rfl, Tryz.func118.trans (congrArg some (by kernel_rfl))⟩
  f14 := ⟨"slices.reverseRangeOrdered[int]", by kernel_rfl, Tryz.func119.trans (congrArg some (by kernel_rfl))⟩
  f15 := ⟨"slices.partialInsertionSortOrdered[int]", by kernel_rfl, Tryz.func120.trans (congrArg some (by kernel_rfl))⟩
  f16 := ⟨"cmp.Less[int]", by kernel_rfl, Tryz.func121.trans (congrArg some (by kernel_rfl))⟩
  f17 := ⟨"slices.partitionEqualOrdered[int]", by kernel_rfl, Tryz.func122.trans (congrArg some (by kernel_rfl))⟩
  f18 := ⟨"slices.partitionOrdered[int]", by kernel_rfl, Tryz.func123.trans (congrArg some (by kernel_rfl))⟩
  f19 := Tryz.func124.trans (congrArg some (by kernel_rfl))
  f20 := Tryz.func125.trans (congrArg some (by kernel_rfl))
  f30 := ⟨"slices.siftDownOrdered[int]", by kernel_rfl, Tryz.func127.trans (congrArg some (by kernel_rfl))⟩
  f31 := Tryz.func128.trans (congrArg some (by kernel_rfl))
  f32 := Tryz.func129.trans (congrArg some (by kernel_rfl))
  f33 := ⟨"slices.medianAdjacentOrdered[int]", by kernel_rfl, Tryz.func130.trans (congrArg some (by kernel_rfl))⟩
  f34 := ⟨"slices.medianOrdered[int]", by kernel_rfl, Tryz.func131.trans (congrArg some (by kernel_rfl))⟩
  f35 := ⟨"cmp.isNaN[int]", by kernel_rfl, Tryz.func110.trans (congrArg some (by kernel_rfl))⟩
  f40 := ⟨"slices.order2Ordered[int]", by kernel_rfl, Tryz.func133.trans (congrArg some (by kernel_rfl))⟩
  t0 := Tryz.underlying0
  a0 := Tryz.isAgg0
  z0 := Tryz.sizeOf0
  v0 := Tryz.zeroValue0
  t3 := Tryz.underlying3
  a3 := Tryz.isAgg3
  z3 := Tryz.sizeOf3
  v3 := Tryz.zeroValue3
  t4 := Tryz.underlying4
  a4 := Tryz.isAgg4
  z4 := Tryz.sizeOf4
  v4 := Tryz.zeroValue4
  t5 := Tryz.underlying5
  a5 := Tryz.isAgg5
  z5 := Tryz.sizeOf5
  v5 := Tryz.zeroValue5
  t9 := Tryz.underlying9
  a9 := Tryz.isAgg9
  z9 := Tryz.sizeOf9
  v9 := Tryz.zeroValue9
  t22 := Tryz.underlying22
  a22 := Tryz.isAgg22
  z22 := Tryz.sizeOf22
  v22 := Tryz.zeroValue22
  t23 := Tryz.underlying22
  a23 := Tryz.isAgg22
  z23 := Tryz.sizeOf22
  v23 := Tryz.zeroValue22
  t25 := Tryz.underlying3
  a25 := Tryz.isAgg3
  z25 := Tryz.sizeOf3
  v25 := Tryz.zeroValue3
  t32 := Tryz.underlying155
  a32 := Tryz.isAgg155
  z32 := Tryz.sizeOf155
  v32 := Tryz.zeroValue155
  t35 := Tryz.underlying159
  a35 := Tryz.isAgg159
  z35 := Tryz.sizeOf159
  v35 := Tryz.zeroValue159
  t36 := Tryz.underlying160
  a36 := Tryz.isAgg160
  z36 := Tryz.sizeOf160
  v36 := Tryz.zeroValue160
  t41 := Tryz.underlying164
  a41 := Tryz.isAgg164
  z41 := Tryz.sizeOf164
  v41 := Tryz.zeroValue164
  t44 := Tryz.underlying167
  a44 := Tryz.isAgg167
  z44 := Tryz.sizeOf167
  v44 := Tryz.zeroValue167
  t46 := Tryz.underlying169
  a46 := Tryz.isAgg169
  z46 := Tryz.sizeOf169
  v46 := Tryz.zeroValue169
  t53 := Tryz.underlying170
  a53 := Tryz.isAgg170
  z53 := Tryz.sizeOf170
  v53 := Tryz.zeroValue170
  t57 := Tryz.underlying174
  a57 := Tryz.isAgg174
  z57 := Tryz.sizeOf174
  v57 := Tryz.zeroValue174
  t63 := Tryz.underlying176
  a63 := Tryz.isAgg176
  z63 := Tryz.sizeOf176
  v63 := Tryz.zeroValue176
  t64 := Tryz.underlying177
  a64 := Tryz.isAgg177
  z64 := Tryz.sizeOf177
  v64 := Tryz.zeroValue177 }

end Go.Proofs
namespace Go.Nm
open Go
theorem OwnF.row {B : Nat} {e : TypeId} {w : World} {l : List Int} {g cap : Nat} {cur : Array Value} (ho : OwnF B e w (.slice (some ⟨g, 0, none⟩) l.length cap) l) (hg : w.heap[g]? = some (.cells cur e (0, 0)))
    (hcs : l.length <= cap) (hsz : cur.size = cap) (hb : B <= g) (hm : cap <= maxLen) (d : Array Int) (hl : d.size = l.length) (q : Nat) :
    OwnF B e (Sort.putRow (Value.int .i64) (Sort.ahead w q) g 0 d) (.slice (some ⟨g, 0, none⟩) l.length cap) d.toList /\ Grow B (.slice (some ⟨g, 0, none⟩) l.length cap) w (Sort.putRow (Value.int .i64) (Sort.ahead w q) g 0 d) := by
  have hs1 : Elt.sz Int = 1 := rfl
  have h1 : (Sort.putRow (Value.int .i64) (Sort.ahead w q) g 0 d).heap[g]? = some (.cells (Sort.putCells (Value.int .i64) 0 d cur) e (0, 0)) := by
    show (w.heap.modify g _)[g]? = _
    rw [Array.getElem?_modify, if_pos rfl, hg]
    rfl
  have h2 : ∀ k, k ≠ g -> (Sort.putRow (Value.int .i64) (Sort.ahead w q) g 0 d).heap[k]? = w.heap[k]? := by
    intro k hk
    show (w.heap.modify g _)[k]? = _
    rw [Array.getElem?_modify, if_neg (fun h => hk h.symm)]
  refine ⟨⟨by rw [enc_ints]; simp [hs1], .inr ⟨g, cap, _, by simp [hl], hb, h1, by simp [hl]; omega, hm, by simp [hs1, Sort.putCells]; omega, ?_⟩⟩, ⟨rfl, rfl, by simp [Sort.putRow, Sort.mapBlock, Sort.ahead], fun k _ hk => ?_, fun g' hg' => (ho.lt g' hg').1, fun a => by simp⟩⟩
  · rw [enc_ints, hs1]
    apply List.ext_getElem?
    intro i
    rw [List.getElem?_take, List.getElem?_map]
    by_cases hi : i < d.toList.length * 1
    · rw [if_pos hi]
      have hi' : i < d.size := by simpa using hi
      have hc : i < cur.size := by omega
      simp [Sort.putCells, hi', hc]
    · rw [if_neg hi, List.getElem?_eq_none (by simpa using hi)]
      rfl
  · refine h2 k (fun e' => hk ?_)
    rw [e']
    rfl
end Go.Nm
namespace Go.Proofs.YtbaehghammbjdaaGreat
open Go Go.Nm Go.Proofs
theorem sort_any {w : World} {v : Value} {l : List Int} (ho : OwnF 0 3 w v l) (hl : l.length <= 1000000) : Ret Tryz.prog 106 #[v] w fun u w' => u = .tuple #[] /\ OwnF 0 3 w' v (isort l) /\ Keep w w' /\ ∀ b, b < w.heap.size -> v.ownBlock ≠ some b -> w'.heap[b]? = w.heap[b]? := by
  have ho' := ho
  rcases ho.2 with ⟨rfl, hn⟩ | ⟨g, cap, cur, rfl, hb, hg, hc, hm, hcs, htake⟩
  · obtain rfl := List.length_eq_zero_iff.1 hn
    have h := AnyM.slices_Sort_int_none Tryz.sortA none 0 w
    refine Calls.mono h ?_
    rintro _ w' ⟨rfl, rfl⟩
    exact ⟨_, rfl, rfl, ho, Keep.refl _, fun _ _ _ => rfl⟩
  · have hs1 : Elt.sz Int = 1 := rfl
    rw [hs1] at hcs htake
    rw [enc_ints] at htake
    have hcell : ∀ j, j < l.length -> w.cell? ⟨g, 0 + j, none⟩ = some (.int .i64 (l.getD j 0)) := by
      intro j hj
      rw [Nat.zero_add, cell_of_row w g j cur 3 (0, 0) hg]
      have h1 : (cur.toList.take (l.length * 1))[j]? = (l.map I)[j]? := by rw [htake]
      rw [List.getElem?_take, if_pos (by omega), List.getElem?_map, getD_some l hj 0] at h1
      simpa using h1
    have hH : Sort.Holds (Value.int .i64) w g 0 l.toArray := by
      intro j hj
      have hj : j < l.length := by simpa using hj
      refine ⟨?_, by simp [World.frozen?, hg]⟩
      rw [hcell j hj]
      have : l.getD j 0 = l.toArray[j]! := by
        rw [List.getD_eq_getElem?_getD, List.getElem?_eq_getElem hj]
        simp [getElem!_pos, hj]
      rw [this]
    have h := AnyM.slices_Sort_int Tryz.sortA g 0 cap l w hH (heap_lt hg) (by omega)
    refine Calls.mono h ?_
    rintro _ w' ⟨rfl, q, os, rfl⟩
    rw [merge_isort (List.Perm.refl l)]
    have hlen : (isort l).length = l.length := (isort_perm l).length_eq
    obtain ⟨h1, h2⟩ := OwnF.row ho hg hc (by omega) hb hm (isort l).toArray (by simp [hlen]) q
    have hlt : g < (Sort.putRow (Value.int .i64) (Sort.ahead w q) g 0 (isort l).toArray).heap.size := Nat.lt_of_lt_of_le (heap_lt hg) h2.size
    refine ⟨_, rfl, rfl, ?_, ⟨h2.os, h2.out, by rw [Sort.size_grow]; exact Nat.le_trans h2.size (Nat.le_add_right _ _)⟩, fun b hb' hne => ?_⟩
    · rcases h1 with ⟨h3, h4 | ⟨g', cap', cur', h5, h6, h7, h8⟩⟩
      · exact absurd h4.1 (by simp)
      · simp only [Value.slice.injEq, Option.some.injEq, Addr.mk.injEq, and_true] at h5
        obtain ⟨rfl, _, rfl⟩ := h5
        refine ⟨h3, .inr ⟨g, cap, cur', by simp [hlen], h6, by rw [Sort.heap_grow_old _ _ hlt]; exact h7, h8⟩⟩
    · rw [Sort.heap_grow_old _ _ (Nat.lt_of_lt_of_le hb' h2.size)]
      exact h2.blk b hb' hne
end Go.Proofs.YtbaehghammbjdaaGreat
namespace Go.Nm
open Go
theorem St.sorted {w0 w w' : World} {L L' R : List Chunk} {k : Nat} {v : Value} {l l' : List Int} {e : TypeId} (H : St w0 w L R) (hk : L[k]? = some (cOwn (α := Int) e v l)) (ho : OwnF 0 e w' v l') (kp : Keep w w') (hs : ∀ b, b < w.heap.size -> v.ownBlock ≠ some b -> w'.heap[b]? = w.heap[b]?)
    (hl : L.set k (cOwn (α := Int) e v l') = L') : St w0 w' L' R :=
  H.set (c' := cOwn (α := Int) e v l') hk rfl kp hs (fun b hb => .inl hb) ho hl
end Go.Nm
namespace Go.Nm
open Go
end Go.Nm
namespace Go.Nm
open Go
section
variable {P : Program} {w : World} {σ : Env} {d : Nat} {ty : TypeId} {pos : String} {af : Array Edge} {g : Option (Nat × Bool)}
end
end Go.Nm
namespace Go.Nm
open Go
section
variable {P : Program} {ops : Array Oper} {md : Region.Mode} {C : World -> Prop} {z : Nat}
end
section
variable {P : Program} {all : List Oper} {C : World -> Prop} {z : Nat} {Q : Post} {r : List Nat} {σ : Env} {w : World}
end
end Go.Nm
namespace Go.Nm
open Go
section
variable {P : Program} {ops : Array Oper} {md : Region.Mode} {C : World -> Prop} {z : Nat}
end
section
variable {P : Program} {all : List Oper} {C : World -> Prop} {z : Nat} {Q : Post} {r r2 : Ord} {σ : Env} {w : World}
end
end Go.Nm
namespace Go.Nm
open Go
section
set_option linter.unusedSectionVars false
variable {α β : Type} [Flat α] [Flat β] [Inhabited β] {iv : β -> Value} {e1 e2 : TypeId} {v : Value} {us : List β} {T : List (List α)} {w0 w : World} {L L' R : List Chunk}
variable {P : Program} {all rest : List Oper} {Q : Post} {σ : Env} {d : Nat} {ty : TypeId} {pos : String} {af : Array Edge}
end
end Go.Nm
namespace Go.Nm
open Go
/-- A map of slices, with the rows to which they lead (they are read on only). -/
def cMem {κ : Type} [DecidableEq κ] (kenc : κ -> Value) (b : Nat) (B : Base) (F : κ -> M (List Int)) : Chunk where
  D k := k = b ∨ (B.D k /\ k < B.w.heap.size)
  ex := true
  ok w := (∃ f : κ -> Option Value, (cMap kenc id b f).ok w /\ ∀ k v, f k = some v -> ∃ l, (F k).Ends l /\ Sl B.cells v l) /\ (cRo B).ok w /\ ¬ (B.D b /\ b < B.w.heap.size)
  st w w' h hs k := by
    obtain ⟨⟨f, h1, h2⟩, h3, h4⟩ := h
    exact ⟨⟨f, (cMap kenc id b f).st w w' h1 hs fun j hj => k j (.inl hj), h2⟩, (cRo B).st w w' h3 hs fun j hj => k j (.inr hj), h4⟩
  bd w k h e := by
    obtain ⟨⟨f, h1, h2⟩, h3, h4⟩ := h
    rcases e with e | e
    · exact (cMap kenc id b f).bd w k h1 e
    · exact (cRo B).bd w k h3 e
/-- A base that nothing else knows. -/
def cRx (B : Base) : Chunk where
  D b := B.D b /\ b < B.w.heap.size
  ex := true
  ok w := (cRo B).ok w
  st w w' h hs k := (cRo B).st w w' h hs k
  bd w b h hb := (cRo B).bd w b h hb
section
variable {κ : Type} [DecidableEq κ] {kenc : κ -> Value} {b : Nat} {B : Base} {F : κ -> M (List Int)} {P : Program} {w w0 : World} {L L' R : List Chunk} {kt et t : TypeId}
variable {all rest : List Oper} {Q : Post} {σ : Env} {d : Nat} {ty : TypeId} {pos : String} {af : Array Edge}
theorem memLe : ∀ w, (cMem kenc b B F).ok w -> B.cells.Le w.cell? := fun w h => roLe w h.2.1
/-- A new one. -/
theorem t_mkmem {t' : TypeId} (kenc : κ -> Value) (F : κ -> M (List Int)) (H : St w0 w L R) (k : ∀ b B w', St w0 w' (cMem kenc b B F :: L) R -> SL P all Q rest (upd σ d (.map (some b))) w') : SL P all Q (⟨some d, .makeMap t' none, ty, pos, af, none⟩ :: rest) σ w :=
  s_mkmap fun b w' hn => k b ⟨w', fun _ => False⟩ w' (H.push (c := cMem kenc b ⟨w', fun _ => False⟩ F) hn.ext
    ⟨⟨fun _ => none, ⟨_, _, hn.same, MapR.nil kenc id 0⟩, fun k v h => by cases h⟩, ⟨Nat.le_refl _, fun _ h => h.elim⟩, fun h => h.1.elim⟩ (fun j hj => by
      rcases hj with hj | hj
      · rw [hj]; exact hn.ge
      · exact hj.1.elim))
/-- The map by itself, the rows beside it. -/
theorem St.memOpen {i : Nat} (H : St w0 w L R) (hk : L[i]? = some (cMem kenc b B F)) : ∃ f : κ -> Option Value, St w0 w (cMap kenc id b f :: cRx B :: L.eraseIdx i) R /\ ∀ k v, f k = some v -> ∃ l, (F k).Ends l /\ Sl B.cells v l := by
  have hlt := (List.getElem?_eq_some_iff.1 hk).1
  have hp : (cMem kenc b B F :: L.eraseIdx i).Perm L := by
    have e : L.take i ++ cMem kenc b B F :: L.drop (i + 1) = L := by
      rw [← (List.getElem?_eq_some_iff.1 hk).2, ← List.drop_eq_getElem_cons hlt, List.take_append_drop]
    rw [List.eraseIdx_eq_take_drop_succ]
    exact List.Perm.trans List.perm_middle.symm (by rw [e])
  have hS : Sep w (cMem kenc b B F :: (L.eraseIdx i ++ R)) := H.sep.perm (by rw [← List.cons_append]; exact hp.append_right R)
  obtain ⟨⟨⟨f, h1, h2⟩, h3, h4⟩, ha, hr⟩ := hS
  refine ⟨f, ⟨H.kp, h1, ?_, h3, ?_, hr⟩, h2⟩
  · intro c hc _ j hj hj'
    rcases List.mem_cons.1 hc with rfl | hc
    · rw [show j = b from hj] at hj'
      exact h4 hj'
    · exact ha c hc (by simp [cMem]) j (.inl hj) hj'
  · intro c hc _ j hj hj'
    exact ha c hc (by simp [cMem]) j (.inr hj) hj'
theorem St.memShut {f : κ -> Option Value} (H : St w0 w (cMap kenc id b f :: cRx B :: L) R) (hF : ∀ k v, f k = some v -> ∃ l, (F k).Ends l /\ Sl B.cells v l) : St w0 w (cMem kenc b B F :: L) R := by
  obtain ⟨h1, ha, h3, hb, hr⟩ := H.sep
  refine ⟨H.kp, ⟨⟨f, h1, hF⟩, h3, fun h => ha (cRx B) (by simp) (by simp [cMap]) b rfl h⟩, fun c hc _ j hj hj' => ?_, hr⟩
  rcases hj with hj | hj
  · exact ha c (List.mem_cons_of_mem _ hc) (by simp [cMap]) j hj hj'
  · exact hb c hc (by simp [cRx]) j hj hj'
theorem St.memShut1 {f : κ -> Option Value} {k : κ} {e : TypeId} {v : Value} {l : List Int} (H : St w0 w (cMap kenc id b (updF f k v) :: cRx B :: cOwn (α := Int) e v l :: L) R) (hF : ∀ k v, f k = some v -> ∃ l, (F k).Ends l /\ Sl B.cells v l) (hE : (F k).Ends l) :
    ∃ B', B.cells.Le B'.cells /\ Sl B'.cells v l /\ St w0 w (cMem kenc b B' F :: L) R := by
  have hS := H.sep
  obtain ⟨h1, ha, h3, hb, hown, hc, hr⟩ := hS
  have hlt : ∀ j, B.D j /\ j < B.w.heap.size -> (cRo B).D j := fun j hj => hj
  have hBB : B.cells.Le (Base.cells ⟨w, fun j => (B.D j /\ j < B.w.heap.size) ∨ v.ownBlock = some j⟩) := fun a c hc => by
    have hd : B.D a.block := by
      unfold Base.cells at hc
      split at hc
      · assumption
      · cases hc
    have hlt : a.block < B.w.heap.size := by
      unfold Base.cells at hc
      rw [if_pos hd] at hc
      exact World.block_lt_of_cell? B.w a hc
    unfold Base.cells
    rw [if_pos (show (B.D a.block /\ a.block < B.w.heap.size) ∨ v.ownBlock = some a.block from .inl ⟨hd, hlt⟩)]
    exact roLe w h3 a c hc
  have hvl : Sl (Base.cells ⟨w, fun j => (B.D j /\ j < B.w.heap.size) ∨ v.ownBlock = some j⟩) v l := (ownSl hown).mono fun a c hc => by
    have h1 := ownLe w hown a c hc
    unfold Base.cells
    rw [if_pos (Or.inr ?_)]
    · exact h1
    · unfold rowC at hc
      split at hc
      · rename_i p _ _
        split at hc
        · rename_i ha
          rw [ha]; rfl
        · cases hc
      · cases hc
  refine ⟨⟨w, fun j => (B.D j /\ j < B.w.heap.size) ∨ v.ownBlock = some j⟩, hBB, hvl, H.kp, ⟨⟨updF f k v, h1, fun k' v' hk' => ?_⟩, ⟨Nat.le_refl _, fun _ _ _ => rfl⟩, fun h => ?_⟩, fun c hc' _ j hj hj' => ?_, hr⟩
  · unfold updF at hk'
    split at hk'
    · rename_i ek
      subst ek
      obtain rfl := Option.some.inj hk'
      exact ⟨l, hE, hvl⟩
    · obtain ⟨l', e1, e2⟩ := hF k' v' hk'
      exact ⟨l', e1, e2.mono hBB⟩
  · rcases h.1 with h | h
    · exact ha (cRx B) (by simp) (by simp [cMap]) b rfl h
    · exact ha (cOwn (α := Int) e v l) (by simp) (by simp [cMap]) b rfl h
  · rcases hj with hj | ⟨hj | hj, _⟩
    · exact ha c (List.mem_cons_of_mem _ (List.mem_cons_of_mem _ hc')) (by simp [cMap]) j hj hj'
    · exact hb c (List.mem_cons_of_mem _ hc') (by simp [cRx]) j hj hj'
    · exact hc c hc' (by simp [cOwn]) j hj hj'
end
end Go.Nm
namespace Go.Nm
open Go
section
variable {P : Program} {w : World}
/-- What lies behind a part of a row is made zero. -/
theorem clear_behind {t ty e sz by' : Nat} {z : Value} (T : SlT P t e sz by' z) (h1 : ∀ u ∈ z.cells.toList, u.oneCell' = true) {g m n c cap : Nat} {cur : Array Value} (hg : w.heap[g]? = some (.cells cur e (0, 0))) (hmn : m + n <= cap) (hcs : cur.size = cap * sz) (a : Option Addr)
    (ha : 0 < n -> a = some ⟨g, m * sz, none⟩) :
    ∃ cs : Array Value, (Builtin.clear_ #[t] ty #[.slice a n c]).run P w = .ok (.tuple #[]) (w.setRow g cs) /\ cs.size = cur.size /\ cs.toList.take (m * sz) = cur.toList.take (m * sz) := by
  obtain ⟨i, hi, hz, hsz, hby⟩ := T.parts
  cases n with
  | zero =>
    refine ⟨cur, ?_, rfl, rfl⟩
    rw [setRow_self w g cur e (0, 0) hg]
    cases a <;> simp [Builtin.clear_, run_underlying T.und]
  | succ n =>
    obtain rfl := ha (by omega)
    have hzv : ∀ w, (zeroValue e).run P w = .ok z w := fun w => by simp [zeroValue, typeInfo, hi, hz]
    have hl : (Builtin.zeroCells z.cells (n + 1)).toList.length = (n + 1) * sz := by rw [Array.length_toList, size_zeroCells, T.zs]
    have hle : (m + (n + 1)) * sz <= cap * sz := Nat.mul_le_mul_right _ hmn
    rw [Nat.add_mul] at hle
    have hst := run_storeCells_at P g (m * sz) e (Builtin.zeroCells z.cells (n + 1)).toList 0 cur w hg (by rw [hl, hcs]; simp only [Nat.add_zero]; exact hle) (by
      intro v hv
      have hp := T.pos
      rw [← T.zs] at hp
      simp only [Builtin.zeroCells, Array.toList_map, List.mem_map] at hv
      obtain ⟨k, _, rfl⟩ := hv
      have hk := Nat.mod_lt k hp
      rw [getElem!_pos z.cells _ hk]
      exact h1 _ (by simp))
    simp only [Nat.add_zero] at hst
    have q3 : ((cur.toList.take (m * sz) ++ (Builtin.zeroCells z.cells (n + 1)).toList ++ cur.toList.drop (m * sz + (Builtin.zeroCells z.cells (n + 1)).toList.length)).toArray).toList.take (m * sz) = cur.toList.take (m * sz) := by
      show (cur.toList.take (m * sz) ++ _ ++ _).take (m * sz) = _
      rw [List.append_assoc]
      exact List.take_left' (by rw [List.length_take, Array.length_toList]; omega)
    have q2 : ((cur.toList.take (m * sz) ++ (Builtin.zeroCells z.cells (n + 1)).toList ++ cur.toList.drop (m * sz + (Builtin.zeroCells z.cells (n + 1)).toList.length)).toArray).size = cur.size := by
      simp only [List.size_toArray, List.length_append, List.length_take, List.length_drop, Array.length_toList] at hl ⊢
      omega
    refine ⟨_, ?_, q2, q3⟩
    generalize w.setRow g (cur.toList.take (m * sz) ++ (Builtin.zeroCells z.cells (n + 1)).toList ++ cur.toList.drop (m * sz + (Builtin.zeroCells z.cells (n + 1)).toList.length)).toArray = W2 at hst ⊢
    simp [Builtin.clear_, run_underlying T.und, hzv]
    rw [hst]
    rfl
theorem slice_hi {t e : TypeId} {sz : Nat} (hu : P.underlying t = some (.slice e)) (hs : (P.info? e).map (·.size) = some sz) {g n c i : Nat} (h2 : i <= n) (h3 : n <= c) : (Instr.sliceAt t (.slice (some ⟨g, 0, none⟩) n c) none (some (I i)) none).run P w = .ok (.slice (some ⟨g, 0, none⟩) i c) w := by
  have e1 : i <= c := Nat.le_trans h2 h3
  simp [Instr.sliceAt, Instr.slice, Instr.sliceBounds, Instr.sliceBound, asIntOf, run_underlying hu, run_sizeOf hs, Addr.add]
  intro h
  omega

variable {all rest : List Oper} {Q : Post} {σ : Env} {w0 : World} {L R : List Chunk} {ty : TypeId} {pos : String} {af : Array Edge}
/-- What is behind a place is made zero: the row is cut there. -/
theorem t_clrT {α : Type} [Flat α] {dst : Option Nat} {t e by' k : Nat} {z u v : Value} {l : List α} {x : Operand} (T : SlT P t e (Elt.sz α) by' z) (hz : ∀ u ∈ z.cells.toList, u.oneCell' = true) (H : St w0 w L R) (hk : L[k]? = some (cOwn (α := α) e v l)) {i : Int} (h0 : 0 <= i) (h1 : i <= l.length)
    (hr : ∀ w, (Instr.sliceAt t v (some (.int .i64 i)) none none).run P w = .ok u w) (hx : ev σ x = u)
    (kk : ∀ vc w', (∀ w, (Instr.sliceAt t v none (some (.int .i64 i)) none).run P w = .ok vc w) -> vc.cells = #[vc] -> vc.oneCell' = true -> St w0 w' (L.set k (cOwn (α := α) e vc (l.take i.toNat))) R -> SL P all Q rest (updo σ dst (.tuple #[])) w') : SL P all Q (⟨dst, .call ⟨.builtin .clear, #[x], #[t]⟩, ty, pos, af, none⟩ :: rest) σ w := by
  obtain ⟨i, rfl⟩ := Int.eq_ofNat_of_zero_le h0
  have h1 : i <= l.length := by omega
  rw [Int.toNat_natCast] at kk
  have ho : OwnF 0 e w v l := H.get hk
  rcases ho.2 with ⟨hv, hn⟩ | ⟨g, cap, cur, hv, hb, hg, hc, hm, hcs, htake⟩
  · obtain rfl : l = [] := List.eq_nil_of_length_eq_zero hn
    obtain rfl : i = 0 := by simpa using h1
    subst hv
    have hu : u = .slice none 0 0 := by
      have := hr w
      simp [Instr.sliceAt, Instr.slice, Instr.sliceBounds, Instr.sliceBound, asIntOf, run_underlying T.und, run_sizeOf T.size] at this
      exact this.symm
    subst hu
    refine s_any (v := .tuple #[]) (w' := w) ?_ (kk (.slice none 0 0) w (fun w => ?_) rfl rfl ?_)
    · simp [execOp, resolve, invoke, builtin, hx, Builtin.clear_, run_underlying T.und]
    · simp [Instr.sliceAt, Instr.slice, Instr.sliceBounds, Instr.sliceBound, asIntOf, run_underlying T.und, run_sizeOf T.size]
    · exact H.own (B := 0) hk ho ⟨rfl, rfl, Nat.le_refl _, fun _ _ _ => rfl, fun g _ => Nat.zero_le _, fun _ => rfl⟩ (fun _ _ h => h) rfl
  · subst hv
    have hu : u = .slice (if cap = i then some ⟨g, 0, none⟩ else some ⟨g, i * Elt.sz α, none⟩) (l.length - i) (cap - i) := by
      have h2 := hr w
      have h3 : (Instr.sliceAt t (.slice (some ⟨g, 0, none⟩) l.length cap) (some (.int .i64 (i : Int))) none none).run P w = .ok (.slice (if cap = i then some ⟨g, 0, none⟩ else some ⟨g, i * Elt.sz α, none⟩) (l.length - i) (cap - i)) w := by
        simp [Instr.sliceAt, Instr.slice, Instr.sliceBounds, Instr.sliceBound, asIntOf, run_underlying T.und, run_sizeOf T.size]
        rw [if_pos (by omega)]
        simp only [Addr.add]
        by_cases h : i * Elt.sz α = 0
        · simp [h]
        · simp [h]
      rw [h3] at h2
      cases h2
      rfl
    subst hu
    have ht1 : cur.toList.take (i * Elt.sz α) = (l.take i).flatMap Flat.enc := by
      have hl1 : (l.take i).length = i := by rw [List.length_take]; omega
      have e1 : ((l.take i).flatMap Flat.enc : List Value).length = i * Elt.sz α := by rw [flat_len, hl1]
      have e2 : (l.flatMap Flat.enc : List Value) = (l.take i).flatMap Flat.enc ++ (l.drop i).flatMap Flat.enc := by rw [← List.flatMap_append, List.take_append_drop]
      rw [← e1]
      have e3 : cur.toList.take ((l.take i).flatMap Flat.enc : List Value).length = (cur.toList.take (l.length * Elt.sz α)).take ((l.take i).flatMap Flat.enc : List Value).length := by
        rw [List.take_take, e1, Nat.min_eq_left (Nat.mul_le_mul_right _ (by omega))]
      rw [e3, htake, e2, List.take_left]
    have hcl : ∀ ty, ∃ cs : Array Value, (Builtin.clear_ #[t] ty #[.slice (if cap = i then some ⟨g, 0, none⟩ else some ⟨g, i * Elt.sz α, none⟩) (l.length - i) (cap - i)]).run P w = .ok (.tuple #[]) (w.setRow g cs) /\ cs.size = cur.size /\ cs.toList.take (i * Elt.sz α) = cur.toList.take (i * Elt.sz α) := fun ty =>
      clear_behind (cap := cap) T hz hg (by omega) hcs _ (fun h => by rw [if_neg (by omega)])
    obtain ⟨cs, r1, r2, r3⟩ := hcl ty
    refine s_any (v := .tuple #[]) (w' := w.setRow g cs) ?_ (kk (.slice (some ⟨g, 0, none⟩) i cap) _ (fun w => slice_hi T.und T.size h1 hc) rfl rfl ?_)
    · simp [execOp, resolve, invoke, builtin, hx, r1]
    · refine H.own (B := 0) (v' := .slice (some ⟨g, 0, none⟩) i cap) (l' := l.take i) hk ?_ ⟨rfl, rfl, by simp, fun b _ hne => setRow_other w g b _ (fun e => hne (by rw [e]; rfl)), fun g' hg' => (ho.lt g' hg').1, frozen_setRow w g _⟩ (fun _ _ h => h) rfl
      refine ⟨by rw [flat_len], .inr ⟨g, cap, cs, by rw [List.length_take, Nat.min_eq_left h1], hb, setRow_heap _ _ _ _ _ _ hg, by rw [List.length_take]; omega, hm, by rw [r2]; exact hcs, ?_⟩⟩
      rw [List.length_take, Nat.min_eq_left h1, r3, ht1]
end
end Go.Nm
namespace Go.Nm
open Go
universe u
abbrev Pq (b : Nat) : Value := .pointer (some ⟨b, 0, none⟩)
abbrev Oq (b o : Nat) : Value := .pointer (some ⟨b, o, none⟩)
class NthR {α : Type u} (l : List α) (i : Nat) (x : outParam α) : Prop where
  is : l[i]? = some x
instance {α : Type u} {l : List α} {x : α} : NthR (x :: l) 0 x := ⟨rfl⟩
instance {α : Type u} {l : List α} {x y : α} {i : Nat} [h : NthR l i x] : NthR (y :: l) (i + 1) x := ⟨h.is⟩
instance (priority := high) {α : Type u} {l : List α} {x a b c d : α} {i : Nat} [h : NthR l i x] : NthR (a :: b :: c :: d :: l) (i + 4) x := ⟨h.is⟩
class PickR {α : Type u} (l : List α) (i : List Nat) (o : outParam (List α)) : Prop where
  is : i.mapM (fun j => l[j]?) = some o
instance {α : Type u} {l : List α} : PickR l [] [] := ⟨rfl⟩
instance {α : Type u} {l o : List α} {i : Nat} {is : List Nat} {x : α} [h : NthR l i x] [k : PickR l is o] : PickR l (i :: is) (x :: o) := ⟨by rw [List.mapM_cons, h.is, k.is]; rfl⟩
class AppR {α : Type u} (a b : List α) (o : outParam (List α)) : Prop where
  is : a ++ b = o
instance {α : Type u} {b : List α} : AppR [] b b := ⟨rfl⟩
instance {α : Type u} {x : α} {a b o : List α} [h : AppR a b o] : AppR (x :: a) b (x :: o) := ⟨by rw [List.cons_append, h.is]⟩
class LenR {α : Type u} (l : List α) (n : Nat) : Prop where
  is : l.length = n
instance {α : Type u} : LenR ([] : List α) 0 := ⟨rfl⟩
instance {α : Type u} {l : List α} {x : α} {n : Nat} [h : LenR l n] : LenR (x :: l) (n + 1) := ⟨by rw [List.length_cons, h.is]⟩
class EndR {α : Type u} (n : Nat) (l : List α) (a b : outParam (List α)) : Prop where
  is : a ++ b = l
instance (priority := low) {α : Type u} {x : α} {n : Nat} {l a b : List α} [h : EndR n l a b] : EndR n (x :: l) (x :: a) b := ⟨by rw [List.cons_append, h.is]⟩
instance {α : Type u} {n : Nat} {l : List α} [LenR l n] : EndR n l [] l := ⟨rfl⟩
class SetR {α : Type u} (l : List α) (k : Nat) (x : α) (o : outParam (List α)) : Prop where
  is : l.set k x = o
instance {α : Type u} {l : List α} {x y : α} : SetR (y :: l) 0 x (x :: l) := ⟨rfl⟩
instance {α : Type u} {l o : List α} {x y : α} {k : Nat} [h : SetR l k x o] : SetR (y :: l) (k + 1) x (y :: o) := ⟨by rw [List.set_cons_succ, h.is]⟩
class NfR {α : Type u} (l : List α) (o : outParam (List α)) : Prop where
  is : l = o
instance {α : Type u} : NfR ([] : List α) [] := ⟨rfl⟩
instance {α : Type u} {x : α} {l o : List α} [h : NfR l o] : NfR (x :: l) (x :: o) := ⟨by rw [← h.is]⟩
instance {α : Type u} {l o p : List α} {k : Nat} {x : α} [h : NfR l o] [s : SetR o k x p] : NfR (l.set k x) p := ⟨by rw [h.is, s.is]⟩
instance {α : Type u} {a b a' b' o : List α} [h : NfR a a'] [h' : NfR b b'] [s : AppR a' b' o] : NfR (a ++ b) o := ⟨by rw [h.is, h'.is, s.is]⟩
instance {α : Type u} {x : α} {l o : List α} [h : NfR l o] : NfR ((x :: l).eraseIdx 0) o := ⟨by rw [← h.is]; rfl⟩
instance {α : Type u} {x : α} {l o : List α} {k : Nat} [h : NfR (l.eraseIdx k) o] : NfR ((x :: l).eraseIdx (k + 1)) (x :: o) := ⟨by rw [List.eraseIdx_cons_succ, h.is]⟩
class OverR {α : Type u} (cs : List α) (off : Nat) (vs : List α) (o : outParam (List α)) : Prop where
  is : cs.take off ++ vs ++ cs.drop (off + vs.length) = o
instance {α : Type u} {cs : List α} : OverR cs 0 [] cs := ⟨by simp⟩
instance {α : Type u} {c v : α} {cs vs o : List α} [h : OverR cs 0 vs o] : OverR (c :: cs) 0 (v :: vs) (v :: o) := ⟨by
  have := h.is
  simp only [List.take_zero, List.nil_append, Nat.zero_add] at this ⊢
  simp [this]⟩
instance {α : Type u} {c : α} {cs vs o : List α} {n : Nat} [h : OverR cs n vs o] : OverR (c :: cs) (n + 1) vs (c :: o) := ⟨by
  have := h.is
  rw [List.take_succ_cons, show n + 1 + vs.length = n + vs.length + 1 by omega, List.drop_succ_cons, List.cons_append, List.cons_append, this]⟩
section
variable {w0 w w' : World} {L L' L1 R A T : List Chunk}
theorem St.os {α : Type} [Flat α] {e : TypeId} {v : Value} {l : List α} (h : St w0 w L R) (k : Nat) [n : NthR L k (cOwn e v l)] : Sl (rowC v (l.flatMap Flat.enc)) v l := ownSl (h.get n.is)
theorem St.ol {α : Type} [Flat α] {e : TypeId} {v : Value} {l : List α} (h : St w0 w L R) (k : Nat) [n : NthR L k (cOwn e v l)] : (rowC v (l.flatMap Flat.enc)).Le w.cell? := ownLe w (h.get n.is)
theorem rdo {α : Type} [Flat α] {e : TypeId} {v : Value} {l : List α} (k : Nat) [n : NthR L k (cOwn e v l)] : Reads (L ++ R) (rowC v (l.flatMap Flat.enc)) := Reads.of n.is ownLe
theorem St.bl {b : Nat} {cs : List Value} {t : TypeId} (h : St w0 w L R) (k : Nat) [n : NthR L k (cBlk b cs t)] : w.heap[b]? = some (.cells cs.toArray t (0, 0)) := h.blk n.is
theorem St.nf (h : St w0 w L R) [n : NfR L L'] : St w0 w L' R := by
  have := n.is
  subst this
  exact h
theorem St.pk (h : St w0 w L R) (i : List Nat) [n : NfR L L1] [p : PickR L1 i L'] (hn : i.Nodup := by decide) : St w0 w L' R := h.nf.pick i hn p.is
theorem St.bk (h : St w0 w L R) (h' : St w w' A (T ++ R)) [a : NfR (A ++ T) L'] : St w0 w' L' R := h.back h' a.is
theorem St.gt (h : St w0 w L R) (k : Nat) [n : NfR L L1] [s : EndR k L1 A T] : St w w A (T ++ R) := h.nf.give s.is
end
section
variable {P : Program} {all rest : List Oper} {Q : Post} {σ : Env} {w0 w : World} {L L' R : List Chunk} {ty : TypeId} {pos : String} {af : Array Edge}
theorem zM {d : Nat} {x : Operand} (v : Value) (h : ev σ x = v) (k : SL P all Q rest (upd σ d v) w) : SL P all Q (⟨some d, .move x, ty, pos, af, none⟩ :: rest) σ w := s_val (x_mv h) k
theorem zA {d : Nat} {x : Operand} (v : Value) (h : ev σ x = v) (k : SL P all Q rest (upd σ d v) w) : SL P all Q (⟨some d, .assign x, ty, pos, af, none⟩ :: rest) σ w := s_val (x_as h) k
theorem zC {d : Nat} {op : BinOp} {t yt : TypeId} {x y : Operand} (a b : Int) (r : Bool) (hx : ev σ x = .int .i64 a) (hy : ev σ y = .int .i64 b) (hr : cmpV op a b = some r) (k : SL P all Q rest (upd σ d (.bool r)) w) : SL P all Q (⟨some d, .binOp op t x y yt, ty, pos, af, none⟩ :: rest) σ w := s_val (x_cmp hx hy hr) k
theorem zR {d : Nat} {op : BinOp} {t yt : TypeId} {x y : Operand} (a b r : Int) (hx : ev σ x = .int .i64 a) (hy : ev σ y = .int .i64 b) (hr : ariV op a b = some r) (h : -9223372036854775808 <= r /\ r <= 9223372036854775807) (k : SL P all Q rest (upd σ d (.int .i64 r)) w) : SL P all Q (⟨some d, .binOp op t x y yt, ty, pos, af, none⟩ :: rest) σ w := s_val (x_ari hx hy hr h) k
theorem zX {d i : Nat} {x : Operand} (vs : List Value) (v : Value) (h : ev σ x = .tuple vs.toArray) (hv : vs[i]? = some v) (k : SL P all Q rest (upd σ d v) w) : SL P all Q (⟨some d, .extract x i, ty, pos, af, none⟩ :: rest) σ w := s_val (x_ext h hv) k
theorem t_sw {dst : Option Nat} {t : TypeId} {x y : Operand} {b n : Nat} {cs cs' : List Value} {et : TypeId} (k off : Nat) (vs : List Value) (v : Value) (H : St w0 w L R) [hk : NthR L k (cBlk b cs et)] [hc : OverR cs off vs cs'] [hL : SetR L k (cBlk b cs' et) L'] (hx : ev σ x = .pointer (some ⟨b, off, none⟩)) (hy : ev σ y = v)
    (hs : (P.info? t).map (·.size) = some n) (hv : v.cells = vs.toArray) (hn : vs.length = n) (hl : Nat.ble (off + n) cs.length = true) (h1 : vs.all (·.oneCell') = true)
    (kk : ∀ w', St w0 w' L' R -> SL P all Q rest (updo σ dst undef) w') : SL P all Q (⟨dst, .store t x y, ty, pos, af, none⟩ :: rest) σ w :=
  t_st H hk.is hx hy hs hv hn hl h1 (by rw [← hn]; exact hc.is) hL.is kk
end
/-- What a test says, as a proposition. -/
class DcB (b c : Bool) (p : outParam Prop) : Prop where
  to : b = c -> p
instance (priority := low) {b c : Bool} : DcB b c (b = c) := ⟨fun h => h⟩
instance {p : Prop} [Decidable p] : DcB (decide p) true p := ⟨of_decide_eq_true⟩
instance {p : Prop} [Decidable p] : DcB (decide p) false (¬p) := ⟨of_decide_eq_false⟩
instance {α : Type _} [BEq α] [LawfulBEq α] {a b : α} : DcB (a == b) true (a = b) := ⟨beq_iff_eq.1⟩
instance {α : Type _} [BEq α] [LawfulBEq α] {a b : α} : DcB (a == b) false (a ≠ b) := ⟨beq_eq_false_iff_ne.1⟩
instance {α : Type _} [BEq α] [LawfulBEq α] {a b : α} : DcB (a != b) true (a ≠ b) := ⟨bne_iff_ne.1⟩
instance {α : Type _} [BEq α] [LawfulBEq α] {a b : α} : DcB (a != b) false (a = b) := ⟨bne_eq_false_iff_eq.1⟩
theorem dI {b c : Bool} {p : Prop} [h : DcB b c p] (x : b = c) : p := h.to x
section
variable {P : Program} {all rest : List Oper} {Q : Post} {σ : Env} {w0 w : World} {L L' R : List Chunk} {ty : TypeId} {pos : String} {af : Array Edge}
theorem t_ow {α : Type} [Flat α] {dst : Option Nat} {e t : TypeId} {x y : Operand} {v val : Value} {l : List α} (k : Nat) (i : Int) (a : α) (H : St w0 w L R) [hk : NthR L k (cOwn e v l)] [hL : SetR L k (cOwn e v (l.set i.toNat a)) L'] (hs : (P.info? t).map (·.size) = some (Elt.sz α))
    (h0 : 0 <= i) (h1 : i < l.length) (hx : ev σ x = vat v (Elt.sz α) i.toNat) (hy : ev σ y = val) (hv : val.cells = (Flat.enc a : List Value).toArray)
    (kk : ∀ w', St w0 w' L' R -> SL P all Q rest (updo σ dst undef) w') : SL P all Q (⟨dst, .store t x y, ty, pos, af, none⟩ :: rest) σ w := t_ost H hk.is hs h0 h1 a hx hy hv rfl hL.is kk
theorem t_bx {d : Nat} {e : TypeId} {x : Operand} (cs : List Value) (H : St w0 w L R) (hx : ev σ x = .agg cs.toArray)
    (k : ∀ b w', St w0 w' (cBlk b cs e :: L) R -> SL P all Q rest (upd σ d (.pointer (some ⟨b, 0, none⟩))) w') : SL P all Q (⟨some d, .box e x, ty, pos, af, none⟩ :: rest) σ w := t_box H hx rfl k
theorem t_b1 {d : Nat} {e : TypeId} {x : Operand} (v : Value) (H : St w0 w L R) (hx : ev σ x = v) (hv : v.cells = [v].toArray)
    (k : ∀ b w', St w0 w' (cBlk b [v] e :: L) R -> SL P all Q rest (upd σ d (.pointer (some ⟨b, 0, none⟩))) w') : SL P all Q (⟨some d, .box e x, ty, pos, af, none⟩ :: rest) σ w := t_box H hx hv k
end
end Go.Nm
namespace Go.Nm
open Go
section
variable {P : Program} {w : World} {σ : Env} {d : Nat} {ty : TypeId} {pos : String} {af : Array Edge} {g : Option (Nat × Bool)}
theorem x_shl {t yt : TypeId} {x y : Operand} {a b : Int} {n : Nat} (hx : ev σ x = .int .i64 a) (hy : ev σ y = .int .i64 b) (h : b = (n : Int) /\ n <= 62 /\ -9223372036854775808 <= a * 2 ^ n /\ a * 2 ^ n <= 9223372036854775807) :
    (execOp (ev σ) ⟨some d, .binOp .shl t x y yt, ty, pos, af, g⟩).run P w = .ok (.value (.int .i64 (a * 2 ^ n))) w := by
  obtain ⟨rfl, h1, h2, h3⟩ := h
  have hn : ¬ ((n : Int) < 0) := by omega
  have hm : min n IntKind.i64.bits = n := Nat.min_eq_left (by show n <= 64; omega)
  simp [execOp, hx, hy, eqGuard, binOp, Op.shift, hn, hm, wrap64 (a := a * 2 ^ n) ⟨h2, h3⟩]
theorem x_shr {t yt : TypeId} {x y : Operand} {a b : Int} {n : Nat} (hx : ev σ x = .int .i64 a) (hy : ev σ y = .int .i64 b) (h : b = (n : Int) /\ n <= 62) :
    (execOp (ev σ) ⟨some d, .binOp .shr t x y yt, ty, pos, af, g⟩).run P w = .ok (.value (.int .i64 (a / 2 ^ n))) w := by
  obtain ⟨rfl, h1⟩ := h
  have hn : ¬ ((n : Int) < 0) := by omega
  have hm : min n IntKind.i64.bits = n := Nat.min_eq_left (by show n <= 64; omega)
  have hf : a.fdiv (2 ^ n) = a / 2 ^ n := Int.fdiv_eq_ediv_of_nonneg _ (Int.le_of_lt (Int.pow_pos (by decide)))
  simp [execOp, hx, hy, eqGuard, binOp, Op.shift, hn, hm, hf]
end
end Go.Nm
namespace Go.Nm
open Go
section
variable {P : Program} {w : World} {σ : Env} {d : Nat} {ty : TypeId} {pos : String} {af : Array Edge} {g : Option (Nat × Bool)}
theorem x_pand0 {c x y : Operand} {b : Bool} (hc : ev σ c = .bool b) (hx : b = true -> ev σ x = .bool false) (hy : ev σ y = .bool false) :
    (execOp (ev σ) ⟨some d, .pick c x y, ty, pos, af, g⟩).run P w = .ok (.value (.bool false)) w := by
  have := x_pand (P := P) (w := w) (d := d) (ty := ty) (pos := pos) (af := af) (g := g) hc hx hy
  rwa [Bool.and_false] at this
end
end Go.Nm
namespace Go.Proofs.YtbaehghammbjdaaGreat
open Go Go.Nm
theorem cf6 : CF Tryz.prog 6 := ⟨_, Tryz.func6, rfl, by decide +kernel⟩
theorem cf7 : CF Tryz.prog 7 := ⟨_, Tryz.func7, rfl, by decide +kernel⟩
theorem cf8 : CF Tryz.prog 8 := ⟨_, Tryz.func8, rfl, by decide +kernel⟩
theorem cf9 : CF Tryz.prog 9 := ⟨_, Tryz.func9, rfl, by decide +kernel⟩
theorem cf10 : CF Tryz.prog 10 := ⟨_, Tryz.func10, rfl, by decide +kernel⟩
theorem cf13 : CF Tryz.prog 13 := ⟨_, Tryz.func13, rfl, by decide +kernel⟩
theorem cf15 : CF Tryz.prog 15 := ⟨_, Tryz.func15, rfl, by decide +kernel⟩
theorem cf16 : CF Tryz.prog 16 := ⟨_, Tryz.func16, rfl, by decide +kernel⟩
theorem cf18 : CF Tryz.prog 18 := ⟨_, Tryz.func18, rfl, by decide +kernel⟩
theorem cf19 : CF Tryz.prog 19 := ⟨_, Tryz.func19, rfl, by decide +kernel⟩
theorem cf20 : CF Tryz.prog 20 := ⟨_, Tryz.func20, rfl, by decide +kernel⟩
theorem cf25 : CF Tryz.prog 25 := ⟨_, Tryz.func25, rfl, by decide +kernel⟩
theorem cf27 : CF Tryz.prog 27 := ⟨_, Tryz.func27, rfl, by decide +kernel⟩
theorem cf28 : CF Tryz.prog 28 := ⟨_, Tryz.func28, rfl, by decide +kernel⟩
theorem cf29 : CF Tryz.prog 29 := ⟨_, Tryz.func29, rfl, by decide +kernel⟩
theorem cf30 : CF Tryz.prog 30 := ⟨_, Tryz.func30, rfl, by decide +kernel⟩
theorem cf31 : CF Tryz.prog 31 := ⟨_, Tryz.func31, rfl, by decide +kernel⟩
theorem cf32 : CF Tryz.prog 32 := ⟨_, Tryz.func32, rfl, by decide +kernel⟩
theorem cf33 : CF Tryz.prog 33 := ⟨_, Tryz.func33, rfl, by decide +kernel⟩
theorem cf34 : CF Tryz.prog 34 := ⟨_, Tryz.func34, rfl, by decide +kernel⟩
theorem cf35 : CF Tryz.prog 35 := ⟨_, Tryz.func35, rfl, by decide +kernel⟩
theorem cf36 : CF Tryz.prog 36 := ⟨_, Tryz.func36, rfl, by decide +kernel⟩
theorem cf37 : CF Tryz.prog 37 := ⟨_, Tryz.func37, rfl, by decide +kernel⟩
theorem cf38 : CF Tryz.prog 38 := ⟨_, Tryz.func38, rfl, by decide +kernel⟩
theorem cf39 : CF Tryz.prog 39 := ⟨_, Tryz.func39, rfl, by decide +kernel⟩
theorem cf40 : CF Tryz.prog 40 := ⟨_, Tryz.func40, rfl, by decide +kernel⟩
theorem cf41 : CF Tryz.prog 41 := ⟨_, Tryz.func41, rfl, by decide +kernel⟩
theorem cf42 : CF Tryz.prog 42 := ⟨_, Tryz.func42, rfl, by decide +kernel⟩
theorem cf43 : CF Tryz.prog 43 := ⟨_, Tryz.func43, rfl, by decide +kernel⟩
theorem cf44 : CF Tryz.prog 44 := ⟨_, Tryz.func44, rfl, by decide +kernel⟩
theorem cf45 : CF Tryz.prog 45 := ⟨_, Tryz.func45, rfl, by decide +kernel⟩
theorem cf46 : CF Tryz.prog 46 := ⟨_, Tryz.func46, rfl, by decide +kernel⟩
theorem cf47 : CF Tryz.prog 47 := ⟨_, Tryz.func47, rfl, by decide +kernel⟩
theorem cf48 : CF Tryz.prog 48 := ⟨_, Tryz.func48, rfl, by decide +kernel⟩
theorem cf49 : CF Tryz.prog 49 := ⟨_, Tryz.func49, rfl, by decide +kernel⟩
theorem cf51 : CF Tryz.prog 51 := ⟨_, Tryz.func51, rfl, by decide +kernel⟩
theorem cf52 : CF Tryz.prog 52 := ⟨_, Tryz.func52, rfl, by decide +kernel⟩
theorem cf53 : CF Tryz.prog 53 := ⟨_, Tryz.func53, rfl, by decide +kernel⟩
theorem cf54 : CF Tryz.prog 54 := ⟨_, Tryz.func54, rfl, by decide +kernel⟩
theorem cf55 : CF Tryz.prog 55 := ⟨_, Tryz.func55, rfl, by decide +kernel⟩
theorem cf56 : CF Tryz.prog 56 := ⟨_, Tryz.func56, rfl, by decide +kernel⟩
theorem cf57 : CF Tryz.prog 57 := ⟨_, Tryz.func57, rfl, by decide +kernel⟩
theorem cf58 : CF Tryz.prog 58 := ⟨_, Tryz.func58, rfl, by decide +kernel⟩
theorem cf59 : CF Tryz.prog 59 := ⟨_, Tryz.func59, rfl, by decide +kernel⟩
theorem cf60 : CF Tryz.prog 60 := ⟨_, Tryz.func60, rfl, by decide +kernel⟩
theorem cf61 : CF Tryz.prog 61 := ⟨_, Tryz.func61, rfl, by decide +kernel⟩
theorem cf62 : CF Tryz.prog 62 := ⟨_, Tryz.func62, rfl, by decide +kernel⟩
theorem cf63 : CF Tryz.prog 63 := ⟨_, Tryz.func63, rfl, by decide +kernel⟩
theorem cf64 : CF Tryz.prog 64 := ⟨_, Tryz.func64, rfl, by decide +kernel⟩
theorem cf65 : CF Tryz.prog 65 := ⟨_, Tryz.func65, rfl, by decide +kernel⟩
theorem cf66 : CF Tryz.prog 66 := ⟨_, Tryz.func66, rfl, by decide +kernel⟩
theorem cf67 : CF Tryz.prog 67 := ⟨_, Tryz.func67, rfl, by decide +kernel⟩
theorem cf68 : CF Tryz.prog 68 := ⟨_, Tryz.func68, rfl, by decide +kernel⟩
theorem cf69 : CF Tryz.prog 69 := ⟨_, Tryz.func69, rfl, by decide +kernel⟩
theorem cf70 : CF Tryz.prog 70 := ⟨_, Tryz.func70, rfl, by decide +kernel⟩
theorem cf71 : CF Tryz.prog 71 := ⟨_, Tryz.func71, rfl, by decide +kernel⟩
theorem cf72 : CF Tryz.prog 72 := ⟨_, Tryz.func72, rfl, by decide +kernel⟩
theorem cf73 : CF Tryz.prog 73 := ⟨_, Tryz.func73, rfl, by decide +kernel⟩
theorem cf74 : CF Tryz.prog 74 := ⟨_, Tryz.func74, rfl, by decide +kernel⟩
theorem cf75 : CF Tryz.prog 75 := ⟨_, Tryz.func75, rfl, by decide +kernel⟩
theorem cf76 : CF Tryz.prog 76 := ⟨_, Tryz.func76, rfl, by decide +kernel⟩
theorem cf77 : CF Tryz.prog 77 := ⟨_, Tryz.func77, rfl, by decide +kernel⟩
theorem cf78 : CF Tryz.prog 78 := ⟨_, Tryz.func78, rfl, by decide +kernel⟩
theorem cf79 : CF Tryz.prog 79 := ⟨_, Tryz.func79, rfl, by decide +kernel⟩
theorem cf80 : CF Tryz.prog 80 := ⟨_, Tryz.func80, rfl, by decide +kernel⟩
theorem cf81 : CF Tryz.prog 81 := ⟨_, Tryz.func81, rfl, by decide +kernel⟩
theorem cf82 : CF Tryz.prog 82 := ⟨_, Tryz.func82, rfl, by decide +kernel⟩
theorem cf83 : CF Tryz.prog 83 := ⟨_, Tryz.func83, rfl, by decide +kernel⟩
theorem cf84 : CF Tryz.prog 84 := ⟨_, Tryz.func84, rfl, by decide +kernel⟩
theorem cf85 : CF Tryz.prog 85 := ⟨_, Tryz.func85, rfl, by decide +kernel⟩
theorem cf86 : CF Tryz.prog 86 := ⟨_, Tryz.func86, rfl, by decide +kernel⟩
theorem cf87 : CF Tryz.prog 87 := ⟨_, Tryz.func87, rfl, by decide +kernel⟩
theorem cf88 : CF Tryz.prog 88 := ⟨_, Tryz.func88, rfl, by decide +kernel⟩
theorem cf89 : CF Tryz.prog 89 := ⟨_, Tryz.func89, rfl, by decide +kernel⟩
theorem cf90 : CF Tryz.prog 90 := ⟨_, Tryz.func90, rfl, by decide +kernel⟩
theorem cf91 : CF Tryz.prog 91 := ⟨_, Tryz.func91, rfl, by decide +kernel⟩
theorem cf92 : CF Tryz.prog 92 := ⟨_, Tryz.func92, rfl, by decide +kernel⟩
theorem cf93 : CF Tryz.prog 93 := ⟨_, Tryz.func93, rfl, by decide +kernel⟩
theorem cf94 : CF Tryz.prog 94 := ⟨_, Tryz.func94, rfl, by decide +kernel⟩
theorem cf95 : CF Tryz.prog 95 := ⟨_, Tryz.func95, rfl, by decide +kernel⟩
theorem cf96 : CF Tryz.prog 96 := ⟨_, Tryz.func96, rfl, by decide +kernel⟩
theorem cf97 : CF Tryz.prog 97 := ⟨_, Tryz.func97, rfl, by decide +kernel⟩
theorem cf98 : CF Tryz.prog 98 := ⟨_, Tryz.func98, rfl, by decide +kernel⟩
theorem cf99 : CF Tryz.prog 99 := ⟨_, Tryz.func99, rfl, by decide +kernel⟩
theorem cf100 : CF Tryz.prog 100 := ⟨_, Tryz.func100, rfl, by decide +kernel⟩
theorem cf101 : CF Tryz.prog 101 := ⟨_, Tryz.func101, rfl, by decide +kernel⟩
theorem cf102 : CF Tryz.prog 102 := ⟨_, Tryz.func102, rfl, by decide +kernel⟩
theorem cf103 : CF Tryz.prog 103 := ⟨_, Tryz.func103, rfl, by decide +kernel⟩
theorem cf104 : CF Tryz.prog 104 := ⟨_, Tryz.func104, rfl, by decide +kernel⟩
theorem cf105 : CF Tryz.prog 105 := ⟨_, Tryz.func105, rfl, by decide +kernel⟩
theorem cf106 : CF Tryz.prog 106 := ⟨_, Tryz.func106, rfl, by decide +kernel⟩
theorem cf107 : CF Tryz.prog 107 := ⟨_, Tryz.func107, rfl, by decide +kernel⟩
theorem cf108 : CF Tryz.prog 108 := ⟨_, Tryz.func108, rfl, by decide +kernel⟩
theorem cf109 : CF Tryz.prog 109 := ⟨_, Tryz.func109, rfl, by decide +kernel⟩
theorem cf110 : CF Tryz.prog 110 := ⟨_, Tryz.func110, rfl, by decide +kernel⟩
theorem cf113 : CF Tryz.prog 113 := ⟨_, Tryz.func113, rfl, by decide +kernel⟩
theorem cf114 : CF Tryz.prog 114 := ⟨_, Tryz.func114, rfl, by decide +kernel⟩
theorem cf126 : CF Tryz.prog 126 := ⟨_, Tryz.func126, rfl, by decide +kernel⟩
theorem cf132 : CF Tryz.prog 132 := ⟨_, Tryz.func132, rfl, by decide +kernel⟩
theorem T22 : SlT Tryz.prog 22 3 1 8 (I 0) := ⟨Tryz.underlying22, by kernel_rfl, rfl, by decide⟩
theorem T23 : SlT Tryz.prog 23 26 2 16 (.agg #[I 0, I 0]) := ⟨Tryz.underlying23, by kernel_rfl, rfl, by decide⟩
theorem T24 : SlT Tryz.prog 24 91 3 24 (.agg #[I 0, I 0, I 0]) := ⟨Tryz.underlying24, by kernel_rfl, rfl, by decide⟩
theorem T27 : SlT Tryz.prog 27 85 2 32 (.agg #[I 0, .slice none 0 0]) := ⟨Tryz.underlying27, by kernel_rfl, rfl, by decide⟩
theorem T34 : SlT Tryz.prog 34 92 3 24 (.agg #[I 0, I 0, I 0]) := ⟨Tryz.underlying34, by kernel_rfl, rfl, by decide⟩
theorem T35 : SlT Tryz.prog 35 93 2 32 (.agg #[I 0, .slice none 0 0]) := ⟨Tryz.underlying35, by kernel_rfl, rfl, by decide⟩
theorem T62 : SlT Tryz.prog 62 61 2 16 (.agg #[I 0, I 0]) := ⟨Tryz.underlying62, by kernel_rfl, rfl, by decide⟩
theorem T66 : SlT Tryz.prog 66 70 2 16 (.agg #[I 0, I 0]) := ⟨Tryz.underlying66, by kernel_rfl, rfl, by decide⟩
theorem Sc3 : isSc (Tryz.prog.underlying 3) = true := by rw [Tryz.underlying3]; rfl
theorem Sc4 : isSc (Tryz.prog.underlying 4) = true := by rw [Tryz.underlying4]; rfl
theorem Sc22 : isSc (Tryz.prog.underlying 22) = true := by rw [Tryz.underlying22]; rfl
theorem Sc23 : isSc (Tryz.prog.underlying 23) = true := by rw [Tryz.underlying23]; rfl
theorem Sc24 : isSc (Tryz.prog.underlying 24) = true := by rw [Tryz.underlying24]; rfl
theorem Sc27 : isSc (Tryz.prog.underlying 27) = true := by rw [Tryz.underlying27]; rfl
theorem Sc34 : isSc (Tryz.prog.underlying 34) = true := by rw [Tryz.underlying34]; rfl
theorem Sc35 : isSc (Tryz.prog.underlying 35) = true := by rw [Tryz.underlying35]; rfl
theorem Sc94 : isSc (Tryz.prog.underlying 94) = true := by rw [Tryz.underlying94]; rfl
theorem Sc106 : isSc (Tryz.prog.underlying 106) = true := by rw [Tryz.underlying106]; rfl
theorem Sc109 : isSc (Tryz.prog.underlying 109) = true := by rw [Tryz.underlying109]; rfl
theorem Sc113 : isSc (Tryz.prog.underlying 113) = true := by rw [Tryz.underlying113]; rfl
theorem Sc120 : isSc (Tryz.prog.underlying 120) = true := by rw [Tryz.underlying120]; rfl
theorem Sc133 : isSc (Tryz.prog.underlying 133) = true := by rw [Tryz.underlying133]; rfl
theorem Sc134 : isSc (Tryz.prog.underlying 134) = true := by rw [Tryz.underlying134]; rfl
theorem Sc146 : isSc (Tryz.prog.underlying 146) = true := by rw [Tryz.underlying146]; rfl
theorem Sz3 : (Tryz.prog.info? 3).map (·.size) = some 1 := by kernel_rfl
theorem Sz4 : (Tryz.prog.info? 4).map (·.size) = some 1 := by kernel_rfl
theorem Sz22 : (Tryz.prog.info? 22).map (·.size) = some 1 := by kernel_rfl
theorem Sz23 : (Tryz.prog.info? 23).map (·.size) = some 1 := by kernel_rfl
theorem Sz24 : (Tryz.prog.info? 24).map (·.size) = some 1 := by kernel_rfl
theorem Ag26 : isAg (Tryz.prog.underlying 26) = true := by rw [Tryz.underlying26]; rfl
theorem Sz26 : (Tryz.prog.info? 26).map (·.size) = some 2 := by kernel_rfl
theorem Sz27 : (Tryz.prog.info? 27).map (·.size) = some 1 := by kernel_rfl
theorem Ag29 : isAg (Tryz.prog.underlying 29) = true := by rw [Tryz.underlying29]; rfl
theorem Sz29 : (Tryz.prog.info? 29).map (·.size) = some 7 := by kernel_rfl
theorem Sz34 : (Tryz.prog.info? 34).map (·.size) = some 1 := by kernel_rfl
theorem Sz35 : (Tryz.prog.info? 35).map (·.size) = some 1 := by kernel_rfl
theorem Ag37 : isAg (Tryz.prog.underlying 37) = true := by rw [Tryz.underlying37]; rfl
theorem Sz37 : (Tryz.prog.info? 37).map (·.size) = some 7 := by kernel_rfl
theorem Ag61 : isAg (Tryz.prog.underlying 61) = true := by rw [Tryz.underlying61]; rfl
theorem Sz61 : (Tryz.prog.info? 61).map (·.size) = some 2 := by kernel_rfl
theorem Ag70 : isAg (Tryz.prog.underlying 70) = true := by rw [Tryz.underlying70]; rfl
theorem Sz70 : (Tryz.prog.info? 70).map (·.size) = some 2 := by kernel_rfl
theorem Ag85 : isAg (Tryz.prog.underlying 85) = true := by rw [Tryz.underlying85]; rfl
theorem Sz85 : (Tryz.prog.info? 85).map (·.size) = some 2 := by kernel_rfl
theorem Ag91 : isAg (Tryz.prog.underlying 91) = true := by rw [Tryz.underlying91]; rfl
theorem Sz91 : (Tryz.prog.info? 91).map (·.size) = some 3 := by kernel_rfl
theorem Ag92 : isAg (Tryz.prog.underlying 92) = true := by rw [Tryz.underlying92]; rfl
theorem Sz92 : (Tryz.prog.info? 92).map (·.size) = some 3 := by kernel_rfl
theorem Ag93 : isAg (Tryz.prog.underlying 93) = true := by rw [Tryz.underlying93]; rfl
theorem Sz93 : (Tryz.prog.info? 93).map (·.size) = some 2 := by kernel_rfl
theorem Sz94 : (Tryz.prog.info? 94).map (·.size) = some 1 := by kernel_rfl
theorem Ag96 : isAg (Tryz.prog.underlying 96) = true := by rw [Tryz.underlying96]; rfl
theorem Sz96 : (Tryz.prog.info? 96).map (·.size) = some 12 := by kernel_rfl
theorem Ag101 : isAg (Tryz.prog.underlying 101) = true := by rw [Tryz.underlying101]; rfl
theorem Sz101 : (Tryz.prog.info? 101).map (·.size) = some 3 := by kernel_rfl
theorem Sz106 : (Tryz.prog.info? 106).map (·.size) = some 1 := by kernel_rfl
theorem Sz109 : (Tryz.prog.info? 109).map (·.size) = some 1 := by kernel_rfl
theorem Sz134 : (Tryz.prog.info? 134).map (·.size) = some 1 := by kernel_rfl
theorem Sz146 : (Tryz.prog.info? 146).map (·.size) = some 1 := by kernel_rfl
theorem Fd26_0 : (Tryz.prog.underlying 26).bind (fun d => match d with | .struct fs => (fs[0]?).map (fun f => (f.offset, f.type)) | _ => none) = some (0, 3) := by rw [Tryz.underlying26]; rfl
theorem Fd26_1 : (Tryz.prog.underlying 26).bind (fun d => match d with | .struct fs => (fs[1]?).map (fun f => (f.offset, f.type)) | _ => none) = some (1, 3) := by rw [Tryz.underlying26]; rfl
theorem Fd29_0 : (Tryz.prog.underlying 29).bind (fun d => match d with | .struct fs => (fs[0]?).map (fun f => (f.offset, f.type)) | _ => none) = some (0, 22) := by rw [Tryz.underlying29]; rfl
theorem Fd29_1 : (Tryz.prog.underlying 29).bind (fun d => match d with | .struct fs => (fs[1]?).map (fun f => (f.offset, f.type)) | _ => none) = some (1, 23) := by rw [Tryz.underlying29]; rfl
theorem Fd29_2 : (Tryz.prog.underlying 29).bind (fun d => match d with | .struct fs => (fs[2]?).map (fun f => (f.offset, f.type)) | _ => none) = some (2, 22) := by rw [Tryz.underlying29]; rfl
theorem Fd29_3 : (Tryz.prog.underlying 29).bind (fun d => match d with | .struct fs => (fs[3]?).map (fun f => (f.offset, f.type)) | _ => none) = some (3, 24) := by rw [Tryz.underlying29]; rfl
theorem Fd29_4 : (Tryz.prog.underlying 29).bind (fun d => match d with | .struct fs => (fs[4]?).map (fun f => (f.offset, f.type)) | _ => none) = some (4, 26) := by rw [Tryz.underlying29]; rfl
theorem Fd29_5 : (Tryz.prog.underlying 29).bind (fun d => match d with | .struct fs => (fs[5]?).map (fun f => (f.offset, f.type)) | _ => none) = some (6, 27) := by rw [Tryz.underlying29]; rfl
theorem Fd37_0 : (Tryz.prog.underlying 37).bind (fun d => match d with | .struct fs => (fs[0]?).map (fun f => (f.offset, f.type)) | _ => none) = some (0, 22) := by rw [Tryz.underlying37]; rfl
theorem Fd37_1 : (Tryz.prog.underlying 37).bind (fun d => match d with | .struct fs => (fs[1]?).map (fun f => (f.offset, f.type)) | _ => none) = some (1, 23) := by rw [Tryz.underlying37]; rfl
theorem Fd37_2 : (Tryz.prog.underlying 37).bind (fun d => match d with | .struct fs => (fs[2]?).map (fun f => (f.offset, f.type)) | _ => none) = some (2, 22) := by rw [Tryz.underlying37]; rfl
theorem Fd37_3 : (Tryz.prog.underlying 37).bind (fun d => match d with | .struct fs => (fs[3]?).map (fun f => (f.offset, f.type)) | _ => none) = some (3, 34) := by rw [Tryz.underlying37]; rfl
theorem Fd37_4 : (Tryz.prog.underlying 37).bind (fun d => match d with | .struct fs => (fs[4]?).map (fun f => (f.offset, f.type)) | _ => none) = some (4, 26) := by rw [Tryz.underlying37]; rfl
theorem Fd37_5 : (Tryz.prog.underlying 37).bind (fun d => match d with | .struct fs => (fs[5]?).map (fun f => (f.offset, f.type)) | _ => none) = some (6, 35) := by rw [Tryz.underlying37]; rfl
theorem Fd61_0 : (Tryz.prog.underlying 61).bind (fun d => match d with | .struct fs => (fs[0]?).map (fun f => (f.offset, f.type)) | _ => none) = some (0, 3) := by rw [Tryz.underlying61]; rfl
theorem Fd61_1 : (Tryz.prog.underlying 61).bind (fun d => match d with | .struct fs => (fs[1]?).map (fun f => (f.offset, f.type)) | _ => none) = some (1, 3) := by rw [Tryz.underlying61]; rfl
theorem Fd70_0 : (Tryz.prog.underlying 70).bind (fun d => match d with | .struct fs => (fs[0]?).map (fun f => (f.offset, f.type)) | _ => none) = some (0, 3) := by rw [Tryz.underlying70]; rfl
theorem Fd70_1 : (Tryz.prog.underlying 70).bind (fun d => match d with | .struct fs => (fs[1]?).map (fun f => (f.offset, f.type)) | _ => none) = some (1, 3) := by rw [Tryz.underlying70]; rfl
theorem Fd85_0 : (Tryz.prog.underlying 85).bind (fun d => match d with | .struct fs => (fs[0]?).map (fun f => (f.offset, f.type)) | _ => none) = some (0, 3) := by rw [Tryz.underlying85]; rfl
theorem Fd85_1 : (Tryz.prog.underlying 85).bind (fun d => match d with | .struct fs => (fs[1]?).map (fun f => (f.offset, f.type)) | _ => none) = some (1, 22) := by rw [Tryz.underlying85]; rfl
theorem Fd91_0 : (Tryz.prog.underlying 91).bind (fun d => match d with | .struct fs => (fs[0]?).map (fun f => (f.offset, f.type)) | _ => none) = some (0, 3) := by rw [Tryz.underlying91]; rfl
theorem Fd91_1 : (Tryz.prog.underlying 91).bind (fun d => match d with | .struct fs => (fs[1]?).map (fun f => (f.offset, f.type)) | _ => none) = some (1, 3) := by rw [Tryz.underlying91]; rfl
theorem Fd91_2 : (Tryz.prog.underlying 91).bind (fun d => match d with | .struct fs => (fs[2]?).map (fun f => (f.offset, f.type)) | _ => none) = some (2, 3) := by rw [Tryz.underlying91]; rfl
theorem Fd92_0 : (Tryz.prog.underlying 92).bind (fun d => match d with | .struct fs => (fs[0]?).map (fun f => (f.offset, f.type)) | _ => none) = some (0, 3) := by rw [Tryz.underlying92]; rfl
theorem Fd92_1 : (Tryz.prog.underlying 92).bind (fun d => match d with | .struct fs => (fs[1]?).map (fun f => (f.offset, f.type)) | _ => none) = some (1, 3) := by rw [Tryz.underlying92]; rfl
theorem Fd92_2 : (Tryz.prog.underlying 92).bind (fun d => match d with | .struct fs => (fs[2]?).map (fun f => (f.offset, f.type)) | _ => none) = some (2, 3) := by rw [Tryz.underlying92]; rfl
theorem Fd93_0 : (Tryz.prog.underlying 93).bind (fun d => match d with | .struct fs => (fs[0]?).map (fun f => (f.offset, f.type)) | _ => none) = some (0, 3) := by rw [Tryz.underlying93]; rfl
theorem Fd93_1 : (Tryz.prog.underlying 93).bind (fun d => match d with | .struct fs => (fs[1]?).map (fun f => (f.offset, f.type)) | _ => none) = some (1, 22) := by rw [Tryz.underlying93]; rfl
theorem Fd101_0 : (Tryz.prog.underlying 101).bind (fun d => match d with | .struct fs => (fs[0]?).map (fun f => (f.offset, f.type)) | _ => none) = some (0, 3) := by rw [Tryz.underlying101]; rfl
theorem Fd101_1 : (Tryz.prog.underlying 101).bind (fun d => match d with | .struct fs => (fs[1]?).map (fun f => (f.offset, f.type)) | _ => none) = some (1, 3) := by rw [Tryz.underlying101]; rfl
theorem Fd101_2 : (Tryz.prog.underlying 101).bind (fun d => match d with | .struct fs => (fs[2]?).map (fun f => (f.offset, f.type)) | _ => none) = some (2, 4) := by rw [Tryz.underlying101]; rfl
theorem Fd108_0 : (Tryz.prog.underlying 108).bind (fun d => match d with | .struct fs => (fs[0]?).map (fun f => (f.offset, f.type)) | _ => none) = some (0, 106) := by rw [Tryz.underlying108]; rfl
theorem Fd111_0 : (Tryz.prog.underlying 111).bind (fun d => match d with | .struct fs => (fs[0]?).map (fun f => (f.offset, f.type)) | _ => none) = some (0, 29) := by rw [Tryz.underlying111]; rfl
theorem Fd111_1 : (Tryz.prog.underlying 111).bind (fun d => match d with | .struct fs => (fs[1]?).map (fun f => (f.offset, f.type)) | _ => none) = some (7, 109) := by rw [Tryz.underlying111]; rfl
theorem Al3 : (Tryz.prog.info? 3).map (·.zero) = some (some (I 0)) := by kernel_rfl
theorem Al4 : (Tryz.prog.info? 4).map (·.zero) = some (some (B false)) := by kernel_rfl
theorem Al22 : (Tryz.prog.info? 22).map (·.zero) = some (some (.slice none 0 0)) := by kernel_rfl
theorem Al23 : (Tryz.prog.info? 23).map (·.zero) = some (some (.slice none 0 0)) := by kernel_rfl
theorem Al26 : (Tryz.prog.info? 26).map (·.zero) = some (some (.agg #[I 0, I 0])) := by kernel_rfl
theorem Al29 : (Tryz.prog.info? 29).map (·.zero) = some (some (.agg #[.slice none 0 0, .slice none 0 0, .slice none 0 0, .slice none 0 0, I 0, I 0, .slice none 0 0])) := by kernel_rfl
theorem Al37 : (Tryz.prog.info? 37).map (·.zero) = some (some (.agg #[.slice none 0 0, .slice none 0 0, .slice none 0 0, .slice none 0 0, I 0, I 0, .slice none 0 0])) := by kernel_rfl
theorem Al61 : (Tryz.prog.info? 61).map (·.zero) = some (some (.agg #[I 0, I 0])) := by kernel_rfl
theorem Al70 : (Tryz.prog.info? 70).map (·.zero) = some (some (.agg #[I 0, I 0])) := by kernel_rfl
theorem Al85 : (Tryz.prog.info? 85).map (·.zero) = some (some (.agg #[I 0, .slice none 0 0])) := by kernel_rfl
theorem Al91 : (Tryz.prog.info? 91).map (·.zero) = some (some (.agg #[I 0, I 0, I 0])) := by kernel_rfl
theorem Al92 : (Tryz.prog.info? 92).map (·.zero) = some (some (.agg #[I 0, I 0, I 0])) := by kernel_rfl
theorem Al93 : (Tryz.prog.info? 93).map (·.zero) = some (some (.agg #[I 0, .slice none 0 0])) := by kernel_rfl
theorem Al94 : (Tryz.prog.info? 94).map (·.zero) = some (some (.pointer none)) := by kernel_rfl
theorem Al96 : (Tryz.prog.info? 96).map (·.zero) = some (some (.agg #[B false, B false, B false, B false, B false, B false, B false, B false, B false, B false, B false, B false])) := by kernel_rfl
theorem Al101 : (Tryz.prog.info? 101).map (·.zero) = some (some (.agg #[I 0, I 0, B false])) := by kernel_rfl
theorem Al106 : (Tryz.prog.info? 106).map (·.zero) = some (some (.nilFunc)) := by kernel_rfl
theorem Al108 : (Tryz.prog.info? 108).map (·.zero) = some (some (.agg #[.nilFunc])) := by kernel_rfl
theorem Al111 : (Tryz.prog.info? 111).map (·.zero) = some (some (.agg #[.slice none 0 0, .slice none 0 0, .slice none 0 0, .slice none 0 0, I 0, I 0, .slice none 0 0, .map none])) := by kernel_rfl
theorem Al134 : (Tryz.prog.info? 134).map (·.zero) = some (some (.nilFunc)) := by kernel_rfl
theorem Al146 : (Tryz.prog.info? 146).map (·.zero) = some (some (.nilFunc)) := by kernel_rfl
theorem Bd26 {fs : Array Field} (h : Tryz.prog.underlying 26 = some (.struct fs)) : fs.toList.mapM (fun f => (Tryz.prog.info? f.type).map fun i => (f.offset, i.size)) = some [(0, 1), (1, 1)] := by rw [Tryz.underlying26] at h; simp only [Option.some.injEq, TypeDesc.struct.injEq] at h; subst h; kernel_rfl
theorem Bd29 {fs : Array Field} (h : Tryz.prog.underlying 29 = some (.struct fs)) : fs.toList.mapM (fun f => (Tryz.prog.info? f.type).map fun i => (f.offset, i.size)) = some [(0, 1), (1, 1), (2, 1), (3, 1), (4, 2), (6, 1)] := by rw [Tryz.underlying29] at h; simp only [Option.some.injEq, TypeDesc.struct.injEq] at h; subst h; kernel_rfl
theorem Bd37 {fs : Array Field} (h : Tryz.prog.underlying 37 = some (.struct fs)) : fs.toList.mapM (fun f => (Tryz.prog.info? f.type).map fun i => (f.offset, i.size)) = some [(0, 1), (1, 1), (2, 1), (3, 1), (4, 2), (6, 1)] := by rw [Tryz.underlying37] at h; simp only [Option.some.injEq, TypeDesc.struct.injEq] at h; subst h; kernel_rfl
theorem Bd61 {fs : Array Field} (h : Tryz.prog.underlying 61 = some (.struct fs)) : fs.toList.mapM (fun f => (Tryz.prog.info? f.type).map fun i => (f.offset, i.size)) = some [(0, 1), (1, 1)] := by rw [Tryz.underlying61] at h; simp only [Option.some.injEq, TypeDesc.struct.injEq] at h; subst h; kernel_rfl
theorem Bd70 {fs : Array Field} (h : Tryz.prog.underlying 70 = some (.struct fs)) : fs.toList.mapM (fun f => (Tryz.prog.info? f.type).map fun i => (f.offset, i.size)) = some [(0, 1), (1, 1)] := by rw [Tryz.underlying70] at h; simp only [Option.some.injEq, TypeDesc.struct.injEq] at h; subst h; kernel_rfl
theorem Bd85 {fs : Array Field} (h : Tryz.prog.underlying 85 = some (.struct fs)) : fs.toList.mapM (fun f => (Tryz.prog.info? f.type).map fun i => (f.offset, i.size)) = some [(0, 1), (1, 1)] := by rw [Tryz.underlying85] at h; simp only [Option.some.injEq, TypeDesc.struct.injEq] at h; subst h; kernel_rfl
theorem Bd91 {fs : Array Field} (h : Tryz.prog.underlying 91 = some (.struct fs)) : fs.toList.mapM (fun f => (Tryz.prog.info? f.type).map fun i => (f.offset, i.size)) = some [(0, 1), (1, 1), (2, 1)] := by rw [Tryz.underlying91] at h; simp only [Option.some.injEq, TypeDesc.struct.injEq] at h; subst h; kernel_rfl
theorem Bd101 {fs : Array Field} (h : Tryz.prog.underlying 101 = some (.struct fs)) : fs.toList.mapM (fun f => (Tryz.prog.info? f.type).map fun i => (f.offset, i.size)) = some [(0, 1), (1, 1), (2, 1)] := by rw [Tryz.underlying101] at h; simp only [Option.some.injEq, TypeDesc.struct.injEq] at h; subst h; kernel_rfl
theorem Bd108 {fs : Array Field} (h : Tryz.prog.underlying 108 = some (.struct fs)) : fs.toList.mapM (fun f => (Tryz.prog.info? f.type).map fun i => (f.offset, i.size)) = some [(0, 1)] := by rw [Tryz.underlying108] at h; simp only [Option.some.injEq, TypeDesc.struct.injEq] at h; subst h; kernel_rfl
theorem Bd111 {fs : Array Field} (h : Tryz.prog.underlying 111 = some (.struct fs)) : fs.toList.mapM (fun f => (Tryz.prog.info? f.type).map fun i => (f.offset, i.size)) = some [(0, 7), (7, 1)] := by rw [Tryz.underlying111] at h; simp only [Option.some.injEq, TypeDesc.struct.injEq] at h; subst h; kernel_rfl
theorem mixed : Tryz.prog.follows .mixedOrders = true := by kernel_rfl

end Go.Proofs.YtbaehghammbjdaaGreat
namespace Go.Nm
open Go
abbrev encDm (d : Dem) : Value := .agg #[I d.spring, I d.town]
end Go.Nm
namespace Go.Proofs.YtbaehghammbjdaaGreat
open Go Go.Nm Go.Proofs
theorem findAskDm {ν : Type} (k : Dem) (w : World) : ∀ (es : List MapEntry) (m : List (Dem × ν)) (venc : ν -> Value) (j : Nat), es.map (fun e => (e.key, e.val)) = m.map (fun p => (encDm p.1, venc p.2)) →
    (Instr.findAsking 61 (encDm k) es j).run Tryz.prog w = .ok ((idxM m k).bind fun i => (es[i]?).map fun e => (i + j, e.val)) w
  | [], [], _, _, _ => rfl
  | [], _ :: _, _, _, h => by simp at h
  | _ :: _, [], _, _, h => by simp at h
  | e :: es, p :: m, venc, j, h => by
    simp only [List.map_cons, List.cons.injEq, Prod.mk.injEq] at h
    have ih := findAskDm k w es m venc (j + 1) h.2
    unfold Instr.findAsking
    rw [h.1.1]
    have he := eqT61 k p.1 w
    unfold idxM
    by_cases hp : p.1 = k
    · rw [if_pos hp]
      have : decide (k = p.1) = true := by simp [hp]
      rw [this] at he
      simp [Op.equal, Op.maxDepth, he]
    · rw [if_neg hp]
      have : decide (k = p.1) = false := by simp; exact fun e => hp e.symm
      rw [this] at he
      simp only [Op.equal, Op.maxDepth, Sem.run_bind, he, Result.andThen_ok, Bool.false_eq_true, if_false, ih]
      cases hi : idxM m k with
      | none => rfl
      | some i =>
        simp only [Option.map_some, Option.bind_some, List.getElem?_cons_succ]
        cases es[i]? with
        | none => rfl
        | some e' => simp; omega
theorem keyDem {ν : Type} : KeyL (ν := ν) Tryz.prog 61 encDm := by
  refine ⟨fun e w k => ?_, fun w es m venc k h => ?_, fun k => ?_⟩
  · have u3 := Tryz.underlying3
    have a3 := Tryz.isAgg3
    have z3 := Tryz.sizeOf3
    have h1 : ∀ (n : Nat) (x : Int), (Instr.checkKey e (n + 1) 3 (I x)).run Tryz.prog w = .ok () w := fun n x => MapKept.run_checkKey u3 (show MapKept.IsKey (.int .i64) (I x) from rfl) e n
    have key : ∀ n : Nat, (Instr.checkKey e (n + 1 + 1) 61 (encDm k)).run Tryz.prog w = .ok () w := by
      intro n
      rw [Instr.checkKey]
      simp only [Sem.run_bind, run_underlying Tryz.underlying61, Result.andThen_ok]
      rw [← Array.forIn_toList]
      simp only [List.forIn_cons, List.forIn_nil]
      go_simp
    exact key 9998
  · rw [run_findKey_eq w (by rw [Tryz.underlying61]), findAskDm k w es m venc 0 h]
    rfl
  · simp [Instr.sameBits]
end Go.Proofs.YtbaehghammbjdaaGreat
namespace Go.Nm
open Go
theorem x_eqnilA {P : Program} {w : World} {σ : Env} {d : Nat} {ty : TypeId} {pos : String} {af : Array Edge} {g : Option (Nat × Bool)} {t e yt : TypeId} {x y : Operand} {a : Option Addr} {n c : Nat} (ht : P.underlying t = some (.slice e)) (hx : ev σ x = .slice a n c) (hy : ev σ y = .slice none 0 0) :
    (execOp (ev σ) ⟨some d, .binOp .eql t x y yt, ty, pos, af, g⟩).run P w = .ok (.value (.bool a.isNone)) w := by
  simp [execOp, hx, hy, eqGuard, binOp, run_equal_slice_nil w t e a n c ht]
end Go.Nm
namespace Go.Proofs.YtbaehghammbjdaaGreat
open Go Go.Nm
set_option maxRecDepth 100000 in
theorem clone_any {R : List Chunk} {C_s : Cells} {v_s : Value} (s : List Int) (hC_s : Reads R C_s) (hs_s : Sl C_s v_s s) (hlen : s.length * 8 <= 140737488355328) (w : World) (hsep : Sep w R) :
    Ret Tryz.prog 80 #[v_s] w fun v w' => St w w' [cOwn (α := Int) 3 v s] R := by
 have H : St w w [] R := St.refl hsep
 obtain ⟨a, c, hv, hc, hm, hk⟩ := hs_s.ex
 refine ret_of_W Tryz.func80 rfl rfl rfl ?_
 refine W.seq ?_
 refine W.region rfl ?_
 refine s_val (x_as (v := .slice none 0 0) rfl) ?_
 refine s_nil ?_
 refine W.seq ?_
 refine W.seq ?_
 refine W.region rfl ?_
 refine s_val (x_mv (v := v_s) rfl) ?_
 refine s_val (v := B a.isNone) (x_eqnilA (a := a) (n := s.length) (c := c) Tryz.underlying22 hv rfl) ?_
 refine s_nil ?_
 refine W.cond a.isNone rfl (fun h => ?_) (fun h => ?_)
 ·have e : s = [] := by
   cases s with
   | nil => rfl
   | cons x s =>
    obtain ⟨b, o, cs, ha, _⟩ := hk 0 x rfl
    subst ha
    cases h
  subst e
  refine W.seq ?_
  refine W.region rfl ?_
  refine s_val (x_as (v := .slice none 0 0) rfl) ?_
  refine s_nil ?_
  refine W.ret ?_
  exact ⟨_, resE_tmp rfl, H.nilOwn (α := Int) 3⟩
 ·refine W.skip ?_
  refine W.seq ?_
  refine W.region rfl ?_
  refine t_bs0 (α := Int) T22 H ?_
  intro v3z w4z H
  refine s_val (x_mv (v := v_s) rfl) ?_
  refine t_app (α := Int) (k := 0) (l := []) (l2 := s) (l' := s) (vy := v_s) T22 rfl H rfl rfl rfl hs_s (hC_s.at H) (List.nil_append _) (by simp only [List.length_nil]; omega) ?_
  intro v6z w7z H
  refine s_val (x_as (v := v6z) rfl) ?_
  refine s_nil ?_
  refine W.ret ?_
  exact ⟨_, resE_tmp rfl, H⟩
end Go.Proofs.YtbaehghammbjdaaGreat
section
set_option maxRecDepth 100000
set_option maxHeartbeats 16000000
namespace Go.Proofs.YtbaehghammbjdaaGreat
open Go Go.Nm
def zam (ac : List Int) (ae : List Span) (ag : List Int) (ah : List Town) (aa ab : Int) (ai : List Flood) (station : Int) : M (Int × Int × Int) :=
  M.pure (station, aa, ab)
theorem zce {R : List Chunk} {al : Cells} {aa : Value} {am : Cells} {ab : Value} {ao : Cells} {ac : Value} {aq : Cells} {ae : Value} {au : Cells} {ag : Value} (av : List Int) (aw : List Span) (ax : List Int) (ay : List Town) (ah : Int) (ai : Int) (az : List Flood) (station : Int) (aD : Reads R al) (aE : Sl al aa av) (aF : Reads R am) (aG : Sl am ab aw) (aH : Reads R ao) (aI : Sl ao ac ax) (aJ : Reads R aq) (aK : Sl aq ae ay) (aL : Reads R au) (aM : Sl au ag az) {r : (Int × Int × Int)} (hM : (zam av aw ax ay ah ai az station).Ends r) (w : World) (H : St w w [] R) : Ret Tryz.prog 66 #[.agg #[aa, ab, ac, ae, I ah, I ai, ag], I station] w fun v w' => ∃ (y0 : Int) (y1 : Int) (y2 : Int) (aA : Nat) (aB : Nat), (y0, y1, y2) = r /\ v = .func (.func 96) #[] #[Pq aA, Pq aB] /\ St w w' [cBlk aA [I y0] 3, cBlk aB [aa, ab, ac, ae, I y1, I y2, ag] 29] R := by
 refine ret_of_W Tryz.func66 rfl rfl rfl <| W.seq <| W.region rfl ?_;refine t_bx [aa, ab, ac, ae, I ah, I ai, ag] H rfl ?_;intro aj aN H;refine t_b1 (I station) H rfl rfl ?_;intro ak aO H;refine zA .nilFunc rfl <| s_nil <| W.seq <| W.region rfl <| s_val (x_mf (fs := []) (cs := [Pq ak, Pq aj]) rfl rfl) <| zA (.func (.func 96) #[] #[Pq ak, Pq aj]) rfl <| s_nil ?_;refine W.ret ?_
 have aC := M.e_pure hM
 exact ⟨_, resE_tmp rfl, ⟨station, ah, ai, ak, aj, aC, rfl, H⟩⟩

def zaP {T_ : Type} (ab : T_ -> (Int × Int) -> M (Bool × T_)) (aa : List Int) : (Int × Nat × T_) -> M ((Int × Nat × T_) ⊕ ((T_ × Int) ⊕ (T_ × Int))) := fun (s, s2, t2) =>
  bif ((s != (-1)) && (decide (s < (aa.length : Int)))) then (
  M.bind (ab t2 ((s2 : Int), s)) fun (go, t) =>
  bif !go then (
  M.pure (.inr (.inl (t, s))))
  else (
  M.grd (decide ((0 : Int) <= s) && decide (s < (aa.length : Int))) <|
  M.grd (decide ((-9223372036854775808 : Int) <= ((s2 : Int) + 1)) && decide (((s2 : Int) + 1) <= (9223372036854775807 : Int))) <|
  M.pure (.inl (aa.getD (Int.toNat s) 0, s2 + 1, t))))
  else (
  M.pure (.inr (.inr (t2, s))))
def zai {T_ : Type} (aa : T_ -> (Int × Int) -> M (Bool × T_)) (t_ : T_) (ab : Int) (ac : List Int) (ae : List Span) (ag : List Int) (ah : List Town) (ai aj : Int) (ak : List Flood) : M (T_ × Int) :=
  M.bind (M.iter (zaP aa ac) (ab, 0, t_)) fun x_ => match x_ with
  | (.inl (t3, s3)) => (
  M.pure (t3, s3))
  | (.inr (t4, s4)) => (
  M.pure (t4, s4))
theorem zcb {R : List Chunk} {T_ : Type} {Y_ : T_ -> List Chunk -> Prop} {ag : Value} {ai : List Chunk} {ab : Nat} {ac : Nat} {av : Cells} {ae : Value} {aw : Cells} {ax : Value} {ay : Cells} {az : Value} {aA : Cells} {aB : Value} {aC : Cells} {aD : Value} (aj : T_ -> (Int × Int) -> M (Bool × T_)) (t_ : T_) (ak : Int) (aa : List Int) (aE : List Span) (aF : List Int) (aG : List Town) (aH : Int) (aI : Int) (aJ : List Flood) (aP : YieldC Tryz.prog R arII Y_ ag aj) (aQ : Y_ t_ ai) (aR : Reads R av) (ah : Sl av ae aa) (aY : Reads R aw) (aZ : Sl aw ax aE) (a6 : Reads R ay) (a7 : Sl ay az aF) (a8 : Reads R aA) (ba : Sl aA aB aG) (bc : Reads R aC) (bf : Sl aC aD aJ) (aK : Has R (cBlk ac [ae, ax, az, aB, I aH, I aI, aD] 29)) {r : (T_ × Int)} (hM : (zai aj t_ ak aa aE aF aG aH aI aJ).Ends r) (w : World) (H : St w w [cAll ai, cBlk ab [I ak] 3] R) : Ret Tryz.prog 96 #[ag, Pq ab, Pq ac] w fun v w' => ∃ (y0 : T_) (y1 : Int) (Ls0 : List Chunk), (y0, y1) = r /\ v = .tuple #[] /\ St w w' [cAll Ls0, cBlk ab [I y1] 3] R /\ Y_ y0 Ls0 := by
 refine ret_of_W Tryz.func96 rfl rfl rfl <| W.seq <| W.region rfl <| zA (I 0) rfl <| s_nil <| W.block ?_;obtain ⟨aS, al, aL⟩ := M.e_bind hM
 obtain ⟨bg, al⟩ := M.e_iter al
 refine W.loop (fun m σ W => ∃ (s : Int) (s2 : Nat) (t2 : T_) (Ls_t2 : List Chunk) (ρ : Env), σ = upds ρ [(0, ag), (1, Pq ab), (2, Pq ac), (4, I (s2 : Int))] /\ M.iterN (zaP aj aa) m (s, s2, t2) = some aS /\ St w W [cAll Ls_t2, cBlk ab [I s] 3] R /\ Y_ t2 Ls_t2) ?_ ?_
 ·exact ⟨_, ak, 0, t_, ai, _, upds_of _ _ ⟨rfl, rfl, rfl, rfl, trivial⟩, al, H, aQ⟩
 rintro bh σ bi ⟨s, s2, t2, Ls_t2, ρ, rfl, aM, H, hY_t2⟩
 obtain ⟨aT, aU, bj, hM, am⟩ := M.e_iterN aM
 simp only [zaP] at hM
 clear aM;refine W.seq <| W.seq <| W.region rfl <| s_val (x_ld (v := I s) rfl (ldb_sc Sc3 (H.bl 1) rfl)) <| zC s (-1) (s != (-1)) rfl rfl rfl <| zM (B (s != (-1))) rfl <| g_val (s != (-1)) (gy_t rfl) (fun hg => x_ld (v := I s) rfl (ldb_sc Sc3 (H.bl 1) rfl)) <| g_val (s != (-1)) (gy_t rfl) (fun hg => x_fa (v := Pq ac) rfl (fa_blk (o := 0) Fd29_0 Sz22)) <| g_val (s != (-1)) (gy_t rfl) (fun hg => x_ld (v := ae) (gd_of hg (Pq ac)) (ldb_sc Sc22 (aK.blk H) rfl)) ?_
 have bm := (ah).len_le
 refine g_val (s != (-1)) (gy_t rfl) (fun hg => x_lenS T22.und (gd_of hg (ae)) ah) <| g_val (s != (-1)) (gy_t rfl) (fun hg => x_cmp (kd := .i64) (r := decide (s < (aa.length : Int))) (gd_of hg (I s)) (gd_of hg (I (aa.length : Int))) rfl) <| s_val (x_pand (b := s != (-1)) (r := decide (s < (aa.length : Int))) rfl (fun hb => gd_of (c := s != (-1)) (by first | exact hb | (rw [hb]; rfl) | simp_all) (B (decide (s < (aa.length : Int))))) rfl) <| s_nil ?_
 refine W.cond ((s != (-1)) && (decide (s < (aa.length : Int)))) rfl (fun ao => ?_) (fun ao => ?_)
 ·replace hM := M.e_t hM ao;refine W.skip <| W.seq <| W.block <| W.seq <| W.seq <| W.region rfl <| zM ag rfl <| zM (I (s2 : Int)) rfl <| s_val (x_ld (v := I s) rfl (ldb_sc Sc3 (H.bl 1) rfl)) ?_
  obtain ⟨⟨go, t⟩, aV, hM⟩ := M.e_bind hM
  (try dsimp only at hM);refine t_yield (L := [cBlk ab [I s] 3]) H aP hY_t2 rfl [I (s2 : Int), I s] rfl ((s2 : Int), s) Reads.none rfl aV ?_;intro aN bn aO H;replace H := H.nf;refine s_val (x_not (b := go) rfl) <| s_nil ?_
  refine W.cond (!go) rfl (fun aq => ?_) (fun aq => ?_)
  ·replace hM := M.e_t hM aq;refine W.ret ?_
   have aW := M.e_inr hM am
   subst aW;replace hM := aL;(try dsimp only at hM)
   have au := M.e_pure hM
   exact ⟨_, resE_tmp0 rfl, ⟨t, s, aN, au, rfl, H, aO⟩⟩
  replace hM := M.e_f hM aq;refine W.skip <| W.region rfl <| s_val (x_fa (v := Pq ac) rfl (fa_blk (o := 0) Fd29_0 Sz22)) <| s_val (x_ld (v := ae) rfl (ldb_sc Sc22 (aK.blk H) rfl)) <| s_val (x_ld (v := I s) rfl (ldb_sc Sc3 (H.bl 1) rfl)) ?_;obtain ⟨bo, hM⟩ := M.e_gd hM;refine s_val (x_ix (v := vat ae 1 (Int.toNat s)) rfl rfl (Sl.ix (α := Int) T22.und T22.size ah (by omega) (by omega))) <| s_val (x_ld (v := I (aa.getD (Int.toNat s) 0)) rfl (ld_sc Sc3 (At.mono (Int_at ah (i := s) (by omega) (by omega)) (aR.at H)))) ?_;refine t_sw 1 0 [I (aa.getD (Int.toNat s) 0)] (I (aa.getD (Int.toNat s) 0)) H rfl rfl Sz3 rfl rfl rfl rfl ?_;intro bp H;refine s_nil <| W.region rfl <| zM (I (s2 : Int)) rfl ?_;obtain ⟨bq, hM⟩ := M.e_gd hM;refine zR (s2 : Int) 1 ((s2 : Int) + 1) rfl rfl rfl (by omega) <| zA (I ((s2 : Int) + 1)) rfl <| s_nil ?_
  exact ⟨aT, aU, aa.getD (Int.toNat s) 0, s2 + 1, t, aN, _, upds_of _ _ ⟨rfl, rfl, rfl, rfl, trivial⟩, M.e_inl hM am, H, aO⟩
 replace hM := M.e_f hM ao;refine W.exit ?_
 have aX := M.e_inr hM am
 subst aX;replace hM := aL;(try dsimp only at hM)
 have au := M.e_pure hM
 exact ⟨_, resE_tmp0 rfl, ⟨t2, s, Ls_t2, au, rfl, H, hY_t2⟩⟩
theorem zei {T_ : Type} {n_ : Nat} {y y' : T_ -> (Int × Int) -> M (Bool × T_)} (h : ∀ s a, M.LeN n_ (y s a) (y' s a)) (t_ : T_) (aa : Int) (ab : List Int) (ac : List Span) (ae : List Int) (ag : List Town) (ah ai : Int) (aj : List Flood) : M.LeN n_ (zai y t_ aa ab ac ae ag ah ai aj) (zai y' t_ aa ab ac ae ag ah ai aj) := by
  simp only [zai, zaP]
  repeat' (first | exact M.le_same _ _ | exact h _ _ | refine M.le_grd ?_ | refine M.le_if ?_ ?_ | refine M.le_bind ?_ (fun x => ?_) | refine M.le_opt ?_ | refine M.le_iter (fun x => ?_) _ | (rename_i x; cases x) | (rename_i x; obtain ⟨_, _⟩ := x))

def zcs (l : List Span) : (Int × Int × Nat) -> M ((Int × Int × Nat) ⊕ (Int × Int)) := fun (s, s2, s3) =>
  bif decide ((s3 : Int) < (l.length : Int)) then (
  M.grd (decide ((s3 : Int) < (l.length : Int))) <|
  M.grd (decide ((-9223372036854775808 : Int) <= (s + ((l.getD s3 default).lo))) && decide ((s + ((l.getD s3 default).lo)) <= (9223372036854775807 : Int))) <|
  M.grd (decide ((-9223372036854775808 : Int) <= (s2 + ((l.getD s3 default).hi))) && decide ((s2 + ((l.getD s3 default).hi)) <= (9223372036854775807 : Int))) <|
  M.pure (.inl (s + ((l.getD s3 default).lo), s2 + ((l.getD s3 default).hi), s3 + 1)))
  else (
  M.pure (.inr (s, s2)))
def zbT (l : List Span) : M (Int × Int) :=
  M.bind (M.iter (zcs l) (0, 0, 0)) fun (s4, s5) =>
  M.pure (s4, s5)
theorem zdS {R : List Chunk} {ah : Cells} {ab : Value} (l : List Span) (am : Reads R ah) (ac : Sl ah ab l) {r : (Int × Int)} (hM : (zbT l).Ends r) (w : World) (H : St w w [] R) : Ret Tryz.prog 76 #[ab] w fun v w' => ∃ (y0 : Int) (y1 : Int), (y0, y1) = r /\ v = .agg #[I y0, I y1] /\ St w w' [] R := by
 refine ret_of_W Tryz.func76 rfl rfl rfl <| W.seq <| W.region rfl ?_;refine t_alloc (cs := [I 0, I 0]) H Al26 rfl ?_;intro ai az H;refine s_nil <| W.seq <| W.region rfl ?_;refine t_alloc (cs := [I 0, I 0]) H Al26 rfl ?_;intro ae aA H;refine s_nil <| W.seq <| W.seq <| W.region rfl <| zM ab rfl ?_
 have aB := (ac).len_le
 refine s_val (x_lenS T23.und rfl ac) <| zM (I 0) rfl <| s_nil <| W.block ?_;obtain ⟨ao, ag, aq⟩ := M.e_bind hM
 obtain ⟨aC, ag⟩ := M.e_iter ag
 refine W.loop (fun m σ W => ∃ (s : Int) (s2 : Int) (s3 : Nat) (ρ : Env), σ = upds ρ [(2, Pq ai), (3, Pq ae), (6, ab), (7, I (l.length : Int)), (8, I (s3 : Int))] /\ M.iterN (zcs l) m (s, s2, s3) = some ao /\ St w W [cBlk ae [I s, I s2] 26, cBlk ai [I 0, I 0] 26] R) ?_ ?_
 ·exact ⟨_, 0, 0, 0, _, upds_of _ _ ⟨rfl, rfl, rfl, rfl, rfl, trivial⟩, ag, H⟩
 rintro aD σ aE ⟨s, s2, s3, ρ, rfl, aj, H⟩
 obtain ⟨au, av, aF, hM, ak⟩ := M.e_iterN aj
 simp only [zcs] at hM
 clear aj;refine W.seq <| W.region rfl <| zC (s3 : Int) (l.length : Int) (decide ((s3 : Int) < (l.length : Int))) rfl rfl rfl <| s_nil <| W.seq ?_
 refine W.cond (decide ((s3 : Int) < (l.length : Int))) rfl (fun aa => ?_) (fun aa => ?_)
 ·replace hM := M.e_t hM aa
  replace aa := dI aa
  refine W.skip <| W.seq <| W.block <| W.seq <| W.region rfl ?_;obtain ⟨aG, hM⟩ := M.e_gd hM;refine s_val (x_ix (v := vat ab 2 (Int.toNat (s3 : Int))) rfl rfl (Sl.ix (α := Span) T23.und T23.size ac (by omega) (by omega))) <| s_val (x_ld (v := .agg #[I ((l.getD s3 default).lo), I ((l.getD s3 default).hi)]) rfl (ld_ag Ag26 Sz26 (At.mono (Span_atA ac (i := (s3 : Int)) (by omega) (by omega)) (am.at H)))) ?_;refine t_alloc (cs := [I 0, I 0]) H Al26 rfl ?_;intro al aH H;refine t_sw 0 0 [I ((l.getD s3 default).lo), I ((l.getD s3 default).hi)] (.agg #[I ((l.getD s3 default).lo), I ((l.getD s3 default).hi)]) H rfl rfl Sz26 rfl rfl rfl rfl ?_;intro aI H;refine s_nil <| W.region rfl <| s_val (x_fa (v := Pq ae) rfl (fa_blk (o := 0) Fd26_0 Sz3)) <| s_val (x_ld (v := I s) rfl (ldb_sc Sc3 (H.bl 1) rfl)) <| s_val (x_fa (v := Pq al) rfl (fa_blk (o := 0) Fd26_0 Sz3)) <| s_val (x_ld (v := I ((l.getD s3 default).lo)) rfl (ldb_sc Sc3 (H.bl 0) rfl)) ?_;obtain ⟨aJ, hM⟩ := M.e_gd hM;refine zR s ((l.getD s3 default).lo) (s + ((l.getD s3 default).lo)) rfl rfl rfl (by omega) <| s_val (x_fa (v := Oq ae 1) rfl (fa_blk (o := 0) Fd26_1 Sz3)) <| s_val (x_ld (v := I s2) rfl (ldb_sc Sc3 (H.bl 1) rfl)) <| s_val (x_fa (v := Oq al 1) rfl (fa_blk (o := 0) Fd26_1 Sz3)) <| s_val (x_ld (v := I ((l.getD s3 default).hi)) rfl (ldb_sc Sc3 (H.bl 0) rfl)) ?_;obtain ⟨aK, hM⟩ := M.e_gd hM;refine zR s2 ((l.getD s3 default).hi) (s2 + ((l.getD s3 default).hi)) rfl rfl rfl (by omega) <| s_val (x_bld (ps := [(0, I (s + ((l.getD s3 default).lo))), (1, I (s2 + ((l.getD s3 default).hi)))]) (zs := [I 0, I 0]) (L' := [I (s + ((l.getD s3 default).lo)), I (s2 + ((l.getD s3 default).hi))]) rfl Tryz.underlying26 Al26 rfl (Bd26 Tryz.underlying26) (.cons (cs := [I (s + ((l.getD s3 default).lo))]) rfl rfl rfl rfl rfl <| .cons (cs := [I (s2 + ((l.getD s3 default).hi))]) rfl rfl rfl rfl rfl <| .nil)) ?_;refine t_sw 1 0 [I (s + ((l.getD s3 default).lo)), I (s2 + ((l.getD s3 default).hi))] (.agg #[I (s + ((l.getD s3 default).lo)), I (s2 + ((l.getD s3 default).hi))]) H rfl rfl Sz26 rfl rfl rfl rfl ?_;intro aL H;refine s_nil <| W.region rfl <| zR (s3 : Int) 1 ((s3 : Int) + 1) rfl rfl rfl (by omega) <| zM (I ((s3 : Int) + 1)) rfl <| s_nil ?_
  exact ⟨au, av, s + ((l.getD s3 default).lo), s2 + ((l.getD s3 default).hi), s3 + 1, _, upds_of _ _ ⟨rfl, rfl, rfl, rfl, rfl, trivial⟩, M.e_inl hM ak, (H.pk [1, 2])⟩
 replace hM := M.e_f hM aa
 replace aa := dI aa
 refine W.exit ?_
 have aw := M.e_inr hM ak
 subst aw;replace hM := aq;(try dsimp only at hM);refine W.seq <| W.region rfl <| s_val (x_ld (v := .agg #[I s, I s2]) rfl (ldb_ag (ds := [I s, I s2]) Ag26 Sz26 (H.bl 0) rfl rfl)) ?_;refine t_sw 1 0 [I s, I s2] (.agg #[I s, I s2]) H rfl rfl Sz26 rfl rfl rfl rfl ?_;intro aM H;refine s_nil ?_;refine W.ret ?_
 have ax := (H.bl 1)
 have ay := M.e_pure hM
 exact ⟨_, (resE_of1 (v := .agg #[I s, I s2]) rfl (.cell (v := .agg #[I s, I s2]) rfl (run_loadVar_ag (ds := [I s, I s2]) Ag26 Sz26 ax rfl rfl) <| .nil)), ⟨s, s2, ay, rfl, (H.pk [])⟩⟩

def zaY (aa : List Span) (ab : Int) : (List Span) -> (Int × Int) -> M ((List Span) ⊕ ((List Span) × (List Span) × Int × Int)) := fun l (x, x2) =>
  bif x2 == ab then (
  M.bind (zbT l) fun (r0, r1) =>
  M.pure (.inr (l, l, r0, r1)))
  else (
  M.grd (decide ((0 : Int) <= x2) && decide (x2 < (aa.length : Int))) <|
  M.grd (decide ((l.length + ([(aa.getD (Int.toNat x2) default)]).length) * 16 <= 140737488355328)) <|
  M.pure (.inl (l ++ ([(aa.getD (Int.toNat x2) default)]))))
def za2 (ab : List Int) (aa : List Span) (ac : List Int) (ae : List Town) (ah ai : Int) (ag : List Flood) (aj ak : Int) : M (Int × Int × Bool) :=
  M.bind (zam ab aa ac ae ah ai ag aj) fun (al, am, ao) =>
  M.bind (zai (M.yl (zaY aa ak)) (.inl ([])) al ab aa ac ae am ao ag) fun x_ => match x_ with
  | (.inl l, q0) => (
  M.pure (0, 0, false))
  | (.inr (l2, l3, s, s2), q0) => (
  M.pure (s, s2, true))
theorem zdx {R : List Chunk} {ac : Nat} {bc : Cells} {aj : Value} {bf : Cells} {ag : Value} {bg : Cells} {ak : Value} {bh : Cells} {al : Value} {bi : Cells} {am : Value} {bn : Nat} (aL : List Int) (aa : List Span) (aM : List Int) (aN : List Town) (aC : Int) (aD : Int) (aO : List Flood) (aG : Int) (ab : Int) (aP : Reads R bc) (aX : Sl bc aj aL) (aH : Reads R bf) (aI : Sl bf ag aa) (aQ : Reads R bg) (aY : Sl bg ak aM) (aR : Reads R bh) (aZ : Sl bh al aN) (aS : Reads R bi) (a6 : Sl bi am aO) (aT : Has R (cBlk ac [aj, ag, ak, al, I aC, I aD, am, .map (some bn)] 111)) {r : (Int × Int × Bool)} (hM : (za2 aL aa aM aN aC aD aO aG ab).Ends r) (w : World) (H : St w w [] R) : Ret Tryz.prog 74 #[Pq ac, I aG, I ab] w fun v w' => ∃ (y0 : Int) (y1 : Int) (y2 : Bool), (y0, y1, y2) = r /\ v = .tuple #[.agg #[I y0, I y1], B y2] /\ St w w' [] R := by
 refine ret_of_WD Tryz.func74 rfl rfl rfl ?_
 replace H : St w w [cMk ([])] R := H.mk0
 have bF := aX.len_le
 have bG := aI.len_le
 have bH := aY.len_le
 have bI := aZ.len_le
 have bJ := a6.len_le
 unfold za2 at hM
 refine WD.seq <| WD.of <| W.region rfl ?_;refine t_b1 (Pq ac) H rfl rfl ?_;intro az bK H;refine t_b1 (I ab) H rfl rfl ?_;intro aA bL H;refine t_alloc (cs := [I 0, I 0]) H Al26 rfl ?_;intro ah bM H;refine t_alloc (cs := [B false]) H Al4 rfl ?_;intro ai bN H;refine s_nil <| WD.seq <| WD.of <| W.region rfl ?_;refine t_alloc (cs := [.slice none 0 0]) H Al23 rfl ?_;intro ao bO H;refine s_nil <| WD.seq <| WD.seq <| WD.of <| W.region rfl <| s_val (x_ld (v := Pq ac) rfl (ldb_sc Sc94 (H.bl 4) rfl)) <| s_val (x_nc (a := ⟨ac, 0, none⟩) rfl) <| s_val (x_fa (v := Pq ac) rfl (fa_blk (o := 0) Fd111_0 Sz29)) <| s_val (x_ld (v := .agg #[aj, ag, ak, al, I aC, I aD, am]) rfl (ldb_ag (ds := [aj, ag, ak, al, I aC, I aD, am]) Ag29 Sz29 (aT.blk H) rfl rfl)) <| zM (I aG) rfl ?_;obtain ⟨bP, bo, hM⟩ := M.e_bind hM;refine s_call cf66 [.agg #[aj, ag, ak, al, I aC, I aD, am], I aG] rfl (zce aL aa aM aN aC aD aO aG (aP.app _) aX (aH.app _) aI (aQ.app _) aY (aR.app _) aZ (aS.app _) a6 bo _ (H.gt 6)) ?_
 rintro vq bQ ⟨aU, aq, au, aE, av, rfl, hvq, aw⟩
 subst vq;(try dsimp only at hM);replace H := H.bk aw;clear aw;refine s_nil <| WD.block ?_
 replace H := H.nilOwn (α := Span) 26
 obtain ⟨bR, bp, hM⟩ := M.e_bind hM;refine WD.range (L := [cOwn (α := Span) 26 (.slice none 0 0) ([]), cBlk ao [(.slice none 0 0)] 23, cBlk ai [B false] 4, cBlk ah [I 0, I 0] 26, cBlk av [aj, ag, ak, al, I aq, I au, am] 29, cBlk aA [I ab] 3, cBlk az [Pq ac] 94, cBlk aE [I aU] 3]) [Pq aE, Pq av] (H.pk [8, 0, 3, 4, 5, 2, 6, 7, 1]) rfl cf96 ?_;intro aV aW a7 bq a8 H
 have hYC : YieldC Tryz.prog ([cMk (aW :: ([])), cBlk av [aj, ag, ak, al, I aq, I au, am] 29, cBlk aA [I ab] 3, cBlk az [Pq ac] 94] ++ R) arII (yJ aV a7 (fun l ax => ∃ (ae : Value), ax = [cOwn (α := Span) 26 ae l, cBlk ao [ae] 23, cBlk ai [B false] 4, cBlk ah [I 0, I 0] 26]) (fun (l2, l3, s, s2) ax => ∃ (ay : Value), ax = [cOwn (α := Span) 26 ay l3, cBlk ao [ay] 23, cBlk ai [B true] 4, cBlk ah [I s, I s2] 26]) (fun _ => .ret)) (.func (.yield aV) #[] #[]) (M.yl (zaY aa ab)) := by
  refine YieldC.mk a8 (fun l ax => ∃ (ae : Value), ax = [cOwn (α := Span) 26 ae l, cBlk ao [ae] 23, cBlk ai [B false] 4, cBlk ah [I 0, I 0] 26]) (fun (l2, l3, s, s2) ax => ∃ (ay : Value), ax = [cOwn (α := Span) 26 ay l3, cBlk ao [ay] 23, cBlk ai [B true] 4, cBlk ah [I s, I s2] 26]) (fun _ => .ret) (zaY aa ab) (by rintro l _ h_; obtain ⟨_, rfl⟩ := h_; rfl) (by rintro ⟨l2, l3, s, s2⟩ _ h_; (obtain ⟨_, rfl⟩ := h_; rfl)) rfl (arII_len rfl) ?_;intro C_ bS x_ W_ br
  obtain ⟨x, x2⟩ := x_
  obtain rfl := br
  refine W.region rfl <| zA (I x2) rfl <| s_nil ?_
  refine ⟨rfl, rfl, ?_⟩
  intro w R aF ax s_ r bt hM H
  skip
  obtain ⟨l, bu⟩ : ∃ y_, y_ = s_ := ⟨_, rfl⟩
  subst bu
  obtain ⟨ae, rfl⟩ := bt
  replace aP := aP.sub aF
  replace aH := aH.sub aF
  replace aQ := aQ.sub aF
  replace aR := aR.sub aF
  replace aS := aS.sub aF
  replace aT := aT.sub aF
  replace hM : (zaY aa ab l (x, x2)).Ends r := hM
  simp only [zaY] at hM
  replace H := H.pk [0, 1, 2, 3, 5, 6, 7, 4];refine W.block <| W.seq <| W.seq <| W.region rfl <| zM (I x2) rfl <| s_val (x_ld (v := I ab) rfl (ldb_sc Sc3 (H.bl 5) rfl)) <| zC x2 ab (x2 == ab) rfl rfl rfl <| s_nil ?_
  refine W.cond (x2 == ab) rfl (fun aB => ?_) (fun aB => ?_)
  ·replace hM := M.e_t hM aB
   replace aB := dI aB
   refine W.seq <| W.region rfl <| s_val (x_ld (v := ae) rfl (ldb_sc Sc23 (H.bl 1) rfl)) ?_;obtain ⟨bT, bv, hM⟩ := M.e_bind hM;refine s_call cf76 [ae] rfl (zdS l (rdo 0) (H.os 0) bv _ (H.gt 8)) ?_
   rintro vq bU ⟨r0, r1, rfl, hvq, aw⟩
   subst vq;(try dsimp only at hM);replace H := H.bk aw;clear aw;refine t_sw 3 0 [I r0, I r1] (.agg #[I r0, I r1]) H rfl rfl Sz26 rfl rfl rfl rfl ?_;intro bV H;refine t_sw 2 0 [B true] (B true) H rfl rfl Sz4 rfl rfl rfl rfl ?_;intro bW H;refine s_nil ?_;refine W.ret ?_
   exact ⟨(l, l, r0, r1), [cOwn (α := Span) 26 ae l, cBlk ao [ae] 23, cBlk ai [B true] 4, cBlk ah [I r0, I r1] 26], (M.e_pure hM).symm, ⟨ae, rfl⟩, H.pick [0, 1, 2, 3, 7, 4, 5, 6] (by decide) rfl, rfl⟩
  replace hM := M.e_f hM aB
  replace aB := dI aB
  refine W.skip ?_;refine W.drawT (fun W => St w W [cBlk ai [B false] 4, cBlk ah [I 0, I 0] 26, cBlk av [aj, ag, ak, al, I aq, I au, am] 29, cBlk aA [I ab] 3, cBlk az [Pq ac] 94, cMk (aW :: ([]))] R) (.q 1 (.q 2 (.q 3 (.q 4 (.q 5 (.q 6 (.q 7 (.q 8 (.l2 0 (.l 9 (.l 10 (.l 11 .nil))) 9 (.l 0 (.l 10 (.l 11 .nil)))))))))))) mixed (by decide +kernel) rfl ?_;intro bX bj;replace H := H.ext bj;clear bj
  refine ⟨(H.pk [2, 3, 4, 5, 6, 7]), ?_⟩
  refine t_q rfl (fun w' H => x_ld (v := Pq ac) rfl (ldb_sc Sc94 (H.bl 4) rfl)) <| t_q rfl (fun w' H => x_nc (a := ⟨ac, 0, none⟩) rfl) <| t_q rfl (fun w' H => x_fa (v := Pq ac) rfl (fa_blk (o := 0) Fd111_0 Sz29)) <| t_q rfl (fun w' H => x_fa (v := Oq ac 1) rfl (fa_blk (o := 0) Fd29_1 Sz23)) <| t_q rfl (fun w' H => x_ld (v := ag) rfl (ldb_sc Sc23 (aT.blk H) rfl)) <| t_q rfl (fun w' H => x_mv (v := I x2) rfl) ?_;obtain ⟨bY, hM⟩ := M.e_gd hM;refine t_q rfl (fun w' H => x_ix (v := vat ag 2 (Int.toNat x2)) rfl rfl (Sl.ix (α := Span) T23.und T23.size aI (by omega) (by omega))) <| t_q rfl (fun w' H => x_ld (v := .agg #[I ((aa.getD (Int.toNat x2) default).lo), I ((aa.getD (Int.toNat x2) default).hi)]) rfl (ld_ag Ag26 Sz26 (At.mono (Span_atA aI (i := x2) (by omega) (by omega)) (aH.at H)))) ?_;obtain ⟨bZ, hM⟩ := M.e_gd hM;refine t_l2 rfl rfl ?_ ?_
  ·skip
   refine s_val (x_ld (v := ae) rfl (ldb_sc Sc23 (H.bl 1) rfl)) ?_
   have b4 := Sl.cells (H.os 0)
   have b7 := Sl.oc (H.os 0)
   refine s_nil ⟨(H.pk [2, 3, 4, 5, 6, 7]), ?_⟩
   refine t_l rfl ?_;refine t_bs (α := Span) T23 [.agg #[I ((aa.getD (Int.toNat x2) default).lo), I ((aa.getD (Int.toNat x2) default).hi)]] [(aa.getD (Int.toNat x2) default)] H rfl (.cons rfl (Flat.rep_enc _ (aa.getD (Int.toNat x2) default)) <| .nil) rfl rfl rfl ?_;intro bw b8 H
   have b9 := Sl.cells (H.os 0)
   have ca := Sl.oc (H.os 0)
   refine s_nil ⟨(H.pk [3, 4, 5, 6, 7, 8]), ?_⟩
   refine t_l rfl ?_;refine t_app (α := Span) (k := 1) (l := l) (l2 := [(aa.getD (Int.toNat x2) default)]) (l' := l ++ ([(aa.getD (Int.toNat x2) default)])) (vy := bw) T23 rfl H rfl rfl rfl (H.os 0) (H.ol 0) (rfl) (by first | omega | (simp only [List.length_nil] at *; omega)) ?_;intro aJ cb H;replace H := H.nf
   have cc := Sl.cells (H.os 1)
   have ce := Sl.oc (H.os 1)
   refine s_nil ⟨(H.pk [3, 4, 5, 6, 7, 8]), ?_⟩
   refine t_l rfl ?_;refine t_sw 2 0 [aJ] aJ H rfl rfl Sz23 (Sl.cells (H.os 1)) rfl rfl (by simp only [List.all_cons, List.all_nil, Bool.true_and, Bool.and_true, Sl.oc (H.os 1)]; try rfl) ?_;intro cf H
   refine s_nil ⟨(H.pk [3, 4, 5, 6, 7, 8]), ?_⟩
   refine t_nil ?_
   exact ⟨l ++ ([(aa.getD (Int.toNat x2) default)]), [cOwn (α := Span) 26 aJ (l ++ ([(aa.getD (Int.toNat x2) default)])), cBlk ao [aJ] 23, cBlk ai [B false] 4, cBlk ah [I 0, I 0] 26], (M.e_pure hM).symm, ⟨aJ, rfl⟩, H.pick [1, 2, 3, 4, 8, 5, 6, 7] (by decide) rfl⟩
  skip
  refine t_bs (α := Span) T23 [.agg #[I ((aa.getD (Int.toNat x2) default).lo), I ((aa.getD (Int.toNat x2) default).hi)]] [(aa.getD (Int.toNat x2) default)] H rfl (.cons rfl (Flat.rep_enc _ (aa.getD (Int.toNat x2) default)) <| .nil) rfl rfl rfl ?_;intro bx cg H
  have ck := Sl.cells (H.os 0)
  have cl := Sl.oc (H.os 0)
  have cm := Sl.cells (H.os 1)
  have cn := Sl.oc (H.os 1)
  refine s_nil ⟨(H.pk [3, 4, 5, 6, 7, 8]), ?_⟩
  refine t_l rfl <| s_val (x_ld (v := ae) rfl (ldb_sc Sc23 (H.bl 2) rfl)) ?_
  refine s_nil ⟨(H.pk [3, 4, 5, 6, 7, 8]), ?_⟩
  refine t_l rfl ?_;refine t_app (α := Span) (k := 1) (l := l) (l2 := [(aa.getD (Int.toNat x2) default)]) (l' := l ++ ([(aa.getD (Int.toNat x2) default)])) (vy := bx) T23 rfl H rfl rfl rfl (H.os 0) (H.ol 0) (rfl) (by first | omega | (simp only [List.length_nil] at *; omega)) ?_;intro aK co H;replace H := H.nf
  have cp := Sl.cells (H.os 1)
  have cq := Sl.oc (H.os 1)
  refine s_nil ⟨(H.pk [3, 4, 5, 6, 7, 8]), ?_⟩
  refine t_l rfl ?_;refine t_sw 2 0 [aK] aK H rfl rfl Sz23 (Sl.cells (H.os 1)) rfl rfl (by simp only [List.all_cons, List.all_nil, Bool.true_and, Bool.and_true, Sl.oc (H.os 1)]; try rfl) ?_;intro cu H
  refine s_nil ⟨(H.pk [3, 4, 5, 6, 7, 8]), ?_⟩
  refine t_nil ?_
  exact ⟨l ++ ([(aa.getD (Int.toNat x2) default)]), [cOwn (α := Span) 26 aK (l ++ ([(aa.getD (Int.toNat x2) default)])), cBlk ao [aK] 23, cBlk ai [B false] 4, cBlk ah [I 0, I 0] 26], (M.e_pure hM).symm, ⟨aK, rfl⟩, H.pick [1, 2, 3, 4, 8, 5, 6, 7] (by decide) rfl⟩
 replace H : St w bq (cAll (cObj aV (.loop a7) :: [cOwn (α := Span) 26 (.slice none 0 0) ([]), cBlk ao [(.slice none 0 0)] 23, cBlk ai [B false] 4, cBlk ah [I 0, I 0] 26]) :: [cBlk aE [I aU] 3, cMk (aW :: ([])), cBlk av [aj, ag, ak, al, I aq, I au, am] 29, cBlk aA [I ab] 3, cBlk az [Pq ac] 94]) R := St.bundleB (A := cObj aV (.loop a7) :: [cOwn (α := Span) 26 (.slice none 0 0) ([]), cBlk ao [(.slice none 0 0)] 23, cBlk ai [B false] 4, cBlk ah [I 0, I 0] 26]) (T := [cBlk aE [I aU] 3, cMk (aW :: ([])), cBlk av [aj, ag, ak, al, I aq, I au, am] 29, cBlk aA [I ab] 3, cBlk az [Pq ac] 94]) rfl (H.pk [0, 2, 3, 4, 5, 9, 1, 6, 7, 8])
 refine (zcb (M.yl (zaY aa ab)) (.inl ([])) aU aL aa aM aN aq au aO hYC ⟨_, rfl, ⟨(.slice none 0 0), rfl⟩⟩ (aP.app _) aX (aH.app _) aI (aQ.app _) aY (aR.app _) aZ (aS.app _) a6 (Has.here (k := 1) rfl) bp _ (H.gt 4)).mono ?_
 rintro vq cw ⟨bz, q0, cx, rfl, hvq, aw, bm⟩
 replace H := H.back aw rfl
 clear aw hYC
 rcases bz with l | ⟨l2, l3, s, s2⟩
 ·(try dsimp only at hM)
  obtain ⟨_, rfl, ae, rfl⟩ := bm
  refine ⟨_, [cOwn (α := Span) 26 ae l, cBlk ao [ae] 23, cBlk ai [B false] 4, cBlk ah [I 0, I 0] 26, cBlk av [aj, ag, ak, al, I aq, I au, am] 29, cBlk aA [I ab] 3, cBlk az [Pq ac] 94, cBlk aE [I q0] 3], H.unbundle.pick [0, 6, 1, 2, 3, 4, 7, 8, 9, 5] (by decide) rfl, a8.nb, ?_⟩
  intro bA H
  rw [a8.pd]
  replace H := H.nf
  try simp only []
  replace H := H.pk [0, 3, 4];refine WD.seq <| WD.of <| W.region rfl <| s_val (x_bld (ps := []) (zs := [I 0, I 0]) (L' := [I 0, I 0]) rfl Tryz.underlying26 Al26 rfl (Bd26 Tryz.underlying26) (.nil)) ?_;refine t_sw 2 0 [I 0, I 0] (.agg #[I 0, I 0]) H rfl rfl Sz26 rfl rfl rfl rfl ?_;intro cy H;refine t_sw 1 0 [B false] (B false) H rfl rfl Sz4 rfl rfl rfl rfl ?_;intro cz H;refine s_nil <| WD.of ?_;refine W.ret ?_;refine bodyD_r (H.pk [0, 1, 2]) ?_;intro cA H;replace H := H.nf
  have bB := (H.bl 1)
  have bC := (H.bl 0)
  have ba := M.e_pure hM
  exact ⟨_, (resE_ofn (vs := [.agg #[I 0, I 0], B false]) rfl rfl (.cell (v := .agg #[I 0, I 0]) rfl (run_loadVar_ag (ds := [I 0, I 0]) Ag26 Sz26 bB rfl rfl) <| .cell (v := B false) rfl (run_loadVar_sc Sc4 bC rfl) <| .nil)), ⟨0, 0, false, ba, rfl, (H.pk [])⟩⟩
 (try dsimp only at hM)
 obtain ⟨_, rfl, ay, rfl⟩ := bm
 refine ⟨_, [cOwn (α := Span) 26 ay l3, cBlk ao [ay] 23, cBlk ai [B true] 4, cBlk ah [I s, I s2] 26, cBlk av [aj, ag, ak, al, I aq, I au, am] 29, cBlk aA [I ab] 3, cBlk az [Pq ac] 94, cBlk aE [I q0] 3], H.unbundle.pick [0, 6, 1, 2, 3, 4, 7, 8, 9, 5] (by decide) rfl, nofun, ?_⟩
 intro bA H
 show WD _ _ _ (.ret) _ _ _
 refine WD.of ?_;refine W.ret ?_;replace H := H.nf;refine bodyD_r (H.pk [0, 1, 2, 3, 4, 5, 6, 7, 8]) ?_;intro cB H;replace H := H.nf
 have bD := (H.bl 3)
 have bE := (H.bl 2)
 have ba := M.e_pure hM
 exact ⟨_, (resE_ofn (vs := [.agg #[I s, I s2], B true]) rfl rfl (.cell (v := .agg #[I s, I s2]) rfl (run_loadVar_ag (ds := [I s, I s2]) Ag26 Sz26 bD rfl rfl) <| .cell (v := B true) rfl (run_loadVar_sc Sc4 bE rfl) <| .nil)), ⟨s, s2, true, ba, rfl, (H.pk [])⟩⟩

def zaT (ac : List Int) (ae : List Span) (ag : List Int) (aa : List Town) (ah ab : Int) (ai : List Flood) (d : Dem) : (List Int) -> (Int × Int) -> M ((List Int) ⊕ Unit) := fun l (x, x2) =>
  M.bind (za2 ac ae ag aa ah ab ai x2 ((aa.getD (Int.toNat d.town) default).station)) fun (aj, ak, r1) =>
  M.grd ((!r1 || (decide ((-9223372036854775808 : Int) <= (((aa.getD (Int.toNat d.town) default).lead) + ab)) && decide ((((aa.getD (Int.toNat d.town) default).lead) + ab) <= (9223372036854775807 : Int))))) <|
  bif (r1 && (decide ((((aa.getD (Int.toNat d.town) default).lead) + ab) <= aj))) then (
  M.grd (decide ((l.length + ([(x2 : Int)]).length) * 8 <= 140737488355328)) <|
  M.pure (.inl (l ++ ([(x2 : Int)]))))
  else (
  M.pure (.inl l))
def zaa (ab : List Int) (ac : List Span) (ae : List Int) (aa : List Town) (ah ai : Int) (ag : List Flood) (d : Dem) : M (List Int) :=
  M.grd (decide ((0 : Int) <= d.town) && decide (d.town < (aa.length : Int))) <|
  M.bind (zam ab ac ae aa ah ai ag d.spring) fun (aj, ak, al) =>
  M.bind (zai (M.yl (zaT ab ac ae aa ah ai ag d)) (.inl ([])) aj ab ac ae aa ak al ag) fun x_ => match x_ with
  | (.inl l, q0) => (
  M.pure l)
  | (.inr _, _) => M.fail
theorem zbH {R : List Chunk} {ab : Nat} {bo : Cells} {az : Value} {bp : Cells} {aA : Value} {bq : Cells} {aB : Value} {br : Cells} {al : Value} {bt : Cells} {aC : Value} {ah : Nat} {ai : Base} (av : List Int) (aw : List Span) (ax : List Int) (aa : List Town) (ak : Int) (ae : Int) (ay : List Flood) (d : Dem) (aP : Reads R bo) (aV : Sl bo az av) (aQ : Reads R bp) (aW : Sl bp aA aw) (aR : Reads R bq) (aX : Sl bq aB ax) (aL : Reads R br) (aM : Sl br al aa) (aS : Reads R bt) (aY : Sl bt aC ay) (aF : Has R (cBlk ab [az, aA, aB, al, I ak, I ae, aC, .map (some ah)] 111)) {r : (List Int)} (hM : (zaa av aw ax aa ak ae ay d).Ends r) (w : World) (H : St w w [cMem encDm ah ai (zaa av aw ax aa ak ae ay)] R) : Ret Tryz.prog 81 #[Pq ab, .agg #[I d.spring, I d.town]] w fun v w' => ∃ (y0 : List Int) (u0 : Value) (bu : Base), y0 = r /\ v = u0 /\ St w w' [cMem encDm ah bu (zaa av aw ax aa ak ae ay)] R /\ Sl bu.cells u0 y0 := by
 refine ret_of_WD Tryz.func81 rfl rfl rfl ?_
 replace H : St w w [cMk ([]), cMem encDm ah ai (zaa av aw ax aa ak ae ay)] R := H.mk0
 have bM := aV.len_le
 have bN := aW.len_le
 have bO := aX.len_le
 have bP := aM.len_le
 have bQ := aY.len_le
 unfold zaa at hM
 have hM0 := hM
 obtain ⟨am, H, ba⟩ := St.memOpen H (i := 1) rfl
 replace H := H.nf
 cases bc : am d with
 | none =>
  refine WD.seq <| WD.of <| W.region rfl ?_;refine t_b1 (Pq ab) H rfl rfl ?_;intro ao bR H;refine t_bx [I d.spring, I d.town] H rfl ?_;intro aj bS H;refine zA (.slice none 0 0) rfl <| s_nil <| WD.seq <| WD.seq <| WD.of ?_;refine W.draw (fun W => St w W [cBlk aj [I d.spring, I d.town] 61, cBlk ao [Pq ab] 94, cRx ai, cMk ([])] R) [(0, true), (1, true), (2, true), (3, true), (4, true), (5, false), (6, true), (7, true), (8, true), (9, true), (10, true)] mixed (by decide +kernel) rfl ?_;intro bT ag;replace H := H.ext ag;clear ag
  refine ⟨(H.pk [0, 1, 3, 4]), ?_⟩
  refine d_q rfl (fun w' H => x_ld (v := Pq ab) rfl (ldb_sc Sc94 (H.bl 1) rfl)) <| d_q rfl (fun w' H => x_nc (a := ⟨ab, 0, none⟩) rfl) <| d_q rfl (fun w' H => x_fa (v := Oq ab 7) rfl (fa_blk (o := 0) Fd111_1 Sz109)) <| d_q rfl (fun w' H => x_ld (v := .map (some ah)) rfl (ldb_sc Sc109 (aF.blk H) rfl)) <| d_q rfl (fun w' H => x_ld (v := .agg #[I d.spring, I d.town]) rfl (ldb_ag (ds := [I d.spring, I d.town]) Ag61 Sz61 (H.bl 0) rfl rfl)) <| d_l rfl <| s_val (q_look (kenc := encDm) (venc := id) (f := am) (k := d) (z := .slice none 0 0) (v := .tuple #[.slice none 0 0, B false]) keyDem Tryz.underlying109 (by kernel_rfl) rfl rfl (H.get (k := 2) rfl) true (by simp [bc])) ?_
  refine s_nil ⟨(H.pk [0, 1, 3, 4]), ?_⟩
  refine d_q rfl (fun w' H => x_mv (v := .tuple #[.slice none 0 0, B false]) rfl) <| d_q rfl (fun w' H => x_ext (vs := [.slice none 0 0, B false]) (v := .slice none 0 0) rfl rfl) <| d_q rfl (fun w' H => x_ext (vs := [.slice none 0 0, B false]) (v := B false) rfl rfl) <| d_q rfl (fun w' H => x_as (v := .slice none 0 0) rfl) <| d_q rfl (fun w' H => x_as (v := B false) rfl) ?_;refine d_nil <| WD.seq <| WD.of <| W.region rfl <| zM (B false) rfl <| s_nil ?_
  refine WD.cond false rfl (fun bv => ?_) (fun bv => ?_)
  ·skip
   exact absurd bv (by decide)
  skip
  refine WD.of <| W.skip <| WD.seq <| WD.of <| W.region rfl ?_;refine t_alloc (cs := [.slice none 0 0]) H Al22 rfl ?_;intro aq bU H;refine s_nil <| WD.seq <| WD.of ?_;refine W.draw (fun W => St w W [cBlk aq [.slice none 0 0] 22, cBlk aj [I d.spring, I d.town] 61, cBlk ao [Pq ab] 94, cMap encDm id ah am, cRx ai, cMk ([])] R) [(0, true), (1, true), (2, true), (3, true), (4, true), (5, true), (6, true), (7, true), (8, true), (9, false), (10, false)] mixed (by decide +kernel) rfl ?_;intro bV ag;replace H := H.ext ag;clear ag
  refine ⟨(H.pk [0, 1, 2, 3, 4, 5]), ?_⟩
  refine d_q rfl (fun w' H => x_ld (v := Pq ab) rfl (ldb_sc Sc94 (H.bl 2) rfl)) <| d_q rfl (fun w' H => x_nc (a := ⟨ab, 0, none⟩) rfl) <| d_q rfl (fun w' H => x_fa (v := Pq ab) rfl (fa_blk (o := 0) Fd111_0 Sz29)) <| d_q rfl (fun w' H => x_fa (v := Oq ab 3) rfl (fa_blk (o := 0) Fd29_3 Sz24)) <| d_q rfl (fun w' H => x_ld (v := al) rfl (ldb_sc Sc24 (aF.blk H) rfl)) <| d_q rfl (fun w' H => x_fa (v := Oq aj 1) rfl (fa_blk (o := 0) Fd61_1 Sz3)) <| d_q rfl (fun w' H => x_ld (v := I d.town) rfl (ldb_sc Sc3 (H.bl 1) rfl)) ?_;obtain ⟨bW, hM⟩ := M.e_gd hM;refine d_q rfl (fun w' H => x_ix (v := vat al 3 (Int.toNat d.town)) rfl rfl (Sl.ix (α := Town) T24.und T24.size aM (by omega) (by omega))) <| d_q rfl (fun w' H => x_ld (v := .agg #[I ((aa.getD (Int.toNat d.town) default).station), I ((aa.getD (Int.toNat d.town) default).lead), I ((aa.getD (Int.toNat d.town) default).alarm)]) rfl (ld_ag Ag91 Sz91 (At.mono (Town_atA aM (i := d.town) (by omega) (by omega)) (aL.at H)))) <| d_l rfl ?_;refine t_alloc (cs := [I 0, I 0, I 0]) H Al91 rfl ?_;intro aD bX H
  refine s_nil ⟨(H.pk [1, 2, 3, 4, 5, 6]), ?_⟩
  refine d_l rfl ?_;refine t_sw 0 0 [I ((aa.getD (Int.toNat d.town) default).station), I ((aa.getD (Int.toNat d.town) default).lead), I ((aa.getD (Int.toNat d.town) default).alarm)] (.agg #[I ((aa.getD (Int.toNat d.town) default).station), I ((aa.getD (Int.toNat d.town) default).lead), I ((aa.getD (Int.toNat d.town) default).alarm)]) H rfl rfl Sz91 rfl rfl rfl rfl ?_;intro bY H
  refine s_nil ⟨(H.pk [1, 2, 3, 4, 5, 6]), ?_⟩
  refine d_nil <| WD.seq <| WD.seq <| WD.of ?_;refine W.draw (fun W => St w W [cBlk aD [I ((aa.getD (Int.toNat d.town) default).station), I ((aa.getD (Int.toNat d.town) default).lead), I ((aa.getD (Int.toNat d.town) default).alarm)] 91, cBlk aq [.slice none 0 0] 22, cBlk aj [I d.spring, I d.town] 61, cBlk ao [Pq ab] 94, cMap encDm id ah am, cRx ai, cMk ([])] R) [(0, true), (1, true), (2, true), (3, true), (4, true), (5, true), (6, false)] mixed (by decide +kernel) rfl ?_;intro bZ ag;replace H := H.ext ag;clear ag
  refine ⟨(H.pk [0, 1, 2, 3, 4, 5, 6]), ?_⟩
  refine d_q rfl (fun w' H => x_ld (v := Pq ab) rfl (ldb_sc Sc94 (H.bl 3) rfl)) <| d_q rfl (fun w' H => x_nc (a := ⟨ab, 0, none⟩) rfl) <| d_q rfl (fun w' H => x_fa (v := Pq ab) rfl (fa_blk (o := 0) Fd111_0 Sz29)) <| d_q rfl (fun w' H => x_ld (v := .agg #[az, aA, aB, al, I ak, I ae, aC]) rfl (ldb_ag (ds := [az, aA, aB, al, I ak, I ae, aC]) Ag29 Sz29 (aF.blk H) rfl rfl)) <| d_q rfl (fun w' H => x_fa (v := Pq aj) rfl (fa_blk (o := 0) Fd61_0 Sz3)) <| d_q rfl (fun w' H => x_ld (v := I d.spring) rfl (ldb_sc Sc3 (H.bl 2) rfl)) <| d_l rfl ?_;obtain ⟨b4, bz, hM⟩ := M.e_bind hM;refine s_call cf66 [.agg #[az, aA, aB, al, I ak, I ae, aC], I d.spring] rfl (zce av aw ax aa ak ae ay d.spring (aP.app _) aV (aQ.app _) aW (aR.app _) aX (aL.app _) aM (aS.app _) aY bz _ (H.gt 7)) ?_
  rintro vq b7 ⟨aZ, aH, aI, aT, aJ, rfl, hvq, aG⟩
  subst vq;(try dsimp only at hM);replace H := H.bk aG;clear aG
  refine s_nil ⟨(H.pk [2, 3, 4, 5, 6, 7, 8]), ?_⟩
  refine d_nil <| WD.block ?_
  replace H := H.nilOwn (α := Int) 3
  obtain ⟨b8, bA, hM⟩ := M.e_bind hM;refine WD.range (L := [cOwn (α := Int) 3 (.slice none 0 0) ([]), cBlk aq [(.slice none 0 0)] 22, cBlk aJ [az, aA, aB, al, I aH, I aI, aC] 29, cBlk aD [I ((aa.getD (Int.toNat d.town) default).station), I ((aa.getD (Int.toNat d.town) default).lead), I ((aa.getD (Int.toNat d.town) default).alarm)] 91, cBlk aj [I d.spring, I d.town] 61, cBlk ao [Pq ab] 94, cMap encDm id ah am, cRx ai, cBlk aT [I aZ] 3]) [Pq aT, Pq aJ] (H.pk [9, 0, 4, 2, 3, 5, 6, 7, 8, 1]) rfl cf96 ?_;intro a6 aN bf bB bg H
  have hYC : YieldC Tryz.prog ([cMk (aN :: ([])), cBlk aJ [az, aA, aB, al, I aH, I aI, aC] 29, cBlk aD [I ((aa.getD (Int.toNat d.town) default).station), I ((aa.getD (Int.toNat d.town) default).lead), I ((aa.getD (Int.toNat d.town) default).alarm)] 91, cBlk aj [I d.spring, I d.town] 61, cBlk ao [Pq ab] 94, cMap encDm id ah am, cRx ai] ++ R) arII (yJ a6 bf (fun l a7 => ∃ (ac : Value), a7 = [cOwn (α := Int) 3 ac l, cBlk aq [ac] 22]) (fun (_ : Unit) _ => False) (fun _ => .ret)) (.func (.yield a6) #[] #[]) (M.yl (zaT av aw ax aa ak ae ay d)) := by
   refine YieldC.mk bg (fun l a7 => ∃ (ac : Value), a7 = [cOwn (α := Int) 3 ac l, cBlk aq [ac] 22]) (fun (_ : Unit) _ => False) (fun _ => .ret) (zaT av aw ax aa ak ae ay d) (by rintro l _ h_; obtain ⟨_, rfl⟩ := h_; rfl) (fun _ _ h_ => h_.elim) rfl (arII_len rfl) ?_;intro C_ b9 x_ W_ bC
   obtain ⟨x, x2⟩ := x_
   obtain rfl := bC
   refine W.region rfl <| zA (I x2) rfl <| s_nil ?_
   refine ⟨rfl, rfl, ?_⟩
   intro w R aO a7 s_ r bD hM H
   skip
   obtain ⟨l, bE⟩ : ∃ y_, y_ = s_ := ⟨_, rfl⟩
   subst bE
   obtain ⟨ac, rfl⟩ := bD
   replace aP := aP.sub aO
   replace aQ := aQ.sub aO
   replace aR := aR.sub aO
   replace aL := aL.sub aO
   replace aS := aS.sub aO
   replace aF := aF.sub aO
   replace hM : (zaT av aw ax aa ak ae ay d l (x, x2)).Ends r := hM
   simp only [zaT] at hM
   replace H := H.pk [0, 1, 3, 4, 5, 6, 7, 8, 2];refine W.block <| W.seq <| W.region rfl <| s_val (x_ld (v := Pq ab) rfl (ldb_sc Sc94 (H.bl 5) rfl)) <| zM (I x2) rfl <| s_val (x_fa (v := Pq aD) rfl (fa_blk (o := 0) Fd91_0 Sz3)) <| s_val (x_ld (v := I ((aa.getD (Int.toNat d.town) default).station)) rfl (ldb_sc Sc3 (H.bl 3) rfl)) ?_;obtain ⟨ca, bF, hM⟩ := M.e_bind hM;refine s_call cf74 [Pq ab, I x2, I ((aa.getD (Int.toNat d.town) default).station)] rfl (zdx av aw ax aa ak ae ay x2 ((aa.getD (Int.toNat d.town) default).station) (aP.app _) aV (aQ.app _) aW (aR.app _) aX (aL.app _) aM (aS.app _) aY (aF.app _) bF _ (H.gt 9)) ?_
   rintro vq cb ⟨au, aK, r1, rfl, hvq, aG⟩
   subst vq;(try dsimp only at hM);replace H := H.bk aG;clear aG;refine zM (.tuple #[.agg #[I au, I aK], B r1]) rfl <| zX [.agg #[I au, I aK], B r1] (.agg #[I au, I aK]) rfl rfl <| zX [.agg #[I au, I aK], B r1] (B r1) rfl rfl ?_;refine t_alloc (cs := [I 0, I 0]) H Al26 rfl ?_;intro bh cc H;refine t_sw 0 0 [I au, I aK] (.agg #[I au, I aK]) H rfl rfl Sz26 rfl rfl rfl rfl ?_;intro ce H;refine zA (B r1) rfl <| s_nil <| W.seq ?_;refine W.draw (fun W => St w W [cBlk bh [I au, I aK] 26, cOwn (α := Int) 3 ac l, cBlk aq [ac] 22, cBlk aJ [az, aA, aB, al, I aH, I aI, aC] 29, cBlk aD [I ((aa.getD (Int.toNat d.town) default).station), I ((aa.getD (Int.toNat d.town) default).lead), I ((aa.getD (Int.toNat d.town) default).alarm)] 91, cBlk aj [I d.spring, I d.town] 61, cBlk ao [Pq ab] 94, cMap encDm id ah am, cRx ai, cMk (aN :: ([]))] R) [(0, true), (1, true), (2, true), (3, true), (4, true), (5, true), (6, true), (7, true), (8, true), (9, true), (10, true), (11, true), (12, true), (13, true), (14, true)] mixed (by decide +kernel) rfl ?_;intro cf ag;replace H := H.ext ag;clear ag
   refine ⟨(H.pk [0, 1, 2, 3, 4, 5, 6, 7, 8, 9]), ?_⟩
   refine d_q rfl (fun w' H => x_mv (v := B r1) rfl) <| d_q rfl (fun w' H => x_mv (v := B r1) rfl) <| d_qg r1 rfl (gy_t rfl) (fun hg => (fun w' H => x_fa (v := Pq bh) rfl (fa_blk (o := 0) Fd26_0 Sz3))) <| d_qg r1 rfl (gy_t rfl) (fun hg => (fun w' H => x_ld (v := I au) (gd_of hg (Pq bh)) (ldb_sc Sc3 (H.bl 0) rfl))) <| d_qg r1 rfl (gy_t rfl) (fun hg => (fun w' H => x_fa (v := Oq aD 1) rfl (fa_blk (o := 0) Fd91_1 Sz3))) <| d_qg r1 rfl (gy_t rfl) (fun hg => (fun w' H => x_ld (v := I ((aa.getD (Int.toNat d.town) default).lead)) (gd_of hg (Oq aD 1)) (ldb_sc Sc3 (H.bl 4) rfl))) <| d_qg r1 rfl (gy_t rfl) (fun hg => (fun w' H => x_ld (v := Pq ab) rfl (ldb_sc Sc94 (H.bl 6) rfl))) <| d_qg r1 rfl (gy_t rfl) (fun hg => (fun w' H => x_nc (a := ⟨ab, 0, none⟩) (gd_of hg (Pq ab)))) <| d_qg r1 rfl (gy_t rfl) (fun hg => (fun w' H => x_fa (v := Pq ab) (gd_of hg (Pq ab)) (fa_blk (o := 0) Fd111_0 Sz29))) <| d_qg r1 rfl (gy_t rfl) (fun hg => (fun w' H => x_fa (v := Oq ab 4) (gd_of hg (Pq ab)) (fa_blk (o := 0) Fd29_4 Sz26))) ?_;refine d_qg r1 rfl (gy_t rfl) (fun hg => (fun w' H => x_fa (v := Oq ab 5) (gd_of hg (Oq ab 4)) (fa_blk (o := 4) Fd26_1 Sz3))) <| d_qg r1 rfl (gy_t rfl) (fun hg => (fun w' H => x_ld (v := I ae) (gd_of hg (Oq ab 5)) (ldb_sc Sc3 (aF.blk H) rfl))) ?_;obtain ⟨a8, hM⟩ := M.e_grd hM
   replace a8 := M.imp_of a8
   simp only [Bool.and_eq_true, decide_eq_true_eq] at a8
   refine d_qg r1 rfl (gy_t rfl) (fun hg => (fun w' H => x_ari (r := ((aa.getD (Int.toNat d.town) default).lead) + ae) (gd_of hg (I ((aa.getD (Int.toNat d.town) default).lead))) (gd_of hg (I ae)) rfl (by have bi := a8.resolve_left (by rw [hg]; decide); first | exact bi | exact bi.1 | exact bi.2 | omega | (have ag := hg; simp at ag; omega)))) <| d_qg r1 rfl (gy_t rfl) (fun hg => (fun w' H => x_cmp (kd := .i64) (r := decide ((((aa.getD (Int.toNat d.town) default).lead) + ae) <= au)) (gd_of hg (I au)) (gd_of hg (I (((aa.getD (Int.toNat d.town) default).lead) + ae))) rfl)) <| d_q rfl (fun w' H => x_pand (b := r1) (r := decide ((((aa.getD (Int.toNat d.town) default).lead) + ae) <= au)) rfl (fun hb => gd_of (c := r1) (by first | exact hb | (rw [hb]; rfl) | simp_all) (B (decide ((((aa.getD (Int.toNat d.town) default).lead) + ae) <= au)))) rfl) ?_;refine d_nil ?_
   refine W.cond (r1 && (decide ((((aa.getD (Int.toNat d.town) default).lead) + ae) <= au))) rfl (fun bj => ?_) (fun bj => ?_)
   ·replace hM := M.e_t hM bj;refine W.region rfl <| s_val (x_ld (v := ac) rfl (ldb_sc Sc22 (H.bl 2) rfl)) <| zM (I x2) rfl ?_;refine t_bs (α := Int) T22 [I x2] [(x2 : Int)] H rfl (.cons rfl (Flat.rep_enc _ (x2 : Int)) <| .nil) rfl rfl rfl ?_;intro bG cg H;obtain ⟨ck, hM⟩ := M.e_gd hM;refine t_app (α := Int) (k := 2) (l := l) (l2 := [(x2 : Int)]) (l' := l ++ ([(x2 : Int)])) (vy := bG) T22 rfl H rfl rfl rfl (H.os 0) (H.ol 0) (rfl) (by first | omega | (simp only [List.length_nil] at *; omega)) ?_;intro aU cl H;replace H := H.nf;refine t_sw 3 0 [aU] aU H rfl rfl Sz22 (Sl.cells (H.os 2)) rfl rfl (by simp only [List.all_cons, List.all_nil, Bool.true_and, Bool.and_true, Sl.oc (H.os 2)]; try rfl) ?_;intro cm H;refine s_nil ?_
    exact ⟨l ++ ([(x2 : Int)]), [cOwn (α := Int) 3 aU (l ++ ([(x2 : Int)])), cBlk aq [aU] 22], (M.e_pure hM).symm, ⟨aU, rfl⟩, H.pick [2, 3, 10, 4, 5, 6, 7, 8, 9] (by decide) rfl⟩
   replace hM := M.e_f hM bj;refine W.skip ?_
   exact ⟨l, [cOwn (α := Int) 3 ac l, cBlk aq [ac] 22], (M.e_pure hM).symm, ⟨ac, rfl⟩, H.pick [1, 2, 9, 3, 4, 5, 6, 7, 8] (by decide) rfl⟩
  replace H : St w bB (cAll (cObj a6 (.loop bf) :: [cOwn (α := Int) 3 (.slice none 0 0) ([]), cBlk aq [(.slice none 0 0)] 22]) :: [cBlk aT [I aZ] 3, cMk (aN :: ([])), cBlk aJ [az, aA, aB, al, I aH, I aI, aC] 29, cBlk aD [I ((aa.getD (Int.toNat d.town) default).station), I ((aa.getD (Int.toNat d.town) default).lead), I ((aa.getD (Int.toNat d.town) default).alarm)] 91, cBlk aj [I d.spring, I d.town] 61, cBlk ao [Pq ab] 94, cMap encDm id ah am, cRx ai]) R := St.bundleB (A := cObj a6 (.loop bf) :: [cOwn (α := Int) 3 (.slice none 0 0) ([]), cBlk aq [(.slice none 0 0)] 22]) (T := [cBlk aT [I aZ] 3, cMk (aN :: ([])), cBlk aJ [az, aA, aB, al, I aH, I aI, aC] 29, cBlk aD [I ((aa.getD (Int.toNat d.town) default).station), I ((aa.getD (Int.toNat d.town) default).lead), I ((aa.getD (Int.toNat d.town) default).alarm)] 91, cBlk aj [I d.spring, I d.town] 61, cBlk ao [Pq ab] 94, cMap encDm id ah am, cRx ai]) rfl (H.pk [0, 2, 3, 10, 1, 4, 5, 6, 7, 8, 9])
  refine (zcb (M.yl (zaT av aw ax aa ak ae ay d)) (.inl ([])) aZ av aw ax aa aH aI ay hYC ⟨_, rfl, ⟨(.slice none 0 0), rfl⟩⟩ (aP.app _) aV (aQ.app _) aW (aR.app _) aX (aL.app _) aM (aS.app _) aY (Has.here (k := 1) rfl) bA _ (H.gt 7)).mono ?_
  rintro vq cn ⟨bH, q0, co, rfl, hvq, aG, bw⟩
  replace H := H.back aG rfl
  clear aG hYC
  rcases bH with l | _
  ·(try dsimp only at hM)
   obtain ⟨_, rfl, ac, rfl⟩ := bw
   refine ⟨_, [cOwn (α := Int) 3 ac l, cBlk aq [ac] 22, cBlk aJ [az, aA, aB, al, I aH, I aI, aC] 29, cBlk aD [I ((aa.getD (Int.toNat d.town) default).station), I ((aa.getD (Int.toNat d.town) default).lead), I ((aa.getD (Int.toNat d.town) default).alarm)] 91, cBlk aj [I d.spring, I d.town] 61, cBlk ao [Pq ab] 94, cMap encDm id ah am, cRx ai, cBlk aT [I q0] 3], H.unbundle.pick [0, 4, 1, 2, 5, 6, 7, 8, 9, 10, 3] (by decide) rfl, bg.nb, ?_⟩
   intro cp H
   rw [bg.pd]
   replace H := H.nf
   try simp only []
   replace H := H.pk [0, 1, 2, 5, 6, 7, 8];refine WD.seq <| WD.of ?_;refine W.draw (fun W => St w W [cMk (aN :: ([])), cOwn (α := Int) 3 ac l, cBlk aq [ac] 22, cBlk aj [I d.spring, I d.town] 61, cBlk ao [Pq ab] 94, cRx ai] R) [(0, true), (1, true), (2, true), (3, true), (4, true), (5, true), (6, false)] mixed (by decide +kernel) rfl ?_;intro cq ag;replace H := H.ext ag;clear ag
   refine ⟨(H.pk [0, 1, 2, 3, 4, 6]), ?_⟩
   refine d_q rfl (fun w' H => x_ld (v := Pq ab) rfl (ldb_sc Sc94 (H.bl 4) rfl)) <| d_q rfl (fun w' H => x_nc (a := ⟨ab, 0, none⟩) rfl) <| d_q rfl (fun w' H => x_fa (v := Oq ab 7) rfl (fa_blk (o := 0) Fd111_1 Sz109)) <| d_q rfl (fun w' H => x_ld (v := .map (some ah)) rfl (ldb_sc Sc109 (aF.blk H) rfl)) <| d_q rfl (fun w' H => x_ld (v := .agg #[I d.spring, I d.town]) rfl (ldb_ag (ds := [I d.spring, I d.town]) Ag61 Sz61 (H.bl 3) rfl rfl)) <| d_q rfl (fun w' H => x_ld (v := ac) rfl (ldb_sc Sc22 (H.bl 2) rfl)) <| d_l rfl ?_;refine t_mapu (i := 5) (kenc := encDm) (venc := id) (f := am) (k := d) (v := ac) (L' := [cMk (aN :: ([])), cOwn (α := Int) 3 ac l, cBlk aq [ac] 22, cBlk aj [I d.spring, I d.town] 61, cBlk ao [Pq ab] 94, cMap encDm id ah (updF am d ac), cRx ai]) keyDem Tryz.underlying109 H rfl rfl rfl rfl rfl ?_;intro cu H
   refine s_nil ⟨(H.pk [0, 1, 2, 3, 4, 6]), ?_⟩
   refine d_nil ?_;replace H := H.pk [0, 1, 2, 5, 6];refine WD.seq <| WD.of <| W.region rfl <| s_val (x_ld (v := ac) rfl (ldb_sc Sc22 (H.bl 2) rfl)) <| zA ac rfl <| s_nil <| WD.of ?_;refine W.ret ?_;refine bodyD_r (H.pk [0, 1, 2, 3, 4]) ?_;intro cw H;replace H := H.nf
   obtain ⟨bI, cx, bJ, H⟩ := St.memShut1 (H.pk [2, 3, 0, 1]) ba (by rw [M.e_pure hM]; exact hM0)
   replace H := H.nf
   have bm := M.e_pure hM
   exact ⟨_, resE_tmp rfl, ⟨l, ac, bI, bm, rfl, (H.pk [0]), bJ⟩⟩
  obtain ⟨_, _, h_⟩ := bw; exact h_.elim
 | some aE =>
  obtain ⟨bn, bK, bL⟩ := ba d aE bc
  obtain rfl := M.Ends.det bK hM0
  replace hM : (M.pure bn).Ends bn := M.i_pure
  refine WD.seq <| WD.of <| W.region rfl ?_;refine t_b1 (Pq ab) H rfl rfl ?_;intro ao cy H;refine t_bx [I d.spring, I d.town] H rfl ?_;intro aj cz H;refine zA (.slice none 0 0) rfl <| s_nil <| WD.seq <| WD.seq <| WD.of ?_;refine W.draw (fun W => St w W [cBlk aj [I d.spring, I d.town] 61, cBlk ao [Pq ab] 94, cRx ai, cMk ([])] R) [(0, true), (1, true), (2, true), (3, true), (4, true), (5, false), (6, true), (7, true), (8, true), (9, true), (10, true)] mixed (by decide +kernel) rfl ?_;intro cA ag;replace H := H.ext ag;clear ag
  refine ⟨(H.pk [0, 1, 3, 4]), ?_⟩
  refine d_q rfl (fun w' H => x_ld (v := Pq ab) rfl (ldb_sc Sc94 (H.bl 1) rfl)) <| d_q rfl (fun w' H => x_nc (a := ⟨ab, 0, none⟩) rfl) <| d_q rfl (fun w' H => x_fa (v := Oq ab 7) rfl (fa_blk (o := 0) Fd111_1 Sz109)) <| d_q rfl (fun w' H => x_ld (v := .map (some ah)) rfl (ldb_sc Sc109 (aF.blk H) rfl)) <| d_q rfl (fun w' H => x_ld (v := .agg #[I d.spring, I d.town]) rfl (ldb_ag (ds := [I d.spring, I d.town]) Ag61 Sz61 (H.bl 0) rfl rfl)) <| d_l rfl <| s_val (q_look (kenc := encDm) (venc := id) (f := am) (k := d) (z := .slice none 0 0) (v := .tuple #[aE, B true]) keyDem Tryz.underlying109 (by kernel_rfl) rfl rfl (H.get (k := 2) rfl) true (by simp [bc])) ?_
  refine s_nil ⟨(H.pk [0, 1, 3, 4]), ?_⟩
  refine d_q rfl (fun w' H => x_mv (v := .tuple #[aE, B true]) rfl) <| d_q rfl (fun w' H => x_ext (vs := [aE, B true]) (v := aE) rfl rfl) <| d_q rfl (fun w' H => x_ext (vs := [aE, B true]) (v := B true) rfl rfl) <| d_q rfl (fun w' H => x_as (v := aE) rfl) <| d_q rfl (fun w' H => x_as (v := B true) rfl) ?_;refine d_nil <| WD.seq <| WD.of <| W.region rfl <| zM (B true) rfl <| s_nil ?_
  refine WD.cond true rfl (fun bx => ?_) (fun bx => ?_)
  ·skip
   refine WD.seq <| WD.of <| W.region rfl <| zM aE rfl <| zA aE rfl <| s_nil ?_;replace H := H.pk [2, 3, 4];refine WD.of ?_;refine W.ret ?_;refine bodyD_r (H.pk [2, 0, 1]) ?_;intro cB H;replace H := H.nf
   replace H := St.memShut (H.pk [0, 1]) ba
   replace H := H.nf
   have bm := M.e_pure hM
   exact ⟨_, resE_tmp rfl, ⟨bn, aE, ai, bm, rfl, H, bL⟩⟩
  skip
  exact absurd bx (by decide)

def zbm (lo hi : Int) : M (Int × Int) :=
  M.pure (lo, hi)
theorem zbW {R : List Chunk}  (lo : Int) (hi : Int)  {r : (Int × Int)} (hM : (zbm lo hi).Ends r) (w : World) (H : St w w [] R) : Ret Tryz.prog 43 #[I lo, I hi] w fun v w' => ∃ (y0 : Int) (y1 : Int), (y0, y1) = r /\ v = .agg #[I y0, I y1] /\ St w w' [] R := by
 refine ret_of_W Tryz.func43 rfl rfl rfl <| W.seq <| W.region rfl ?_;refine t_alloc (cs := [I 0, I 0]) H Al26 rfl ?_;intro ac ae H;refine s_nil <| W.seq <| W.region rfl <| zM (I lo) rfl <| zM (I hi) rfl <| s_val (x_bld (ps := [(0, I lo), (1, I hi)]) (zs := [I 0, I 0]) (L' := [I lo, I hi]) rfl Tryz.underlying26 Al26 rfl (Bd26 Tryz.underlying26) (.cons (cs := [I lo]) rfl rfl rfl rfl rfl <| .cons (cs := [I hi]) rfl rfl rfl rfl rfl <| .nil)) ?_;refine t_sw 0 0 [I lo, I hi] (.agg #[I lo, I hi]) H rfl rfl Sz26 rfl rfl rfl rfl ?_;intro ag H;refine s_nil ?_;refine W.ret ?_
 have aa := (H.bl 0)
 have ab := M.e_pure hM
 exact ⟨_, (resE_of1 (v := .agg #[I lo, I hi]) rfl (.cell (v := .agg #[I lo, I hi]) rfl (run_loadVar_ag (ds := [I lo, I hi]) Ag26 Sz26 aa rfl rfl) <| .nil)), ⟨lo, hi, ab, rfl, (H.pk [])⟩⟩

def zad (aa : Int) : M ((List Int) × (List Span) × (List Int) × (List Town) × Int × Int × (List Flood)) :=
  M.bind (zbm 5 6) fun (r0, r1) =>
  M.bind (zbm 2 4) fun (ab, ac) =>
  M.bind (zbm 3 5) fun (ae, ag) =>
  M.bind (zbm 1 2) fun (ah, ai) =>
  M.pure (([(2 : Int), (2 : Int), (3 : Int), (-1 : Int)]), ([(⟨(r0 : Int), (r1 : Int)⟩ : Span), (⟨(ab : Int), (ac : Int)⟩ : Span), (⟨(ae : Int), (ag : Int)⟩ : Span), (⟨(0 : Int), (0 : Int)⟩ : Span)]), ([(0 : Int), (1 : Int)]), ([(⟨(3 : Int), (aa : Int), (300 : Int)⟩ : Town)]), ah, ai, ([(⟨(0 : Int), ([(200 : Int), (250 : Int), (310 : Int)])⟩ : Flood), (⟨(1 : Int), ([(280 : Int), (240 : Int), (290 : Int)])⟩ : Flood), (⟨(0 : Int), ([(100 : Int), (260 : Int), (300 : Int)])⟩ : Flood)]))
theorem zah {R : List Chunk}  (ab : Int)  {r : ((List Int) × (List Span) × (List Int) × (List Town) × Int × Int × (List Flood))} (hM : (zad ab).Ends r) (w : World) (H : St w w [] R) : Ret Tryz.prog 42 #[I ab] w fun v w' => ∃ (y0 : List Int) (y1 : List Span) (y2 : List Int) (y3 : List Town) (y4 : Int) (y5 : Int) (y6 : List Flood) (u0 : Value) (u1 : Value) (u2 : Value) (u3 : Value) (u4 : Value) (rr5 : List (Raw 1)) (aE : Base), (y0, y1, y2, y3, y4, y5, y6) = r /\ v = .agg #[u0, u1, u2, u3, I y4, I y5, u4] /\ St w w' [cOwn (α := Int) 3 u0 y0, cOwn (α := Span) 26 u1 y1, cOwn (α := Int) 3 u2 y2, cOwn (α := Town) 91 u3 y3, cOwn (α := Raw 1) 85 u4 rr5, cRo aE] R /\ RepR (α := Flood) aE.cells rr5 y6 := by
 refine ret_of_W Tryz.func42 rfl rfl rfl <| W.seq <| W.region rfl ?_;refine t_alloc (cs := [.slice none 0 0, .slice none 0 0, .slice none 0 0, .slice none 0 0, I 0, I 0, .slice none 0 0]) H Al29 rfl ?_;intro aX aY H;refine s_nil <| W.seq <| W.region rfl ?_;refine t_bs (α := Int) T22 [I 2, I 2, I 3, I (-1)] [(2 : Int), (2 : Int), (3 : Int), (-1 : Int)] H rfl (.cons rfl (Flat.rep_enc _ (2 : Int)) <| .cons rfl (Flat.rep_enc _ (2 : Int)) <| .cons rfl (Flat.rep_enc _ (3 : Int)) <| .cons rfl (Flat.rep_enc _ (-1 : Int)) <| .nil) rfl rfl rfl ?_;intro ac aZ H;obtain ⟨a6, aK, hM⟩ := M.e_bind hM;refine s_call cf43 [I 5, I 6] rfl (zbW 5 6 aK _ (H.gt 2)) ?_
 rintro vq a7 ⟨r0, r1, rfl, hvq, aa⟩
 subst vq;(try dsimp only at hM);replace H := H.bk aa;clear aa;obtain ⟨a8, aL, hM⟩ := M.e_bind hM;refine s_call cf43 [I 2, I 4] rfl (zbW 2 4 aL _ (H.gt 2)) ?_
 rintro vq ba ⟨ay, az, rfl, hvq, aa⟩
 subst vq;(try dsimp only at hM);replace H := H.bk aa;clear aa;obtain ⟨bc, aM, hM⟩ := M.e_bind hM;refine s_call cf43 [I 3, I 5] rfl (zbW 3 5 aM _ (H.gt 2)) ?_
 rintro vq bf ⟨aA, aB, rfl, hvq, aa⟩
 subst vq;(try dsimp only at hM);replace H := H.bk aa;clear aa;refine s_val (x_bld (ps := []) (zs := [I 0, I 0]) (L' := [I 0, I 0]) rfl Tryz.underlying26 Al26 rfl (Bd26 Tryz.underlying26) (.nil)) ?_;refine t_bs (α := Span) T23 [.agg #[I r0, I r1], .agg #[I ay, I az], .agg #[I aA, I aB], .agg #[I 0, I 0]] [(⟨(r0 : Int), (r1 : Int)⟩ : Span), (⟨(ay : Int), (az : Int)⟩ : Span), (⟨(aA : Int), (aB : Int)⟩ : Span), (⟨(0 : Int), (0 : Int)⟩ : Span)] H rfl (.cons rfl (Flat.rep_enc _ (⟨(r0 : Int), (r1 : Int)⟩ : Span)) <| .cons rfl (Flat.rep_enc _ (⟨(ay : Int), (az : Int)⟩ : Span)) <| .cons rfl (Flat.rep_enc _ (⟨(aA : Int), (aB : Int)⟩ : Span)) <| .cons rfl (Flat.rep_enc _ (⟨(0 : Int), (0 : Int)⟩ : Span)) <| .nil) rfl rfl rfl ?_;intro ae bg H;refine t_bs (α := Int) T22 [I 0, I 1] [(0 : Int), (1 : Int)] H rfl (.cons rfl (Flat.rep_enc _ (0 : Int)) <| .cons rfl (Flat.rep_enc _ (1 : Int)) <| .nil) rfl rfl rfl ?_;intro ag bh H;refine zM (I ab) rfl <| s_val (x_bld (ps := [(0, I 3), (1, I ab), (2, I 300)]) (zs := [I 0, I 0, I 0]) (L' := [I 3, I ab, I 300]) rfl Tryz.underlying91 Al91 rfl (Bd91 Tryz.underlying91) (.cons (cs := [I 3]) rfl rfl rfl rfl rfl <| .cons (cs := [I ab]) rfl rfl rfl rfl rfl <| .cons (cs := [I 300]) rfl rfl rfl rfl rfl <| .nil)) ?_;refine t_bs (α := Town) T24 [.agg #[I 3, I ab, I 300]] [(⟨(3 : Int), (ab : Int), (300 : Int)⟩ : Town)] H rfl (.cons rfl (Flat.rep_enc _ (⟨(3 : Int), (ab : Int), (300 : Int)⟩ : Town)) <| .nil) rfl rfl rfl ?_;intro ah bi H;obtain ⟨bj, aN, hM⟩ := M.e_bind hM;refine s_call cf43 [I 1, I 2] rfl (zbW 1 2 aN _ (H.gt 5)) ?_
 rintro vq bm ⟨ai, aj, rfl, hvq, aa⟩
 subst vq;(try dsimp only at hM);replace H := H.bk aa;clear aa;refine t_bs (α := Int) T22 [I 200, I 250, I 310] [(200 : Int), (250 : Int), (310 : Int)] H rfl (.cons rfl (Flat.rep_enc _ (200 : Int)) <| .cons rfl (Flat.rep_enc _ (250 : Int)) <| .cons rfl (Flat.rep_enc _ (310 : Int)) <| .nil) rfl rfl rfl ?_;intro am bn H;refine s_val (x_bld (ps := [(0, I 0), (1, am)]) (zs := [I 0, .slice none 0 0]) (L' := [I 0, am]) rfl Tryz.underlying85 Al85 rfl (Bd85 Tryz.underlying85) (.cons (cs := [I 0]) rfl rfl rfl rfl rfl <| .cons (cs := [am]) (Sl.cells (H.os 0)) rfl rfl rfl rfl <| .nil)) ?_;refine t_bs (α := Int) T22 [I 280, I 240, I 290] [(280 : Int), (240 : Int), (290 : Int)] H rfl (.cons rfl (Flat.rep_enc _ (280 : Int)) <| .cons rfl (Flat.rep_enc _ (240 : Int)) <| .cons rfl (Flat.rep_enc _ (290 : Int)) <| .nil) rfl rfl rfl ?_;intro ao bo H;refine s_val (x_bld (ps := [(0, I 1), (1, ao)]) (zs := [I 0, .slice none 0 0]) (L' := [I 1, ao]) rfl Tryz.underlying85 Al85 rfl (Bd85 Tryz.underlying85) (.cons (cs := [I 1]) rfl rfl rfl rfl rfl <| .cons (cs := [ao]) (Sl.cells (H.os 0)) rfl rfl rfl rfl <| .nil)) ?_;refine t_bs (α := Int) T22 [I 100, I 260, I 300] [(100 : Int), (260 : Int), (300 : Int)] H rfl (.cons rfl (Flat.rep_enc _ (100 : Int)) <| .cons rfl (Flat.rep_enc _ (260 : Int)) <| .cons rfl (Flat.rep_enc _ (300 : Int)) <| .nil) rfl rfl rfl ?_;intro aq bp H;refine s_val (x_bld (ps := [(0, I 0), (1, aq)]) (zs := [I 0, .slice none 0 0]) (L' := [I 0, aq]) rfl Tryz.underlying85 Al85 rfl (Bd85 Tryz.underlying85) (.cons (cs := [I 0]) rfl rfl rfl rfl rfl <| .cons (cs := [aq]) (Sl.cells (H.os 0)) rfl rfl rfl rfl <| .nil)) ?_
 obtain ⟨bq, H⟩ := H.emptyE
 obtain ⟨br, H, aO⟩ := H.freezeE (k := 3) rfl
 replace H := H.nf
 have al := aO
 obtain ⟨bt, H, bu, aP⟩ := H.joinE (i := 0) (j := 3) rfl rfl
 replace al := al.mono aP
 obtain ⟨bv, H, aQ⟩ := H.freezeE (k := 3) rfl
 replace H := H.nf
 have au := aQ
 obtain ⟨bw, H, aR, aS⟩ := H.joinE (i := 0) (j := 3) rfl rfl
 replace al := al.mono aR
 replace au := au.mono aS
 obtain ⟨bx, H, aT⟩ := H.freezeE (k := 3) rfl
 replace H := H.nf
 have aC := aT
 obtain ⟨aF, H, aG, aU⟩ := H.joinE (i := 0) (j := 3) rfl rfl
 replace al := al.mono aG
 replace au := au.mono aG
 replace aC := aC.mono aU
 obtain ⟨av, aH⟩ : ∃ r : Raw 1, r.cs = [I 0, am] := ⟨Raw.of [I 0, am] rfl (by simp only [List.all_cons, List.all_nil, Bool.true_and, Bool.and_true, Sl.oc al]; try rfl), rfl⟩
 obtain ⟨aw, aI⟩ : ∃ r : Raw 1, r.cs = [I 1, ao] := ⟨Raw.of [I 1, ao] rfl (by simp only [List.all_cons, List.all_nil, Bool.true_and, Bool.and_true, Sl.oc au]; try rfl), rfl⟩
 obtain ⟨ax, aJ⟩ : ∃ r : Raw 1, r.cs = [I 0, aq] := ⟨Raw.of [I 0, aq] rfl (by simp only [List.all_cons, List.all_nil, Bool.true_and, Bool.and_true, Sl.oc aC]; try rfl), rfl⟩
 have aD : RepR (α := Flood) aF.cells [av, aw, ax] [(⟨(0 : Int), ([(200 : Int), (250 : Int), (310 : Int)])⟩ : Flood), (⟨(1 : Int), ([(280 : Int), (240 : Int), (290 : Int)])⟩ : Flood), (⟨(0 : Int), ([(100 : Int), (260 : Int), (300 : Int)])⟩ : Flood)] := .cons (by rw [aH]; exact ⟨_, rfl, al⟩) <| .cons (by rw [aI]; exact ⟨_, rfl, au⟩) <| .cons (by rw [aJ]; exact ⟨_, rfl, aC⟩) <| .nil
 refine t_bs (α := Raw 1) T27 [.agg #[I 0, am], .agg #[I 1, ao], .agg #[I 0, aq]] [av, aw, ax] H rfl (.cons (by rw [show (Flat.enc av : List Value) = av.cs from rfl, aH]; rfl) (Flat.rep_enc _ _) <| .cons (by rw [show (Flat.enc aw : List Value) = aw.cs from rfl, aI]; rfl) (Flat.rep_enc _ _) <| .cons (by rw [show (Flat.enc ax : List Value) = ax.cs from rfl, aJ]; rfl) (Flat.rep_enc _ _) <| .nil) rfl rfl rfl ?_;intro ak bz H;replace H := H.nf;refine s_val (x_bld (ps := [(0, ac), (1, ae), (2, ag), (3, ah), (4, .agg #[I ai, I aj]), (5, ak)]) (zs := [.slice none 0 0, .slice none 0 0, .slice none 0 0, .slice none 0 0, I 0, I 0, .slice none 0 0]) (L' := [ac, ae, ag, ah, I ai, I aj, ak]) rfl Tryz.underlying29 Al29 rfl (Bd29 Tryz.underlying29) (.cons (cs := [ac]) (Sl.cells (H.os 11)) rfl rfl rfl rfl <| .cons (cs := [ae]) (Sl.cells (H.os 10)) rfl rfl rfl rfl <| .cons (cs := [ag]) (Sl.cells (H.os 9)) rfl rfl rfl rfl <| .cons (cs := [ah]) (Sl.cells (H.os 8)) rfl rfl rfl rfl <| .cons (cs := [I ai, I aj]) rfl rfl rfl rfl rfl <| .cons (cs := [ak]) (Sl.cells (rowSl rfl (H.get (k := 0) rfl) (roLe _ (H.get (k := 1) rfl)) aD)) rfl rfl rfl rfl <| .nil)) ?_;refine t_sw 12 0 [ac, ae, ag, ah, I ai, I aj, ak] (.agg #[ac, ae, ag, ah, I ai, I aj, ak]) H rfl rfl Sz29 rfl rfl rfl (by simp only [List.all_cons, List.all_nil, Bool.true_and, Bool.and_true, Sl.oc (H.os 11), Sl.oc (H.os 10), Sl.oc (H.os 9), Sl.oc (H.os 8), Sl.oc (rowSl rfl (H.get (k := 0) rfl) (roLe _ (H.get (k := 1) rfl)) aD)]; try rfl) ?_;intro bA H;refine s_nil ?_;replace H := H.pk [0, 1, 8, 9, 10, 11, 12];refine W.ret ?_
 have aV := (H.bl 6)
 have aW := M.e_pure hM
 exact ⟨_, (resE_of1 (v := .agg #[ac, ae, ag, ah, I ai, I aj, ak]) rfl (.cell (v := .agg #[ac, ae, ag, ah, I ai, I aj, ak]) rfl (run_loadVar_ag (ds := [ac, ae, ag, ah, I ai, I aj, ak]) Ag29 Sz29 aV rfl rfl) <| .nil)), ⟨([(2 : Int), (2 : Int), (3 : Int), (-1 : Int)]), ([(⟨(r0 : Int), (r1 : Int)⟩ : Span), (⟨(ay : Int), (az : Int)⟩ : Span), (⟨(aA : Int), (aB : Int)⟩ : Span), (⟨(0 : Int), (0 : Int)⟩ : Span)]), ([(0 : Int), (1 : Int)]), ([(⟨(3 : Int), (ab : Int), (300 : Int)⟩ : Town)]), ai, aj, ([(⟨(0 : Int), ([(200 : Int), (250 : Int), (310 : Int)])⟩ : Flood), (⟨(1 : Int), ([(280 : Int), (240 : Int), (290 : Int)])⟩ : Flood), (⟨(0 : Int), ([(100 : Int), (260 : Int), (300 : Int)])⟩ : Flood)]), ac, ae, ag, ah, ak, [av, aw, ax], aF, aW, rfl, (H.pk [5, 4, 3, 2, 0, 1]), aD⟩⟩

def zac (n aa greatest : Int) : M Bool :=
  M.pure ((decide (aa <= n)) && (decide (n <= greatest)))
theorem zal {R : List Chunk}  (n : Int) (aa : Int) (greatest : Int)  {r : Bool} (hM : (zac n aa greatest).Ends r) (w : World) (H : St w w [] R) : Ret Tryz.prog 47 #[I n, I aa, I greatest] w fun v w' => ∃ (y0 : Bool), y0 = r /\ v = B y0 /\ St w w' [] R := by
 refine ret_of_W Tryz.func47 rfl rfl rfl <| W.seq <| W.region rfl <| zA (B false) rfl <| s_nil <| W.seq <| W.region rfl <| zM (I n) rfl <| zM (I aa) rfl <| zC n aa (decide (aa <= n)) rfl rfl rfl <| zM (B (decide (aa <= n))) rfl ?_;refine g_val (decide (aa <= n)) (gy_t rfl) (fun hg => x_mv (v := I n) rfl) <| g_val (decide (aa <= n)) (gy_t rfl) (fun hg => x_mv (v := I greatest) rfl) <| g_val (decide (aa <= n)) (gy_t rfl) (fun hg => x_cmp (kd := .i64) (r := decide (n <= greatest)) (gd_of hg (I n)) (gd_of hg (I greatest)) rfl) <| s_val (x_pand (b := decide (aa <= n)) (r := decide (n <= greatest)) rfl (fun hb => gd_of (c := decide (aa <= n)) (by first | exact hb | (rw [hb]; rfl) | simp_all) (B (decide (n <= greatest)))) rfl) <| zA (B ((decide (aa <= n)) && (decide (n <= greatest)))) rfl <| s_nil ?_;refine W.ret ?_
 have ab := M.e_pure hM
 exact ⟨_, resE_tmp rfl, ⟨((decide (aa <= n)) && (decide (n <= greatest))), ab, rfl, H⟩⟩

def zaK (s : Span) : M Bool :=
  M.bind (zac s.lo 0 s.hi) fun r2 =>
  M.bind (M.opt r2 (zac s.hi 0 1000) false) fun r3 =>
  M.pure (r2 && r3)
theorem zdT {R : List Chunk}  (s : Span)  {r : Bool} (hM : (zaK s).Ends r) (w : World) (H : St w w [] R) : Ret Tryz.prog 61 #[.agg #[I s.lo, I s.hi]] w fun v w' => ∃ (y0 : Bool), y0 = r /\ v = B y0 /\ St w w' [] R := by
 refine ret_of_W Tryz.func61 rfl rfl rfl <| W.seq <| W.region rfl ?_;refine t_bx [I s.lo, I s.hi] H rfl ?_;intro aa ai H;refine zA (B false) rfl <| s_nil <| W.seq <| W.region rfl <| s_val (x_fa (v := Pq aa) rfl (fa_blk (o := 0) Fd26_0 Sz3)) <| s_val (x_ld (v := I s.lo) rfl (ldb_sc Sc3 (H.bl 0) rfl)) <| s_val (x_fa (v := Oq aa 1) rfl (fa_blk (o := 0) Fd26_1 Sz3)) <| s_val (x_ld (v := I s.hi) rfl (ldb_sc Sc3 (H.bl 0) rfl)) ?_;obtain ⟨aj, ae, hM⟩ := M.e_bind hM;refine s_call cf47 [I s.lo, I 0, I s.hi] rfl (zal s.lo 0 s.hi ae _ (H.gt 1)) ?_
 rintro vq ak ⟨r2, rfl, hvq, ac⟩
 subst vq;(try dsimp only at hM);replace H := H.bk ac;clear ac;refine zM (B r2) rfl <| g_val r2 (gy_t rfl) (fun hg => x_fa (v := Oq aa 1) rfl (fa_blk (o := 0) Fd26_1 Sz3)) <| g_val r2 (gy_t rfl) (fun hg => x_ld (v := I s.hi) (gd_of hg (Oq aa 1)) (ldb_sc Sc3 (H.bl 0) rfl)) ?_;obtain ⟨r3, ag, hM⟩ := M.e_bind hM;refine t_gcall r2 (gy_t rfl) cf47 (B r3) (fun _ => [I s.hi, I 0, I 1000]) (fun hg => lst3 (gd_of hg (I s.hi)) rfl rfl) H (fun hg => (zal s.hi 0 1000 (M.e_opt ag hg) _ (H.give (A := []) rfl)).mono fun v_ w_ ⟨y_, ab, ah, H_⟩ => by subst ab; exact ⟨ah, H.via H_⟩) ?_;intro al H;refine s_val (x_pand (b := r2) (r := r3) rfl (fun hb => gd_of (c := r2) (by first | exact hb | (rw [hb]; rfl) | simp_all) (B r3)) rfl) <| zA (B (r2 && r3)) rfl <| s_nil ?_;refine W.ret ?_
 have ab := M.e_pure hM
 exact ⟨_, resE_tmp rfl, ⟨(r2 && r3), ab, rfl, (H.pk [])⟩⟩

def zaV (l : List Int) (aa : Int) : (Int × Nat) -> M ((Int × Nat) ⊕ (Unit ⊕ Unit)) := fun (last, s) =>
  bif decide ((s : Int) < (l.length : Int)) then (
  M.grd (decide ((s : Int) < (l.length : Int))) <|
  M.grd (decide ((-9223372036854775808 : Int) <= (last + 1)) && decide ((last + 1) <= (9223372036854775807 : Int))) <|
  M.grd (decide ((-9223372036854775808 : Int) <= (aa - 1)) && decide ((aa - 1) <= (9223372036854775807 : Int))) <|
  M.bind (zac (l.getD s 0) (last + 1) (aa - 1)) fun r2 =>
  bif !r2 then (
  M.pure (.inr (.inl ())))
  else (
  M.pure (.inl (l.getD s 0, s + 1))))
  else (
  M.pure (.inr (.inr ())))
def zaA (l : List Int) (aa : Int) : M Bool :=
  M.bind (M.iter (zaV l aa) (-1, 0)) fun x_ => match x_ with
  | (.inl (_ : Unit)) => (
  M.pure false)
  | (.inr (_ : Unit)) => (
  M.pure true)
theorem zds {R : List Chunk} {ak : Cells} {ac : Value} (l : List Int) (aa : Int) (aq : Reads R ak) (ae : Sl ak ac l) {r : Bool} (hM : (zaA l aa).Ends r) (w : World) (H : St w w [] R) : Ret Tryz.prog 62 #[ac, I aa] w fun v w' => ∃ (y0 : Bool), y0 = r /\ v = B y0 /\ St w w' [] R := by
 refine ret_of_W Tryz.func62 rfl rfl rfl <| W.seq <| W.region rfl <| zA (B false) rfl <| s_nil <| W.seq <| W.region rfl <| zA (I (-1)) rfl <| s_nil <| W.seq <| W.seq ?_;refine W.region rfl <| zM ac rfl ?_
 have aA := (ae).len_le
 refine s_val (x_lenS T22.und rfl ae) <| zM (I 0) rfl <| s_nil <| W.block ?_;obtain ⟨au, ag, al⟩ := M.e_bind hM
 obtain ⟨aB, ag⟩ := M.e_iter ag
 refine W.loop (fun m σ W => ∃ (last : Int) (s : Nat) (ρ : Env), σ = upds ρ [(1, I aa), (5, I last), (8, ac), (9, I (l.length : Int)), (10, I (s : Int))] /\ M.iterN (zaV l aa) m (last, s) = some au /\ St w W [] R) ?_ ?_
 ·exact ⟨_, -1, 0, _, upds_of _ _ ⟨rfl, rfl, rfl, rfl, rfl, trivial⟩, ag, H⟩
 rintro aC σ aD ⟨last, s, ρ, rfl, am, H⟩
 obtain ⟨av, aw, aE, hM, ah⟩ := M.e_iterN am
 simp only [zaV] at hM
 clear am;refine W.seq <| W.region rfl <| zC (s : Int) (l.length : Int) (decide ((s : Int) < (l.length : Int))) rfl rfl rfl <| s_nil <| W.seq ?_
 refine W.cond (decide ((s : Int) < (l.length : Int))) rfl (fun ab => ?_) (fun ab => ?_)
 ·replace hM := M.e_t hM ab
  replace ab := dI ab
  refine W.skip <| W.seq <| W.block <| W.seq <| W.region rfl ?_;obtain ⟨aF, hM⟩ := M.e_gd hM;refine s_val (x_ix (v := vat ac 1 (Int.toNat (s : Int))) rfl rfl (Sl.ix (α := Int) T22.und T22.size ae (by omega) (by omega))) <| s_val (x_ld (v := I (l.getD s 0)) rfl (ld_sc Sc3 (At.mono (Int_at ae (i := (s : Int)) (by omega) (by omega)) (aq.at H)))) <| zA (I (l.getD s 0)) rfl <| s_nil <| W.seq <| W.seq <| W.region rfl <| zM (I (l.getD s 0)) rfl <| zM (I last) rfl ?_;obtain ⟨aG, hM⟩ := M.e_gd hM;refine zR last 1 (last + 1) rfl rfl rfl (by omega) <| zM (I aa) rfl ?_;obtain ⟨aH, hM⟩ := M.e_gd hM;refine zR aa 1 (aa - 1) rfl rfl rfl (by omega) ?_;obtain ⟨aI, ax, hM⟩ := M.e_bind hM;refine s_call cf47 [I (l.getD s 0), I (last + 1), I (aa - 1)] rfl (zal (l.getD s 0) (last + 1) (aa - 1) ax _ (H.gt 0)) ?_
  rintro vq aJ ⟨r2, rfl, hvq, ao⟩
  subst vq;(try dsimp only at hM);replace H := H.bk ao;clear ao;refine s_val (x_not (b := r2) rfl) <| s_nil ?_
  refine W.cond (!r2) rfl (fun ai => ?_) (fun ai => ?_)
  ·replace hM := M.e_t hM ai;refine W.seq <| W.region rfl <| zA (B false) rfl <| s_nil ?_;refine W.ret ?_
   have ay := M.e_inr hM ah
   subst ay;replace hM := al;(try dsimp only at hM)
   have aj := M.e_pure hM
   exact ⟨_, resE_tmp rfl, ⟨false, aj, rfl, H⟩⟩
  replace hM := M.e_f hM ai;refine W.skip <| W.region rfl <| zM (I (l.getD s 0)) rfl <| zA (I (l.getD s 0)) rfl <| s_nil <| W.region rfl <| zR (s : Int) 1 ((s : Int) + 1) rfl rfl rfl (by omega) <| zM (I ((s : Int) + 1)) rfl <| s_nil ?_
  exact ⟨av, aw, l.getD s 0, s + 1, _, upds_of _ _ ⟨rfl, rfl, rfl, rfl, rfl, trivial⟩, M.e_inl hM ah, H⟩
 replace hM := M.e_f hM ab
 replace ab := dI ab
 refine W.exit ?_
 have az := M.e_inr hM ah
 subst az;replace hM := al;(try dsimp only at hM);refine W.seq <| W.region rfl <| zA (B true) rfl <| s_nil ?_;refine W.ret ?_
 have aj := M.e_pure hM
 exact ⟨_, resE_tmp rfl, ⟨true, aj, rfl, H⟩⟩

def zaI (s : List Town) (f : Town -> M Bool) : Nat -> M (Nat ⊕ (Int ⊕ Unit)) := fun s2 =>
  bif decide ((s2 : Int) < (s.length : Int)) then (
  M.grd (decide ((s2 : Int) < (s.length : Int))) <|
  M.bind (f (s.getD s2 default)) fun r2 =>
  bif r2 then (
  M.pure (.inr (.inl (s2 : Int))))
  else (
  M.pure (.inl (s2 + 1))))
  else (
  M.pure (.inr (.inr ())))
def zcZ (s : List Town) (f : Town -> M Bool) : M Int :=
  M.bind (M.iter (zaI s f) 0) fun x_ => match x_ with
  | (.inl s3) => (
  M.pure s3)
  | (.inr (_ : Unit)) => (
  M.pure (-1))
theorem zeB {R : List Chunk} {ak : Cells} {ab : Value} {ac : Value} (s : List Town) (f : Town -> M Bool) (ao : Reads R ak) (ae : Sl ak ab s) (aq : FnM Tryz.prog R ac f) {r : Int} (hM : (zcZ s f).Ends r) (w : World) (H : St w w [] R) : Ret Tryz.prog 108 #[ab, ac] w fun v w' => ∃ (y0 : Int), y0 = r /\ v = I y0 /\ St w w' [] R := by
 refine ret_of_W Tryz.func108 rfl rfl rfl <| W.seq <| W.region rfl <| zA (I 0) rfl <| s_nil <| W.seq <| W.seq <| W.region rfl <| zM ab rfl ?_
 have aA := (ae).len_le
 refine s_val (x_lenS T24.und rfl ae) <| zM (I 0) rfl <| s_nil <| W.block ?_;obtain ⟨au, ag, al⟩ := M.e_bind hM
 obtain ⟨aB, ag⟩ := M.e_iter ag
 refine W.loop (fun m σ W => ∃ (s2 : Nat) (ρ : Env), σ = upds ρ [(0, ab), (1, ac), (7, I (s.length : Int)), (8, I (s2 : Int))] /\ M.iterN (zaI s f) m s2 = some au /\ St w W [] R) ?_ ?_
 ·exact ⟨_, 0, _, upds_of _ _ ⟨rfl, rfl, rfl, rfl, trivial⟩, ag, H⟩
 rintro aC σ aD ⟨s2, ρ, rfl, am, H⟩
 obtain ⟨av, aw, aE, hM, ah⟩ := M.e_iterN am
 simp only [zaI] at hM
 clear am;refine W.seq <| W.region rfl <| zC (s2 : Int) (s.length : Int) (decide ((s2 : Int) < (s.length : Int))) rfl rfl rfl <| s_nil <| W.seq ?_
 refine W.cond (decide ((s2 : Int) < (s.length : Int))) rfl (fun aa => ?_) (fun aa => ?_)
 ·replace hM := M.e_t hM aa
  replace aa := dI aa
  refine W.skip <| W.seq <| W.block <| W.seq <| W.region rfl <| zM (I (s2 : Int)) rfl <| zA (I (s2 : Int)) rfl <| s_nil <| W.seq <| W.region rfl ?_;refine zM ac rfl <| zM ab rfl <| zM (I (s2 : Int)) rfl ?_;obtain ⟨aF, hM⟩ := M.e_gd hM;refine s_val (x_ix (v := vat ab 3 (Int.toNat (s2 : Int))) rfl rfl (Sl.ix (α := Town) T24.und T24.size ae (by omega) (by omega))) <| s_val (x_ld (v := .agg #[I ((s.getD s2 default).station), I ((s.getD s2 default).lead), I ((s.getD s2 default).alarm)]) rfl (ld_ag Ag91 Sz91 (At.mono (Town_atA ae (i := (s2 : Int)) (by omega) (by omega)) (ao.at H)))) ?_;obtain ⟨r2, ax, hM⟩ := M.e_bind hM;refine t_callM H aq rfl rfl (s.getD s2 default) Reads.none ⟨_, rfl, rfl⟩ ax ?_;intro aG H;refine s_nil ?_
  refine W.cond r2 rfl (fun ai => ?_) (fun ai => ?_)
  ·replace hM := M.e_t hM ai;refine W.seq <| W.region rfl <| zM (I (s2 : Int)) rfl <| zA (I (s2 : Int)) rfl <| s_nil ?_;refine W.ret ?_
   have ay := M.e_inr hM ah
   subst ay;replace hM := al;(try dsimp only at hM)
   have aj := M.e_pure hM
   exact ⟨_, resE_tmp rfl, ⟨(s2 : Int), aj, rfl, H⟩⟩
  replace hM := M.e_f hM ai;refine W.skip <| W.region rfl <| zR (s2 : Int) 1 ((s2 : Int) + 1) rfl rfl rfl (by omega) <| zM (I ((s2 : Int) + 1)) rfl <| s_nil ?_
  exact ⟨av, aw, s2 + 1, _, upds_of _ _ ⟨rfl, rfl, rfl, rfl, trivial⟩, M.e_inl hM ah, H⟩
 replace hM := M.e_f hM aa
 replace aa := dI aa
 refine W.exit ?_
 have az := M.e_inr hM ah
 subst az;replace hM := al;(try dsimp only at hM);refine W.seq <| W.region rfl <| zA (I (-1)) rfl <| s_nil ?_;refine W.ret ?_
 have aj := M.e_pure hM
 exact ⟨_, resE_tmp rfl, ⟨(-1), aj, rfl, H⟩⟩

def zbG (s : List Town) (f : Town -> M Bool) : M Bool :=
  M.bind (zcZ s f) fun r2 =>
  M.pure (decide (0 <= r2))
theorem zdo {R : List Chunk} {ac : Cells} {aa : Value} {ab : Value} (s : List Town) (f : Town -> M Bool) (ag : Reads R ac) (ah : Sl ac aa s) (ai : FnM Tryz.prog R ab f) {r : Bool} (hM : (zbG s f).Ends r) (w : World) (H : St w w [] R) : Ret Tryz.prog 92 #[aa, ab] w fun v w' => ∃ (y0 : Bool), y0 = r /\ v = B y0 /\ St w w' [] R := by
 refine ret_of_W Tryz.func92 rfl rfl rfl <| W.seq <| W.region rfl <| zA (B false) rfl <| s_nil <| W.seq <| W.region rfl <| zM aa rfl <| zM ab rfl ?_;obtain ⟨al, aj, hM⟩ := M.e_bind hM;refine s_call cf108 [aa, ab] rfl (zeB s f (ag.app _) ah (ai.app _) aj _ (H.gt 0)) ?_
 rintro vq am ⟨r2, rfl, hvq, ae⟩
 subst vq;(try dsimp only at hM);replace H := H.bk ae;clear ae;refine zC r2 0 (decide (0 <= r2)) rfl rfl rfl <| zA (B (decide (0 <= r2))) rfl <| s_nil ?_;refine W.ret ?_
 have ak := M.e_pure hM
 exact ⟨_, resE_tmp rfl, ⟨(decide (0 <= r2)), ak, rfl, H⟩⟩

def zcc (x : Town) (aa : Town -> M Bool) : M Bool :=
  M.bind (aa x) fun r2 =>
  M.pure (!r2)
theorem zep {R : List Chunk} {ab : Nat} {aa : Value} (x : Town) (ac : Town -> M Bool) (ae : FnM Tryz.prog R aa ac) (ag : Has R (cBlk ab [aa] 120)) {r : Bool} (hM : (zcc x ac).Ends r) (w : World) (H : St w w [] R) : Ret Tryz.prog 95 #[.agg #[I x.station, I x.lead, I x.alarm], Pq ab] w fun v w' => ∃ (y0 : Bool), y0 = r /\ v = B y0 /\ St w w' [] R := by
 refine ret_of_W Tryz.func95 rfl rfl rfl <| W.seq <| W.region rfl ?_;refine t_bx [I x.station, I x.lead, I x.alarm] H rfl ?_;intro aj ak H;refine zA (B false) rfl <| s_nil <| W.seq <| W.region rfl <| s_val (x_ld (v := aa) rfl (ldb_sc Sc120 (ag.blk H) rfl)) <| s_val (x_ld (v := .agg #[I x.station, I x.lead, I x.alarm]) rfl (ldb_ag (ds := [I x.station, I x.lead, I x.alarm]) Ag91 Sz91 (H.bl 0) rfl rfl)) ?_;obtain ⟨r2, ah, hM⟩ := M.e_bind hM;refine t_callM H ae rfl rfl x Reads.none ⟨_, rfl, rfl⟩ ah ?_;intro al H;refine s_val (x_not (b := r2) rfl) <| zA (B (!r2)) rfl <| s_nil ?_;refine W.ret ?_
 have ai := M.e_pure hM
 exact ⟨_, resE_tmp rfl, ⟨(!r2), ai, rfl, (H.pk [])⟩⟩

def za6 (l : List Town) (so : Town -> M Bool) : M Bool :=
  M.bind (zbG l (fun aa => zcc aa so)) fun r2 =>
  M.pure (!r2)
theorem zdV {R : List Chunk} {ag : Cells} {aa : Value} {ab : Value} (l : List Town) (so : Town -> M Bool) (ak : Reads R ag) (al : Sl ag aa l) (ah : FnM Tryz.prog R ab so) {r : Bool} (hM : (za6 l so).Ends r) (w : World) (H : St w w [] R) : Ret Tryz.prog 63 #[aa, ab] w fun v w' => ∃ (y0 : Bool), y0 = r /\ v = B y0 /\ St w w' [] R := by
 refine ret_of_W Tryz.func63 rfl rfl rfl <| W.seq <| W.region rfl ?_;refine t_box (v := ab) (cs := [ab]) H rfl (FnM.cells ah) ?_;intro ac aA H;refine zA (B false) rfl <| s_nil <| W.seq <| W.region rfl <| zM aa rfl <| s_val (x_mf (fs := []) (cs := [Pq ac]) rfl rfl) ?_;obtain ⟨aB, am, hM⟩ := M.e_bind hM;refine s_call cf92 [aa, .func (.func 95) #[] #[Pq ac]] rfl (zdo l (fun ae => zcc ae so) (ak.app _) al ⟨95, [Pq ac], rfl, cf95, fun ai aC aD ao ae aE aq aF au av => by obtain rfl := Town_arg au; exact (zep ae so (FnM.app (ah.app _) _) (Has.app (Has.here (k := 0) rfl) _) av ai (St.refl aq)).mono fun ao ai ⟨aG, aw, ax, ay⟩ => by subst aw; exact ⟨ax, ay⟩⟩ am _ (H.gt 1)) ?_
 rintro vq aH ⟨r2, rfl, hvq, aj⟩
 subst vq;(try dsimp only at hM);replace H := H.bk aj;clear aj;refine s_val (x_not (b := r2) rfl) <| zA (B (!r2)) rfl <| s_nil ?_;refine W.ret ?_
 have az := M.e_pure hM
 exact ⟨_, resE_tmp rfl, ⟨(!r2), az, rfl, (H.pk [])⟩⟩

def zaC (n : Int) : M Bool :=
  M.bind (zac n 0 2000) fun r2 =>
  M.pure r2
theorem zdO {R : List Chunk}  (n : Int)  {r : Bool} (hM : (zaC n).Ends r) (w : World) (H : St w w [] R) : Ret Tryz.prog 68 #[I n] w fun v w' => ∃ (y0 : Bool), y0 = r /\ v = B y0 /\ St w w' [] R := by
 refine ret_of_W Tryz.func68 rfl rfl rfl <| W.seq <| W.region rfl <| zA (B false) rfl <| s_nil <| W.seq <| W.region rfl <| zM (I n) rfl ?_;obtain ⟨ae, ab, hM⟩ := M.e_bind hM;refine s_call cf47 [I n, I 0, I 2000] rfl (zal n 0 2000 ab _ (H.gt 0)) ?_
 rintro vq ag ⟨r2, rfl, hvq, aa⟩
 subst vq;(try dsimp only at hM);replace H := H.bk aa;clear aa;refine zA (B r2) rfl <| s_nil ?_;refine W.ret ?_
 have ac := M.e_pure hM
 exact ⟨_, resE_tmp rfl, ⟨r2, ac, rfl, H⟩⟩

def zaQ (t : Town) : M Bool :=
  M.bind (zac t.lead 0 1000) fun r2 =>
  M.bind (M.opt r2 (zaC t.alarm) false) fun r3 =>
  M.pure (r2 && r3)
theorem zef {R : List Chunk}  (t : Town)  {r : Bool} (hM : (zaQ t).Ends r) (w : World) (H : St w w [] R) : Ret Tryz.prog 64 #[.agg #[I t.station, I t.lead, I t.alarm]] w fun v w' => ∃ (y0 : Bool), y0 = r /\ v = B y0 /\ St w w' [] R := by
 refine ret_of_W Tryz.func64 rfl rfl rfl <| W.seq <| W.region rfl ?_;refine t_bx [I t.station, I t.lead, I t.alarm] H rfl ?_;intro aa ai H;refine zA (B false) rfl <| s_nil <| W.seq <| W.region rfl <| s_val (x_fa (v := Oq aa 1) rfl (fa_blk (o := 0) Fd91_1 Sz3)) <| s_val (x_ld (v := I t.lead) rfl (ldb_sc Sc3 (H.bl 0) rfl)) ?_;obtain ⟨aj, ae, hM⟩ := M.e_bind hM;refine s_call cf47 [I t.lead, I 0, I 1000] rfl (zal t.lead 0 1000 ae _ (H.gt 1)) ?_
 rintro vq ak ⟨r2, rfl, hvq, ac⟩
 subst vq;(try dsimp only at hM);replace H := H.bk ac;clear ac;refine zM (B r2) rfl <| g_val r2 (gy_t rfl) (fun hg => x_fa (v := Oq aa 2) rfl (fa_blk (o := 0) Fd91_2 Sz3)) <| g_val r2 (gy_t rfl) (fun hg => x_ld (v := I t.alarm) (gd_of hg (Oq aa 2)) (ldb_sc Sc3 (H.bl 0) rfl)) ?_;obtain ⟨r3, ag, hM⟩ := M.e_bind hM;refine t_gcall r2 (gy_t rfl) cf68 (B r3) (fun _ => [I t.alarm]) (fun hg => lst1 (gd_of hg (I t.alarm))) H (fun hg => (zdO t.alarm (M.e_opt ag hg) _ (H.give (A := []) rfl)).mono fun v_ w_ ⟨y_, ab, ah, H_⟩ => by subst ab; exact ⟨ah, H.via H_⟩) ?_;intro al H;refine s_val (x_pand (b := r2) (r := r3) rfl (fun hb => gd_of (c := r2) (by first | exact hb | (rw [hb]; rfl) | simp_all) (B r3)) rfl) <| zA (B (r2 && r3)) rfl <| s_nil ?_;refine W.ret ?_
 have ab := M.e_pure hM
 exact ⟨_, resE_tmp rfl, ⟨(r2 && r3), ab, rfl, (H.pk [])⟩⟩

def zaU (t : Town) (aa : Int) : M Bool :=
  M.grd (decide ((-9223372036854775808 : Int) <= (aa - 1)) && decide ((aa - 1) <= (9223372036854775807 : Int))) <|
  M.bind (zac t.station 0 (aa - 1)) fun r2 =>
  M.pure r2
theorem zez {R : List Chunk} {ab : Nat} (t : Town) (aa : Int) (ae : Has R (cBlk ab [I aa] 3)) {r : Bool} (hM : (zaU t aa).Ends r) (w : World) (H : St w w [] R) : Ret Tryz.prog 65 #[.agg #[I t.station, I t.lead, I t.alarm], Pq ab] w fun v w' => ∃ (y0 : Bool), y0 = r /\ v = B y0 /\ St w w' [] R := by
 refine ret_of_W Tryz.func65 rfl rfl rfl <| W.seq <| W.region rfl ?_;refine t_bx [I t.station, I t.lead, I t.alarm] H rfl ?_;intro ag aj H;refine zA (B false) rfl <| s_nil <| W.seq <| W.region rfl <| s_val (x_fa (v := Pq ag) rfl (fa_blk (o := 0) Fd91_0 Sz3)) <| s_val (x_ld (v := I t.station) rfl (ldb_sc Sc3 (H.bl 0) rfl)) <| s_val (x_ld (v := I aa) rfl (ldb_sc Sc3 (ae.blk H) rfl)) ?_;obtain ⟨ak, hM⟩ := M.e_gd hM;refine zR aa 1 (aa - 1) rfl rfl rfl (by omega) ?_;obtain ⟨al, ah, hM⟩ := M.e_bind hM;refine s_call cf47 [I t.station, I 0, I (aa - 1)] rfl (zal t.station 0 (aa - 1) ah _ (H.gt 1)) ?_
 rintro vq am ⟨r2, rfl, hvq, ac⟩
 subst vq;(try dsimp only at hM);replace H := H.bk ac;clear ac;refine zA (B r2) rfl <| s_nil ?_;refine W.ret ?_
 have ai := M.e_pure hM
 exact ⟨_, resE_tmp rfl, ⟨r2, ai, rfl, (H.pk [])⟩⟩

def zaL (s : List Int) (v : Int) : Nat -> M (Nat ⊕ (Int ⊕ Unit)) := fun s2 =>
  bif decide ((s2 : Int) < (s.length : Int)) then (
  M.grd (decide ((s2 : Int) < (s.length : Int))) <|
  bif v == (s.getD s2 0) then (
  M.pure (.inr (.inl (s2 : Int))))
  else (
  M.pure (.inl (s2 + 1))))
  else (
  M.pure (.inr (.inr ())))
def zct (s : List Int) (v : Int) : M Int :=
  M.bind (M.iter (zaL s v) 0) fun x_ => match x_ with
  | (.inl s3) => (
  M.pure s3)
  | (.inr (_ : Unit)) => (
  M.pure (-1))
theorem zdW {R : List Chunk} {aj : Cells} {ac : Value} (s : List Int) (v : Int) (am : Reads R aj) (ae : Sl aj ac s) {r : Int} (hM : (zct s v).Ends r) (w : World) (H : St w w [] R) : Ret Tryz.prog 56 #[ac, I v] w fun v w' => ∃ (y0 : Int), y0 = r /\ v = I y0 /\ St w w' [] R := by
 refine ret_of_W Tryz.func56 rfl rfl rfl <| W.seq <| W.region rfl <| zA (I 0) rfl <| s_nil <| W.seq <| W.seq <| W.region rfl <| zM ac rfl ?_
 have ax := (ae).len_le
 refine s_val (x_lenS T22.und rfl ae) <| zM (I 0) rfl <| s_nil <| W.block ?_;obtain ⟨ao, ag, ak⟩ := M.e_bind hM
 obtain ⟨ay, ag⟩ := M.e_iter ag
 refine W.loop (fun m σ W => ∃ (s2 : Nat) (ρ : Env), σ = upds ρ [(0, ac), (1, I v), (7, I (s.length : Int)), (8, I (s2 : Int))] /\ M.iterN (zaL s v) m s2 = some ao /\ St w W [] R) ?_ ?_
 ·exact ⟨_, 0, _, upds_of _ _ ⟨rfl, rfl, rfl, rfl, trivial⟩, ag, H⟩
 rintro az σ aA ⟨s2, ρ, rfl, al, H⟩
 obtain ⟨aq, au, aB, hM, ah⟩ := M.e_iterN al
 simp only [zaL] at hM
 clear al;refine W.seq <| W.region rfl <| zC (s2 : Int) (s.length : Int) (decide ((s2 : Int) < (s.length : Int))) rfl rfl rfl <| s_nil <| W.seq ?_
 refine W.cond (decide ((s2 : Int) < (s.length : Int))) rfl (fun aa => ?_) (fun aa => ?_)
 ·replace hM := M.e_t hM aa
  replace aa := dI aa
  refine W.skip <| W.seq <| W.block <| W.seq <| W.region rfl <| zM (I (s2 : Int)) rfl <| zA (I (s2 : Int)) rfl <| s_nil <| W.seq <| W.region rfl ?_;refine zM (I v) rfl <| zM ac rfl <| zM (I (s2 : Int)) rfl ?_;obtain ⟨aC, hM⟩ := M.e_gd hM;refine s_val (x_ix (v := vat ac 1 (Int.toNat (s2 : Int))) rfl rfl (Sl.ix (α := Int) T22.und T22.size ae (by omega) (by omega))) <| s_val (x_ld (v := I (s.getD s2 0)) rfl (ld_sc Sc3 (At.mono (Int_at ae (i := (s2 : Int)) (by omega) (by omega)) (am.at H)))) <| zC v (s.getD s2 0) (v == (s.getD s2 0)) rfl rfl rfl <| s_nil ?_
  refine W.cond (v == (s.getD s2 0)) rfl (fun ab => ?_) (fun ab => ?_)
  ·replace hM := M.e_t hM ab
   replace ab := dI ab
   refine W.seq <| W.region rfl <| zM (I (s2 : Int)) rfl <| zA (I (s2 : Int)) rfl <| s_nil ?_;refine W.ret ?_
   have av := M.e_inr hM ah
   subst av;replace hM := ak;(try dsimp only at hM)
   have ai := M.e_pure hM
   exact ⟨_, resE_tmp rfl, ⟨(s2 : Int), ai, rfl, H⟩⟩
  replace hM := M.e_f hM ab
  replace ab := dI ab
  refine W.skip <| W.region rfl <| zR (s2 : Int) 1 ((s2 : Int) + 1) rfl rfl rfl (by omega) <| zM (I ((s2 : Int) + 1)) rfl <| s_nil ?_
  exact ⟨aq, au, s2 + 1, _, upds_of _ _ ⟨rfl, rfl, rfl, rfl, trivial⟩, M.e_inl hM ah, H⟩
 replace hM := M.e_f hM aa
 replace aa := dI aa
 refine W.exit ?_
 have aw := M.e_inr hM ah
 subst aw;replace hM := ak;(try dsimp only at hM);refine W.seq <| W.region rfl <| zA (I (-1)) rfl <| s_nil ?_;refine W.ret ?_
 have ai := M.e_pure hM
 exact ⟨_, resE_tmp rfl, ⟨(-1), ai, rfl, H⟩⟩

def zbE (s : List Int) (v : Int) : M Bool :=
  M.bind (zct s v) fun r2 =>
  M.pure (decide (0 <= r2))
theorem zeV {R : List Chunk} {ab : Cells} {aa : Value} (s : List Int) (v : Int) (ae : Reads R ab) (ag : Sl ab aa s) {r : Bool} (hM : (zbE s v).Ends r) (w : World) (H : St w w [] R) : Ret Tryz.prog 67 #[aa, I v] w fun v w' => ∃ (y0 : Bool), y0 = r /\ v = B y0 /\ St w w' [] R := by
 refine ret_of_W Tryz.func67 rfl rfl rfl <| W.seq <| W.region rfl <| zA (B false) rfl <| s_nil <| W.seq <| W.region rfl <| zM aa rfl <| zM (I v) rfl ?_;obtain ⟨aj, ah, hM⟩ := M.e_bind hM;refine s_call cf56 [aa, I v] rfl (zdW s v (ae.app _) ag ah _ (H.gt 0)) ?_
 rintro vq ak ⟨r2, rfl, hvq, ac⟩
 subst vq;(try dsimp only at hM);replace H := H.bk ac;clear ac;refine zC r2 0 (decide (0 <= r2)) rfl rfl rfl <| zA (B (decide (0 <= r2))) rfl <| s_nil ?_;refine W.ret ?_
 have ai := M.e_pure hM
 exact ⟨_, resE_tmp rfl, ⟨(decide (0 <= r2)), ai, rfl, H⟩⟩

def zav (s : List Int) (f : Int -> M Bool) : Nat -> M (Nat ⊕ (Int ⊕ Unit)) := fun s2 =>
  bif decide ((s2 : Int) < (s.length : Int)) then (
  M.grd (decide ((s2 : Int) < (s.length : Int))) <|
  M.bind (f (s.getD s2 0)) fun r2 =>
  bif r2 then (
  M.pure (.inr (.inl (s2 : Int))))
  else (
  M.pure (.inl (s2 + 1))))
  else (
  M.pure (.inr (.inr ())))
def zb4 (s : List Int) (f : Int -> M Bool) : M Int :=
  M.bind (M.iter (zav s f) 0) fun x_ => match x_ with
  | (.inl s3) => (
  M.pure s3)
  | (.inr (_ : Unit)) => (
  M.pure (-1))
theorem zd7 {R : List Chunk} {ak : Cells} {ab : Value} {ac : Value} (s : List Int) (f : Int -> M Bool) (ao : Reads R ak) (ae : Sl ak ab s) (aq : FnM Tryz.prog R ac f) {r : Int} (hM : (zb4 s f).Ends r) (w : World) (H : St w w [] R) : Ret Tryz.prog 100 #[ab, ac] w fun v w' => ∃ (y0 : Int), y0 = r /\ v = I y0 /\ St w w' [] R := by
 refine ret_of_W Tryz.func100 rfl rfl rfl <| W.seq <| W.region rfl <| zA (I 0) rfl <| s_nil <| W.seq <| W.seq <| W.region rfl <| zM ab rfl ?_
 have aA := (ae).len_le
 refine s_val (x_lenS T22.und rfl ae) <| zM (I 0) rfl <| s_nil <| W.block ?_;obtain ⟨au, ag, al⟩ := M.e_bind hM
 obtain ⟨aB, ag⟩ := M.e_iter ag
 refine W.loop (fun m σ W => ∃ (s2 : Nat) (ρ : Env), σ = upds ρ [(0, ab), (1, ac), (7, I (s.length : Int)), (8, I (s2 : Int))] /\ M.iterN (zav s f) m s2 = some au /\ St w W [] R) ?_ ?_
 ·exact ⟨_, 0, _, upds_of _ _ ⟨rfl, rfl, rfl, rfl, trivial⟩, ag, H⟩
 rintro aC σ aD ⟨s2, ρ, rfl, am, H⟩
 obtain ⟨av, aw, aE, hM, ah⟩ := M.e_iterN am
 simp only [zav] at hM
 clear am;refine W.seq <| W.region rfl <| zC (s2 : Int) (s.length : Int) (decide ((s2 : Int) < (s.length : Int))) rfl rfl rfl <| s_nil <| W.seq ?_
 refine W.cond (decide ((s2 : Int) < (s.length : Int))) rfl (fun aa => ?_) (fun aa => ?_)
 ·replace hM := M.e_t hM aa
  replace aa := dI aa
  refine W.skip <| W.seq <| W.block <| W.seq <| W.region rfl <| zM (I (s2 : Int)) rfl <| zA (I (s2 : Int)) rfl <| s_nil <| W.seq <| W.region rfl ?_;refine zM ac rfl <| zM ab rfl <| zM (I (s2 : Int)) rfl ?_;obtain ⟨aF, hM⟩ := M.e_gd hM;refine s_val (x_ix (v := vat ab 1 (Int.toNat (s2 : Int))) rfl rfl (Sl.ix (α := Int) T22.und T22.size ae (by omega) (by omega))) <| s_val (x_ld (v := I (s.getD s2 0)) rfl (ld_sc Sc3 (At.mono (Int_at ae (i := (s2 : Int)) (by omega) (by omega)) (ao.at H)))) ?_;obtain ⟨r2, ax, hM⟩ := M.e_bind hM;refine t_callM H aq rfl rfl (s.getD s2 0) Reads.none (Arg.mkI (fun _ => none) _) ax ?_;intro aG H;refine s_nil ?_
  refine W.cond r2 rfl (fun ai => ?_) (fun ai => ?_)
  ·replace hM := M.e_t hM ai;refine W.seq <| W.region rfl <| zM (I (s2 : Int)) rfl <| zA (I (s2 : Int)) rfl <| s_nil ?_;refine W.ret ?_
   have ay := M.e_inr hM ah
   subst ay;replace hM := al;(try dsimp only at hM)
   have aj := M.e_pure hM
   exact ⟨_, resE_tmp rfl, ⟨(s2 : Int), aj, rfl, H⟩⟩
  replace hM := M.e_f hM ai;refine W.skip <| W.region rfl <| zR (s2 : Int) 1 ((s2 : Int) + 1) rfl rfl rfl (by omega) <| zM (I ((s2 : Int) + 1)) rfl <| s_nil ?_
  exact ⟨av, aw, s2 + 1, _, upds_of _ _ ⟨rfl, rfl, rfl, rfl, trivial⟩, M.e_inl hM ah, H⟩
 replace hM := M.e_f hM aa
 replace aa := dI aa
 refine W.exit ?_
 have az := M.e_inr hM ah
 subst az;replace hM := al;(try dsimp only at hM);refine W.seq <| W.region rfl <| zA (I (-1)) rfl <| s_nil ?_;refine W.ret ?_
 have aj := M.e_pure hM
 exact ⟨_, resE_tmp rfl, ⟨(-1), aj, rfl, H⟩⟩

def zau (s : List Int) (f : Int -> M Bool) : M Bool :=
  M.bind (zb4 s f) fun r2 =>
  M.pure (decide (0 <= r2))
theorem zc8 {R : List Chunk} {ac : Cells} {aa : Value} {ab : Value} (s : List Int) (f : Int -> M Bool) (ag : Reads R ac) (ah : Sl ac aa s) (ai : FnM Tryz.prog R ab f) {r : Bool} (hM : (zau s f).Ends r) (w : World) (H : St w w [] R) : Ret Tryz.prog 86 #[aa, ab] w fun v w' => ∃ (y0 : Bool), y0 = r /\ v = B y0 /\ St w w' [] R := by
 refine ret_of_W Tryz.func86 rfl rfl rfl <| W.seq <| W.region rfl <| zA (B false) rfl <| s_nil <| W.seq <| W.region rfl <| zM aa rfl <| zM ab rfl ?_;obtain ⟨al, aj, hM⟩ := M.e_bind hM;refine s_call cf100 [aa, ab] rfl (zd7 s f (ag.app _) ah (ai.app _) aj _ (H.gt 0)) ?_
 rintro vq am ⟨r2, rfl, hvq, ae⟩
 subst vq;(try dsimp only at hM);replace H := H.bk ae;clear ae;refine zC r2 0 (decide (0 <= r2)) rfl rfl rfl <| zA (B (decide (0 <= r2))) rfl <| s_nil ?_;refine W.ret ?_
 have ak := M.e_pure hM
 exact ⟨_, resE_tmp rfl, ⟨(decide (0 <= r2)), ak, rfl, H⟩⟩

def zcf (x : Int) (aa : Int -> M Bool) : M Bool :=
  M.bind (aa x) fun r2 =>
  M.pure (!r2)
theorem zeN {R : List Chunk} {ab : Nat} {aa : Value} (x : Int) (ac : Int -> M Bool) (ae : FnM Tryz.prog R aa ac) (ag : Has R (cBlk ab [aa] 113)) {r : Bool} (hM : (zcf x ac).Ends r) (w : World) (H : St w w [] R) : Ret Tryz.prog 94 #[I x, Pq ab] w fun v w' => ∃ (y0 : Bool), y0 = r /\ v = B y0 /\ St w w' [] R := by
 refine ret_of_W Tryz.func94 rfl rfl rfl <| W.seq <| W.region rfl <| zA (B false) rfl <| s_nil <| W.seq <| W.region rfl <| s_val (x_ld (v := aa) rfl (ldb_sc Sc113 (ag.blk H) rfl)) <| zM (I x) rfl ?_;obtain ⟨r2, ah, hM⟩ := M.e_bind hM;refine t_callM H ae rfl rfl x Reads.none (Arg.mkI (fun _ => none) _) ah ?_;intro aj H;refine s_val (x_not (b := r2) rfl) <| zA (B (!r2)) rfl <| s_nil ?_;refine W.ret ?_
 have ai := M.e_pure hM
 exact ⟨_, resE_tmp rfl, ⟨(!r2), ai, rfl, H⟩⟩

def za7 (l : List Int) (so : Int -> M Bool) : M Bool :=
  M.bind (zau l (fun aa => zcf aa so)) fun r2 =>
  M.pure (!r2)
theorem zdB {R : List Chunk} {ag : Cells} {aa : Value} {ab : Value} (l : List Int) (so : Int -> M Bool) (ak : Reads R ag) (al : Sl ag aa l) (ah : FnM Tryz.prog R ab so) {r : Bool} (hM : (za7 l so).Ends r) (w : World) (H : St w w [] R) : Ret Tryz.prog 53 #[aa, ab] w fun v w' => ∃ (y0 : Bool), y0 = r /\ v = B y0 /\ St w w' [] R := by
 refine ret_of_W Tryz.func53 rfl rfl rfl <| W.seq <| W.region rfl ?_;refine t_box (v := ab) (cs := [ab]) H rfl (FnM.cells ah) ?_;intro ac aA H;refine zA (B false) rfl <| s_nil <| W.seq <| W.region rfl <| zM aa rfl <| s_val (x_mf (fs := []) (cs := [Pq ac]) rfl rfl) ?_;obtain ⟨aB, am, hM⟩ := M.e_bind hM;refine s_call cf86 [aa, .func (.func 94) #[] #[Pq ac]] rfl (zc8 l (fun ae => zcf ae so) (ak.app _) al ⟨94, [Pq ac], rfl, cf94, fun ai aC aD ao ae aE aq aF au av => by obtain rfl := Arg.int au; exact (zeN ae so (FnM.app (ah.app _) _) (Has.app (Has.here (k := 0) rfl) _) av ai (St.refl aq)).mono fun ao ai ⟨aG, aw, ax, ay⟩ => by subst aw; exact ⟨ax, ay⟩⟩ am _ (H.gt 1)) ?_
 rintro vq aH ⟨r2, rfl, hvq, aj⟩
 subst vq;(try dsimp only at hM);replace H := H.bk aj;clear aj;refine s_val (x_not (b := r2) rfl) <| zA (B (!r2)) rfl <| s_nil ?_;refine W.ret ?_
 have az := M.e_pure hM
 exact ⟨_, resE_tmp rfl, ⟨(!r2), az, rfl, (H.pk [])⟩⟩

end Go.Proofs.YtbaehghammbjdaaGreat
end
section
set_option maxRecDepth 100000
set_option maxHeartbeats 16000000
namespace Go.Proofs.YtbaehghammbjdaaGreat
open Go Go.Nm
def zaG (aa : List Int) (ab : List Span) : Nat -> M (Nat ⊕ (Int ⊕ Unit)) := fun s =>
  bif decide ((s : Int) < (aa.length : Int)) then (
  M.grd (decide ((s : Int) < (aa.length : Int))) <|
  M.bind (M.opt ((aa.getD s 0) != (-1)) (zac (aa.getD s 0) ((s : Int) + 1) ((aa.length : Int) - 1)) false) fun r4 =>
  bif (((aa.getD s 0) != (-1)) && (!r4)) then (
  M.pure (.inr (.inl 2)))
  else (
  M.grd (decide ((s : Int) < (ab.length : Int))) <|
  M.bind (zaK (ab.getD s default)) fun r5 =>
  bif !r5 then (
  M.pure (.inr (.inl 130)))
  else (
  M.pure (.inl (s + 1)))))
  else (
  M.pure (.inr (.inr ())))
def zaw  : Int -> (Int × Int) -> M (Int ⊕ Unit) := fun s3 (x, x2) =>
  M.grd (decide ((-9223372036854775808 : Int) <= (s3 + 1)) && decide ((s3 + 1) <= (9223372036854775807 : Int))) <|
  M.pure (.inl (s3 + 1))
def zaB (ac : List Int) (ae : List Span) (ab : List Int) (ag : List Town) (ah ai : Int) (aa : List Flood) : Nat -> M (Nat ⊕ (Int ⊕ Unit)) := fun s4 =>
  bif decide ((s4 : Int) < (aa.length : Int)) then (
  M.grd (decide ((s4 : Int) < (aa.length : Int))) <|
  M.bind (zam ac ae ab ag ah ai aa (max 0 ((aa.getD s4 default).spring))) fun (aj, ak, al) =>
  M.bind (zai (M.yl zaw) (.inl 0) aj ac ae ab ag ak al aa) fun x_ => match x_ with
  | (.inl s3, q0) => (
  M.bind (zbE ab ((aa.getD s4 default).spring)) fun am =>
  bif ((!am) || ((((aa.getD s4 default).stages).length : Int) != s3)) then (
  M.pure (.inr (.inl 2)))
  else (
  M.bind (za7 ((aa.getD s4 default).stages) (fun ao => zaC ao)) fun aq =>
  bif !aq then (
  M.pure (.inr (.inl 130)))
  else (
  M.pure (.inl (s4 + 1)))))
  | (.inr _, _) => M.fail)
  else (
  M.pure (.inr (.inr ())))
def zay (aa : List Int) (ab : List Span) (ae : List Int) (ac : List Town) (ah ai : Int) (aj : List Flood) : M Int :=
  M.bind (zac (aa.length : Int) 1 12) fun r2 =>
  M.bind (M.opt (!((!r2) || ((ab.length : Int) != (aa.length : Int)))) (zac (ae.length : Int) 1 8) false) fun r3 =>
  bif (((((!r2) || ((ab.length : Int) != (aa.length : Int))) || (!r3)) || (decide (8 < (ac.length : Int)))) || (decide (20 < (aj.length : Int)))) then (
  M.pure 3)
  else (
  M.bind (M.iter (zaG aa ab) 0) fun x_ => match x_ with
  | (.inl s2) => (
  M.pure s2)
  | (.inr (_ : Unit)) => (
  M.bind (zaA ae (aa.length : Int)) fun r6 =>
  bif !r6 then (
  M.pure 9)
  else (
  M.bind (za6 ac (fun ag => zaQ ag)) fun r7 =>
  M.bind (M.opt (!(!r7)) (za6 ac (fun ag => zaU ag (aa.length : Int))) false) fun r8 =>
  M.bind (M.opt (!((!r7) || (!r8))) (zaK (⟨(ah : Int), (ai : Int)⟩ : Span)) false) fun r9 =>
  bif (((!r7) || (!r8)) || (!r9)) then (
  M.pure 130)
  else (
  M.bind (M.iter (zaB aa ab ae ac ah ai aj) 0) fun x_ => match x_ with
  | (.inl s5) => (
  M.pure s5)
  | (.inr (_ : Unit)) => (
  M.pure 0)))))
theorem zeI {R : List Chunk} {bD : Cells} {al : Value} {bE : Cells} {am : Value} {bF : Cells} {ah : Value} {bG : Cells} {ag : Value} {bH : Cells} {ai : Value} (aa : List Int) (ab : List Span) (az : List Int) (au : List Town) (ao : Int) (aq : Int) (ac : List Flood) (aS : Reads R bD) (aB : Sl bD al aa) (aT : Reads R bE) (aE : Sl bE am ab) (aM : Reads R bF) (aF : Sl bF ah az) (aN : Reads R bG) (aG : Sl bG ag au) (aO : Reads R bH) (aC : Sl bH ai ac) {r : Int} (hM : (zay aa ab az au ao aq ac).Ends r) (w : World) (H : St w w [] R) : Ret Tryz.prog 19 #[.agg #[al, am, ah, ag, I ao, I aq, ai]] w fun v w' => ∃ (y0 : Int), y0 = r /\ v = I y0 /\ St w w' [] R := by
 refine ret_of_WD Tryz.func19 rfl rfl rfl ?_
 replace H : St w w [cMk ([])] R := H.mk0
 have cA := aB.len_le
 have cB := aE.len_le
 have cC := aF.len_le
 have cD := aG.len_le
 have cE := aC.len_le
 unfold zay at hM
 refine WD.seq <| WD.of <| W.region rfl ?_;refine t_bx [al, am, ah, ag, I ao, I aq, ai] H rfl ?_;intro ae cF H;refine zA (I 0) rfl <| s_nil <| WD.seq <| WD.of <| W.region rfl <| s_val (x_fa (v := Pq ae) rfl (fa_blk (o := 0) Fd29_0 Sz22)) <| s_val (x_ld (v := al) rfl (ldb_sc Sc22 (H.bl 0) rfl)) ?_
 have cG := (aB).len_le
 refine s_val (x_lenS T22.und rfl aB) ?_;refine t_alloc (cs := [I 0]) H Al3 rfl ?_;intro aw cH H;refine t_sw 0 0 [I (aa.length : Int)] (I (aa.length : Int)) H rfl rfl Sz3 rfl rfl rfl rfl ?_;intro cI H;refine s_nil <| WD.seq <| WD.seq <| WD.of <| W.region rfl <| s_val (x_ld (v := I (aa.length : Int)) rfl (ldb_sc Sc3 (H.bl 0) rfl)) ?_;obtain ⟨cJ, bR, hM⟩ := M.e_bind hM;refine s_call cf47 [I (aa.length : Int), I 1, I 12] rfl (zal (aa.length : Int) 1 12 bR _ (H.gt 3)) ?_
 rintro vq cK ⟨r2, rfl, hvq, aj⟩
 subst vq;(try dsimp only at hM);replace H := H.bk aj;clear aj;refine s_val (x_not (b := r2) rfl) <| zM (B (!r2)) rfl <| g_val (!(!r2)) (gy_f rfl) (fun hg => x_fa (v := Oq ae 1) rfl (fa_blk (o := 0) Fd29_1 Sz23)) <| g_val (!(!r2)) (gy_f rfl) (fun hg => x_ld (v := am) (gd_of hg (Oq ae 1)) (ldb_sc Sc23 (H.bl 1) rfl)) ?_
 have cL := (aE).len_le
 refine g_val (!(!r2)) (gy_f rfl) (fun hg => x_lenS T23.und (gd_of hg (am)) aE) <| g_val (!(!r2)) (gy_f rfl) (fun hg => x_ld (v := I (aa.length : Int)) rfl (ldb_sc Sc3 (H.bl 0) rfl)) <| g_val (!(!r2)) (gy_f rfl) (fun hg => x_cmp (kd := .i64) (r := (ab.length : Int) != (aa.length : Int)) (gd_of hg (I (ab.length : Int))) (gd_of hg (I (aa.length : Int))) rfl) <| s_val (x_por (b := !r2) (r := (ab.length : Int) != (aa.length : Int)) rfl rfl (fun hb => gd_of (c := !(!r2)) (by first | exact hb | (rw [hb]; rfl) | simp_all) (B ((ab.length : Int) != (aa.length : Int))))) <| zM (B ((!r2) || ((ab.length : Int) != (aa.length : Int)))) rfl <| g_val (!((!r2) || ((ab.length : Int) != (aa.length : Int)))) (gy_f rfl) (fun hg => x_fa (v := Oq ae 2) rfl (fa_blk (o := 0) Fd29_2 Sz22)) <| g_val (!((!r2) || ((ab.length : Int) != (aa.length : Int)))) (gy_f rfl) (fun hg => x_ld (v := ah) (gd_of hg (Oq ae 2)) (ldb_sc Sc22 (H.bl 1) rfl)) ?_
 have cM := (aF).len_le
 refine g_val (!((!r2) || ((ab.length : Int) != (aa.length : Int)))) (gy_f rfl) (fun hg => x_lenS T22.und (gd_of hg (ah)) aF) ?_;obtain ⟨r3, bS, hM⟩ := M.e_bind hM;refine t_gcall (!((!r2) || ((ab.length : Int) != (aa.length : Int)))) (gy_f rfl) cf47 (B r3) (fun _ => [I (az.length : Int), I 1, I 8]) (fun hg => lst3 (gd_of hg (I (az.length : Int))) rfl rfl) H (fun hg => (zal (az.length : Int) 1 8 (M.e_opt bS hg) _ (H.give (A := []) rfl)).mono fun v_ w_ ⟨y_, ak, aH, H_⟩ => by subst ak; exact ⟨aH, H.via H_⟩) ?_;intro cN H;refine g_val (!((!r2) || ((ab.length : Int) != (aa.length : Int)))) (gy_f rfl) (fun hg => x_not (b := r3) (gd_of hg (B r3))) <| s_val (x_por (b := ((!r2) || ((ab.length : Int) != (aa.length : Int)))) (r := !r3) rfl rfl (fun hb => gd_of (c := !((!r2) || ((ab.length : Int) != (aa.length : Int)))) (by first | exact hb | (rw [hb]; rfl) | simp_all) (B (!r3)))) <| zM (B (((!r2) || ((ab.length : Int) != (aa.length : Int))) || (!r3))) rfl <| g_val (!(((!r2) || ((ab.length : Int) != (aa.length : Int))) || (!r3))) (gy_f rfl) (fun hg => x_fa (v := Oq ae 3) rfl (fa_blk (o := 0) Fd29_3 Sz24)) <| g_val (!(((!r2) || ((ab.length : Int) != (aa.length : Int))) || (!r3))) (gy_f rfl) (fun hg => x_ld (v := ag) (gd_of hg (Oq ae 3)) (ldb_sc Sc24 (H.bl 1) rfl)) ?_
 have cO := (aG).len_le
 refine g_val (!(((!r2) || ((ab.length : Int) != (aa.length : Int))) || (!r3))) (gy_f rfl) (fun hg => x_lenS T24.und (gd_of hg (ag)) aG) <| g_val (!(((!r2) || ((ab.length : Int) != (aa.length : Int))) || (!r3))) (gy_f rfl) (fun hg => x_cmp (kd := .i64) (r := decide (8 < (au.length : Int))) (gd_of hg (I (au.length : Int))) rfl rfl) <| s_val (x_por (b := (((!r2) || ((ab.length : Int) != (aa.length : Int))) || (!r3))) (r := decide (8 < (au.length : Int))) rfl rfl (fun hb => gd_of (c := !(((!r2) || ((ab.length : Int) != (aa.length : Int))) || (!r3))) (by first | exact hb | (rw [hb]; rfl) | simp_all) (B (decide (8 < (au.length : Int)))))) <| zM (B ((((!r2) || ((ab.length : Int) != (aa.length : Int))) || (!r3)) || (decide (8 < (au.length : Int))))) rfl <| g_val (!((((!r2) || ((ab.length : Int) != (aa.length : Int))) || (!r3)) || (decide (8 < (au.length : Int))))) (gy_f rfl) (fun hg => x_fa (v := Oq ae 6) rfl (fa_blk (o := 0) Fd29_5 Sz27)) <| g_val (!((((!r2) || ((ab.length : Int) != (aa.length : Int))) || (!r3)) || (decide (8 < (au.length : Int))))) (gy_f rfl) (fun hg => x_ld (v := ai) (gd_of hg (Oq ae 6)) (ldb_sc Sc27 (H.bl 1) rfl)) ?_
 have cP := (aC).len_le
 refine g_val (!((((!r2) || ((ab.length : Int) != (aa.length : Int))) || (!r3)) || (decide (8 < (au.length : Int))))) (gy_f rfl) (fun hg => x_lenS T27.und (gd_of hg (ai)) aC) <| g_val (!((((!r2) || ((ab.length : Int) != (aa.length : Int))) || (!r3)) || (decide (8 < (au.length : Int))))) (gy_f rfl) (fun hg => x_cmp (kd := .i64) (r := decide (20 < (ac.length : Int))) (gd_of hg (I (ac.length : Int))) rfl rfl) <| s_val (x_por (b := ((((!r2) || ((ab.length : Int) != (aa.length : Int))) || (!r3)) || (decide (8 < (au.length : Int))))) (r := decide (20 < (ac.length : Int))) rfl rfl (fun hb => gd_of (c := !((((!r2) || ((ab.length : Int) != (aa.length : Int))) || (!r3)) || (decide (8 < (au.length : Int))))) (by first | exact hb | (rw [hb]; rfl) | simp_all) (B (decide (20 < (ac.length : Int)))))) <| s_nil ?_
 refine WD.cond (((((!r2) || ((ab.length : Int) != (aa.length : Int))) || (!r3)) || (decide (8 < (au.length : Int)))) || (decide (20 < (ac.length : Int)))) rfl (fun bj => ?_) (fun bj => ?_)
 ·replace hM := M.e_t hM bj;refine WD.seq <| WD.of <| W.region rfl <| zA (I 3) rfl <| s_nil ?_;replace H := H.pk [2];refine WD.of ?_;refine W.ret ?_;refine bodyD_r (H.pk [0]) ?_;intro cQ H;replace H := H.nf
  have ak := M.e_pure hM
  exact ⟨_, resE_tmp rfl, ⟨3, ak, rfl, H⟩⟩
 replace hM := M.e_f hM bj;refine WD.of <| W.skip <| WD.seq <| WD.seq <| WD.of <| W.region rfl <| s_val (x_fa (v := Pq ae) rfl (fa_blk (o := 0) Fd29_0 Sz22)) <| s_val (x_ld (v := al) rfl (ldb_sc Sc22 (H.bl 1) rfl)) ?_
 have cR := (aB).len_le
 refine s_val (x_lenS T22.und rfl aB) <| zM (I 0) rfl <| s_nil <| WD.block ?_;obtain ⟨bT, bm, bn⟩ := M.e_bind hM
 obtain ⟨bU, bm⟩ := M.e_iter bm
 refine WD.loop (fun m bI σ W => ∃ (s : Nat) (ρ : Env), σ = upds ρ [(1, Pq ae), (3, Pq aw), (42, al), (43, I (aa.length : Int)), (44, I (s : Int))] /\ M.iterN (zaG aa ab) m s = some bT /\ St w W [cBlk aw [I (aa.length : Int)] 3, cBlk ae [al, am, ah, ag, I ao, I aq, ai] 29, cMk bI] R) ?_ ?_
 ·exact ⟨_, 0, _, upds_of _ _ ⟨rfl, rfl, rfl, rfl, rfl, trivial⟩, bm, H⟩
 rintro cS bI σ cT ⟨s, ρ, rfl, bJ, H⟩
 obtain ⟨bV, bW, cU, hM, bc⟩ := M.e_iterN bJ
 simp only [zaG] at hM
 clear bJ;refine WD.seq <| WD.of <| W.region rfl <| zC (s : Int) (aa.length : Int) (decide ((s : Int) < (aa.length : Int))) rfl rfl rfl <| s_nil <| WD.seq ?_
 refine WD.cond (decide ((s : Int) < (aa.length : Int))) rfl (fun aI => ?_) (fun aI => ?_)
 ·replace hM := M.e_t hM aI
  replace aI := dI aI
  refine WD.of <| W.skip <| WD.seq <| WD.block <| WD.seq <| WD.of <| W.region rfl <| zM (I (s : Int)) rfl ?_;obtain ⟨cV, hM⟩ := M.e_gd hM;refine s_val (x_ix (v := vat al 1 (Int.toNat (s : Int))) rfl rfl (Sl.ix (α := Int) T22.und T22.size aB (by omega) (by omega))) <| s_val (x_ld (v := I (aa.getD s 0)) rfl (ld_sc Sc3 (At.mono (Int_at aB (i := (s : Int)) (by omega) (by omega)) (aS.at H)))) <| zA (I (s : Int)) rfl <| zA (I (aa.getD s 0)) rfl <| s_nil <| WD.block <| WD.seq <| WD.of <| W.region rfl <| zM (I (aa.getD s 0)) rfl ?_;refine zC (aa.getD s 0) (-1) ((aa.getD s 0) != (-1)) rfl rfl rfl <| zM (B ((aa.getD s 0) != (-1))) rfl <| g_val ((aa.getD s 0) != (-1)) (gy_t rfl) (fun hg => x_mv (v := I (aa.getD s 0)) rfl) <| g_val ((aa.getD s 0) != (-1)) (gy_t rfl) (fun hg => x_mv (v := I (s : Int)) rfl) <| g_val ((aa.getD s 0) != (-1)) (gy_t rfl) (fun hg => x_ari (r := (s : Int) + 1) (gd_of hg (I (s : Int))) rfl rfl (by first | omega | (have bo := hg; simp at bo; omega))) <| g_val ((aa.getD s 0) != (-1)) (gy_t rfl) (fun hg => x_ld (v := I (aa.length : Int)) rfl (ldb_sc Sc3 (H.bl 0) rfl)) <| g_val ((aa.getD s 0) != (-1)) (gy_t rfl) (fun hg => x_ari (r := (aa.length : Int) - 1) (gd_of hg (I (aa.length : Int))) rfl rfl (by first | omega | (have bo := hg; simp at bo; omega))) ?_;obtain ⟨r4, bX, hM⟩ := M.e_bind hM;refine t_gcall ((aa.getD s 0) != (-1)) (gy_t rfl) cf47 (B r4) (fun _ => [I (aa.getD s 0), I ((s : Int) + 1), I ((aa.length : Int) - 1)]) (fun hg => lst3 (gd_of hg (I (aa.getD s 0))) (gd_of hg (I ((s : Int) + 1))) (gd_of hg (I ((aa.length : Int) - 1)))) H (fun hg => (zal (aa.getD s 0) ((s : Int) + 1) ((aa.length : Int) - 1) (M.e_opt bX hg) _ (H.give (A := []) rfl)).mono fun v_ w_ ⟨y_, ak, aH, H_⟩ => by subst ak; exact ⟨aH, H.via H_⟩) ?_;intro cW H;refine g_val ((aa.getD s 0) != (-1)) (gy_t rfl) (fun hg => x_not (b := r4) (gd_of hg (B r4))) <| s_val (x_pand (b := (aa.getD s 0) != (-1)) (r := !r4) rfl (fun hb => gd_of (c := (aa.getD s 0) != (-1)) (by first | exact hb | (rw [hb]; rfl) | simp_all) (B (!r4))) rfl) <| zA (B (((aa.getD s 0) != (-1)) && (!r4))) rfl <| s_nil ?_
  refine WD.cond (((aa.getD s 0) != (-1)) && (!r4)) rfl (fun bp => ?_) (fun bp => ?_)
  ·replace hM := M.e_t hM bp;refine WD.seq <| WD.of <| W.region rfl <| zA (I 2) rfl <| s_nil <| WD.of ?_;refine W.ret ?_
   have bY := M.e_inr hM bc
   subst bY;replace hM := bn;(try dsimp only at hM);refine bodyD_r (H.pk [2, 0, 1]) ?_;intro cX H;replace H := H.nf
   have ak := M.e_pure hM
   exact ⟨_, resE_tmp rfl, ⟨2, ak, rfl, (H.pk [])⟩⟩
  replace hM := M.e_f hM bp;refine WD.seq <| WD.of <| W.region rfl <| s_val (x_fa (v := Oq ae 1) rfl (fa_blk (o := 0) Fd29_1 Sz23)) <| s_val (x_ld (v := am) rfl (ldb_sc Sc23 (H.bl 1) rfl)) <| zM (I (s : Int)) rfl ?_;obtain ⟨cY, hM⟩ := M.e_gd hM;refine s_val (x_ix (v := vat am 2 (Int.toNat (s : Int))) rfl rfl (Sl.ix (α := Span) T23.und T23.size aE (by omega) (by omega))) <| s_val (x_ld (v := .agg #[I ((ab.getD s default).lo), I ((ab.getD s default).hi)]) rfl (ld_ag Ag26 Sz26 (At.mono (Span_atA aE (i := (s : Int)) (by omega) (by omega)) (aT.at H)))) ?_;obtain ⟨cZ, bZ, hM⟩ := M.e_bind hM;refine s_call cf61 [.agg #[I ((ab.getD s default).lo), I ((ab.getD s default).hi)]] rfl (zdT (ab.getD s default) bZ _ (H.gt 3)) ?_
  rintro vq c6 ⟨r5, rfl, hvq, aj⟩
  subst vq;(try dsimp only at hM);replace H := H.bk aj;clear aj;refine s_val (x_not (b := r5) rfl) <| zA (B (!r5)) rfl <| s_nil ?_
  refine WD.cond (!r5) rfl (fun bq => ?_) (fun bq => ?_)
  ·replace hM := M.e_t hM bq;refine WD.seq <| WD.of <| W.region rfl <| zA (I 130) rfl <| s_nil <| WD.of ?_;refine W.ret ?_
   have b4 := M.e_inr hM bc
   subst b4;replace hM := bn;(try dsimp only at hM);refine bodyD_r (H.pk [2, 0, 1]) ?_;intro c7 H;replace H := H.nf
   have ak := M.e_pure hM
   exact ⟨_, resE_tmp rfl, ⟨130, ak, rfl, (H.pk [])⟩⟩
  replace hM := M.e_f hM bq;refine WD.of <| W.skip <| WD.of <| W.region rfl <| zR (s : Int) 1 ((s : Int) + 1) rfl rfl rfl (by omega) <| zM (I ((s : Int) + 1)) rfl <| s_nil ?_
  exact ⟨bV, bW, s + 1, _, upds_of _ _ ⟨rfl, rfl, rfl, rfl, rfl, trivial⟩, M.e_inl hM bc, H⟩
 replace hM := M.e_f hM aI
 replace aI := dI aI
 refine WD.of ?_;refine W.exit ?_
 have b7 := M.e_inr hM bc
 subst b7;replace hM := bn;(try dsimp only at hM);refine WD.seq <| WD.block <| WD.seq <| WD.of <| W.region rfl <| s_val (x_fa (v := Oq ae 2) rfl (fa_blk (o := 0) Fd29_2 Sz22)) <| s_val (x_ld (v := ah) rfl (ldb_sc Sc22 (H.bl 1) rfl)) <| s_val (x_ld (v := I (aa.length : Int)) rfl (ldb_sc Sc3 (H.bl 0) rfl)) ?_;obtain ⟨c8, b8, hM⟩ := M.e_bind hM;refine s_call cf62 [ah, I (aa.length : Int)] rfl (zds az (aa.length : Int) (aM.app _) aF b8 _ (H.gt 3)) ?_
 rintro vq c9 ⟨r6, rfl, hvq, aj⟩
 subst vq;(try dsimp only at hM);replace H := H.bk aj;clear aj;refine s_val (x_not (b := r6) rfl) <| zA (B (!r6)) rfl <| s_nil ?_
 refine WD.cond (!r6) rfl (fun br => ?_) (fun br => ?_)
 ·replace hM := M.e_t hM br;refine WD.seq <| WD.of <| W.region rfl <| zA (I 9) rfl <| s_nil ?_;replace H := H.pk [2];refine WD.of ?_;refine W.ret ?_;refine bodyD_r (H.pk [0]) ?_;intro da H;replace H := H.nf
  have ak := M.e_pure hM
  exact ⟨_, resE_tmp rfl, ⟨9, ak, rfl, H⟩⟩
 replace hM := M.e_f hM br;refine WD.seq <| WD.of <| W.region rfl <| s_val (x_fa (v := Oq ae 3) rfl (fa_blk (o := 0) Fd29_3 Sz24)) <| s_val (x_ld (v := ag) rfl (ldb_sc Sc24 (H.bl 1) rfl)) ?_;obtain ⟨db, b9, hM⟩ := M.e_bind hM;refine s_call cf63 [ag, .func (.func 64) #[] #[]] rfl (zdV au (fun ax => zaQ ax) (aN.app _) aG ⟨64, [], rfl, cf64, fun aD bK bL aU ax bM aV bN aW aX => by obtain rfl := Town_arg aW; exact (zef ax aX aD (St.refl aV)).mono fun aU aD ⟨bO, aY, aZ, a6⟩ => by subst aY; exact ⟨aZ, a6⟩⟩ b9 _ (H.gt 3)) ?_
 rintro vq dc ⟨r7, rfl, hvq, aj⟩
 subst vq;(try dsimp only at hM);replace H := H.bk aj;clear aj;refine s_val (x_not (b := r7) rfl) <| zM (B (!r7)) rfl <| g_val (!(!r7)) (gy_f rfl) (fun hg => x_fa (v := Oq ae 3) rfl (fa_blk (o := 0) Fd29_3 Sz24)) <| g_val (!(!r7)) (gy_f rfl) (fun hg => x_ld (v := ag) (gd_of hg (Oq ae 3)) (ldb_sc Sc24 (H.bl 1) rfl)) <| g_val (!(!r7)) (gy_f rfl) (fun hg => x_mf (fs := []) (cs := [Pq aw]) rfl rfl) ?_;obtain ⟨r8, ca, hM⟩ := M.e_bind hM;refine t_gcall (!(!r7)) (gy_f rfl) cf63 (B r8) (fun _ => [ag, .func (.func 65) #[] #[Pq aw]]) (fun hg => lst2 (gd_of hg (ag)) (gd_of hg (.func (.func 65) #[] #[Pq aw]))) H (fun hg => (zdV au (fun ax => zaU ax (aa.length : Int)) (aN.app _) aG ⟨65, [Pq aw], rfl, cf65, fun aD bK bL aU ax bM aV bN aW aX => by obtain rfl := Town_arg aW; exact (zez ax (aa.length : Int) (Has.app (Has.here (k := 0) rfl) _) aX aD (St.refl aV)).mono fun aU aD ⟨bO, aY, aZ, a6⟩ => by subst aY; exact ⟨aZ, a6⟩⟩ (M.e_opt ca hg) _ (H.give (A := []) rfl)).mono fun v_ w_ ⟨y_, ak, aH, H_⟩ => by subst ak; exact ⟨aH, H.via H_⟩) ?_;intro dd H;refine g_val (!(!r7)) (gy_f rfl) (fun hg => x_not (b := r8) (gd_of hg (B r8))) <| s_val (x_por (b := !r7) (r := !r8) rfl rfl (fun hb => gd_of (c := !(!r7)) (by first | exact hb | (rw [hb]; rfl) | simp_all) (B (!r8)))) <| zM (B ((!r7) || (!r8))) rfl <| g_val (!((!r7) || (!r8))) (gy_f rfl) (fun hg => x_fa (v := Oq ae 4) rfl (fa_blk (o := 0) Fd29_4 Sz26)) <| g_val (!((!r7) || (!r8))) (gy_f rfl) (fun hg => x_ld (v := .agg #[I ao, I aq]) (gd_of hg (Oq ae 4)) (ldb_ag (ds := [I ao, I aq]) Ag26 Sz26 (H.bl 1) rfl rfl)) ?_;obtain ⟨r9, cb, hM⟩ := M.e_bind hM;refine t_gcall (!((!r7) || (!r8))) (gy_f rfl) cf61 (B r9) (fun _ => [.agg #[I ao, I aq]]) (fun hg => lst1 (gd_of hg (.agg #[I ao, I aq]))) H (fun hg => (zdT (⟨(ao : Int), (aq : Int)⟩ : Span) (M.e_opt cb hg) _ (H.give (A := []) rfl)).mono fun v_ w_ ⟨y_, ak, aH, H_⟩ => by subst ak; exact ⟨aH, H.via H_⟩) ?_;intro de H;refine g_val (!((!r7) || (!r8))) (gy_f rfl) (fun hg => x_not (b := r9) (gd_of hg (B r9))) <| s_val (x_por (b := ((!r7) || (!r8))) (r := !r9) rfl rfl (fun hb => gd_of (c := !((!r7) || (!r8))) (by first | exact hb | (rw [hb]; rfl) | simp_all) (B (!r9)))) <| zA (B (((!r7) || (!r8)) || (!r9))) rfl <| s_nil ?_
 refine WD.cond (((!r7) || (!r8)) || (!r9)) rfl (fun bt => ?_) (fun bt => ?_)
 ·replace hM := M.e_t hM bt;refine WD.seq <| WD.of <| W.region rfl <| zA (I 130) rfl <| s_nil ?_;replace H := H.pk [2];refine WD.of ?_;refine W.ret ?_;refine bodyD_r (H.pk [0]) ?_;intro dg H;replace H := H.nf
  have ak := M.e_pure hM
  exact ⟨_, resE_tmp rfl, ⟨130, ak, rfl, H⟩⟩
 replace hM := M.e_f hM bt;refine WD.of <| W.skip <| WD.seq <| WD.seq <| WD.of <| W.region rfl <| s_val (x_fa (v := Oq ae 6) rfl (fa_blk (o := 0) Fd29_5 Sz27)) <| s_val (x_ld (v := ai) rfl (ldb_sc Sc27 (H.bl 1) rfl)) ?_
 have di := (aC).len_le
 refine s_val (x_lenS T27.und rfl aC) <| zM (I 0) rfl <| s_nil <| WD.block ?_;obtain ⟨cc, bu, bv⟩ := M.e_bind hM
 obtain ⟨bU, bu⟩ := M.e_iter bu
 refine WD.loop (fun m a7 σ W => ∃ (s4 : Nat) (ρ : Env), σ = upds ρ [(1, Pq ae), (95, ai), (96, I (ac.length : Int)), (97, I (s4 : Int))] /\ M.iterN (zaB aa ab az au ao aq ac) m s4 = some cc /\ St w W [cBlk aw [I (aa.length : Int)] 3, cBlk ae [al, am, ah, ag, I ao, I aq, ai] 29, cMk a7] R) ?_ ?_
 ·exact ⟨_, 0, _, upds_of _ _ ⟨rfl, rfl, rfl, rfl, trivial⟩, bu, H⟩
 rintro dk a7 σ dq ⟨s4, ρ, rfl, bP, H⟩
 obtain ⟨ce, cf, dr, hM, bf⟩ := M.e_iterN bP
 simp only [zaB] at hM
 clear bP;refine WD.seq <| WD.of <| W.region rfl <| zC (s4 : Int) (ac.length : Int) (decide ((s4 : Int) < (ac.length : Int))) rfl rfl rfl <| s_nil <| WD.seq ?_
 refine WD.cond (decide ((s4 : Int) < (ac.length : Int))) rfl (fun aJ => ?_) (fun aJ => ?_)
 ·replace hM := M.e_t hM aJ
  replace aJ := dI aJ
  refine WD.of <| W.skip <| WD.seq <| WD.block <| WD.seq <| WD.of <| W.region rfl ?_;obtain ⟨dt, hM⟩ := M.e_gd hM;refine s_val (x_ix (v := vat ai 2 (Int.toNat (s4 : Int))) rfl rfl (Sl.ix (α := Flood) T27.und T27.size aC (by omega) (by omega))) ?_
  obtain ⟨av, cg, aK⟩ := Flood_atA aC (i := (s4 : Int)) (by omega) (by omega)
  replace aK : Sl _ av (ac.getD s4 default).stages := aK
  have du := aK.len_le
  refine s_val (x_ld (v := .agg #[I ((ac.getD s4 default).spring), av]) rfl (ld_ag Ag85 Sz85 (At.mono cg (aO.at H)))) ?_;refine t_alloc (cs := [I 0, .slice none 0 0]) H Al85 rfl ?_;intro aA dv H;refine t_sw 0 0 [I ((ac.getD s4 default).spring), av] (.agg #[I ((ac.getD s4 default).spring), av]) H rfl rfl Sz85 rfl rfl rfl (by simp only [List.all_cons, List.all_nil, Bool.true_and, Bool.and_true, Sl.oc aK]; try rfl) ?_;intro dw H;refine s_nil <| WD.seq <| WD.of <| W.region rfl ?_;refine t_alloc (cs := [I 0]) H Al3 rfl ?_;intro aL dx H;refine t_sw 0 0 [I 0] (I 0) H rfl rfl Sz3 rfl rfl rfl rfl ?_;intro dy H;refine s_nil <| WD.seq <| WD.seq <| WD.of <| W.region rfl <| s_val (x_ld (v := .agg #[al, am, ah, ag, I ao, I aq, ai]) rfl (ldb_ag (ds := [al, am, ah, ag, I ao, I aq, ai]) Ag29 Sz29 (H.bl 3) rfl rfl)) <| s_val (x_fa (v := Pq aA) rfl (fa_blk (o := 0) Fd85_0 Sz3)) <| s_val (x_ld (v := I ((ac.getD s4 default).spring)) rfl (ldb_sc Sc3 (H.bl 1) rfl)) <| s_val (x_max (kd := .i64) (a := 0) (b := (ac.getD s4 default).spring) rfl rfl) ?_;obtain ⟨dz, ck, hM⟩ := M.e_bind hM;refine s_call cf66 [.agg #[al, am, ah, ag, I ao, I aq, ai], I (max 0 ((ac.getD s4 default).spring))] rfl (zce aa ab az au ao aq ac (max 0 ((ac.getD s4 default).spring)) (aS.app _) aB (aT.app _) aE (aM.app _) aF (aN.app _) aG (aO.app _) aC ck _ (H.gt 5)) ?_
  rintro vq dA ⟨bg, aP, aQ, a8, aR, rfl, hvq, aj⟩
  subst vq;(try dsimp only at hM);replace H := H.bk aj;clear aj;refine s_nil <| WD.block ?_;obtain ⟨dB, cl, hM⟩ := M.e_bind hM;refine WD.range (L := [cBlk aL [I 0] 3, cBlk aR [al, am, ah, ag, I aP, I aQ, ai] 29, cBlk aA [I ((ac.getD s4 default).spring), av] 85, cBlk aw [I (aa.length : Int)] 3, cBlk ae [al, am, ah, ag, I ao, I aq, ai] 29, cBlk a8 [I bg] 3]) [Pq a8, Pq aR] (H.pk [6, 2, 1, 3, 4, 5, 0]) rfl cf96 ?_;intro bh bw bx cm bz H
  have hYC : YieldC Tryz.prog ([cMk (bw :: a7), cBlk aR [al, am, ah, ag, I aP, I aQ, ai] 29, cBlk aA [I ((ac.getD s4 default).spring), av] 85, cBlk aw [I (aa.length : Int)] 3, cBlk ae [al, am, ah, ag, I ao, I aq, ai] 29] ++ R) arII (yJ bh bx (fun s3 bi => bi = [cBlk aL [I s3] 3]) (fun (_ : Unit) _ => False) (fun _ => .ret)) (.func (.yield bh) #[] #[]) (M.yl zaw) := by
   refine YieldC.mk bz (fun s3 bi => bi = [cBlk aL [I s3] 3]) (fun (_ : Unit) _ => False) (fun _ => .ret) zaw (by rintro s3 _ h_; obtain ⟨rfl⟩ := h_; rfl) (fun _ _ h_ => h_.elim) rfl (arII_len rfl) ?_;intro C_ dC x_ W_ cn
   obtain ⟨x, x2⟩ := x_
   obtain rfl := cn
   refine W.skip ?_
   refine ⟨rfl, rfl, ?_⟩
   intro w R ba bi s_ r co hM H
   skip
   obtain ⟨s3, cp⟩ : ∃ y_, y_ = s_ := ⟨_, rfl⟩
   subst cp
   obtain ⟨rfl⟩ := co
   replace aS := aS.sub ba
   replace aT := aT.sub ba
   replace aM := aM.sub ba
   replace aN := aN.sub ba
   replace aO := aO.sub ba
   replace hM : (zaw s3 (x, x2)).Ends r := hM
   simp only [zaw] at hM
   replace H := H.pk [0, 2, 3, 4, 5, 1];refine W.block <| W.region rfl <| s_val (x_ld (v := I s3) rfl (ldb_sc Sc3 (H.bl 0) rfl)) ?_;obtain ⟨dD, hM⟩ := M.e_gd hM;refine zR s3 1 (s3 + 1) rfl rfl rfl (by omega) ?_;refine t_sw 0 0 [I (s3 + 1)] (I (s3 + 1)) H rfl rfl Sz3 rfl rfl rfl rfl ?_;intro dE H;refine s_nil ?_
   exact ⟨s3 + 1, [cBlk aL [I (s3 + 1)] 3], (M.e_pure hM).symm, rfl, H.pick [0, 5, 1, 2, 3, 4] (by decide) rfl⟩
  replace H : St w cm (cAll (cObj bh (.loop bx) :: [cBlk aL [I 0] 3]) :: [cBlk a8 [I bg] 3, cMk (bw :: a7), cBlk aR [al, am, ah, ag, I aP, I aQ, ai] 29, cBlk aA [I ((ac.getD s4 default).spring), av] 85, cBlk aw [I (aa.length : Int)] 3, cBlk ae [al, am, ah, ag, I ao, I aq, ai] 29]) R := St.bundleB (A := cObj bh (.loop bx) :: [cBlk aL [I 0] 3]) (T := [cBlk a8 [I bg] 3, cMk (bw :: a7), cBlk aR [al, am, ah, ag, I aP, I aQ, ai] 29, cBlk aA [I ((ac.getD s4 default).spring), av] 85, cBlk aw [I (aa.length : Int)] 3, cBlk ae [al, am, ah, ag, I ao, I aq, ai] 29]) rfl (H.pk [0, 2, 7, 1, 3, 4, 5, 6])
  refine (zcb (M.yl zaw) (.inl 0) bg aa ab az au aP aQ ac hYC ⟨_, rfl, rfl⟩ (aS.app _) aB (aT.app _) aE (aM.app _) aF (aN.app _) aG (aO.app _) aC (Has.here (k := 1) rfl) cl _ (H.gt 5)).mono ?_
  rintro vq dF ⟨cq, q0, dG, rfl, hvq, aj, bQ⟩
  replace H := H.back aj rfl
  clear aj hYC
  rcases cq with s3 | _
  ·(try dsimp only at hM)
   obtain ⟨_, rfl, rfl⟩ := bQ
   refine ⟨_, [cBlk aL [I s3] 3, cBlk aR [al, am, ah, ag, I aP, I aQ, ai] 29, cBlk aA [I ((ac.getD s4 default).spring), av] 85, cBlk aw [I (aa.length : Int)] 3, cBlk ae [al, am, ah, ag, I ao, I aq, ai] 29, cBlk a8 [I q0] 3], H.unbundle.pick [0, 3, 1, 4, 5, 6, 7, 2] (by decide) rfl, bz.nb, ?_⟩
   intro dH H
   rw [bz.pd]
   replace H := H.nf
   try simp only []
   replace H := H.pk [0, 1, 3, 4, 5];refine WD.block <| WD.seq <| WD.of <| W.region rfl <| s_val (x_fa (v := Oq ae 2) rfl (fa_blk (o := 0) Fd29_2 Sz22)) <| s_val (x_ld (v := ah) rfl (ldb_sc Sc22 (H.bl 4) rfl)) <| s_val (x_fa (v := Pq aA) rfl (fa_blk (o := 0) Fd85_0 Sz3)) <| s_val (x_ld (v := I ((ac.getD s4 default).spring)) rfl (ldb_sc Sc3 (H.bl 2) rfl)) ?_;obtain ⟨dJ, cu, hM⟩ := M.e_bind hM;refine s_call cf67 [ah, I ((ac.getD s4 default).spring)] rfl (zeV az ((ac.getD s4 default).spring) (aM.app _) aF cu _ (H.gt 5)) ?_
   rintro vq dK ⟨ay, rfl, hvq, aj⟩
   subst vq;(try dsimp only at hM);replace H := H.bk aj;clear aj;refine s_val (x_not (b := ay) rfl) <| zM (B (!ay)) rfl <| g_val (!(!ay)) (gy_f rfl) (fun hg => x_fa (v := Oq aA 1) rfl (fa_blk (o := 0) Fd85_1 Sz22)) <| g_val (!(!ay)) (gy_f rfl) (fun hg => x_ld (v := av) (gd_of hg (Oq aA 1)) (ldb_sc Sc22 (H.bl 2) rfl)) ?_
   have dL := (aK).len_le
   refine g_val (!(!ay)) (gy_f rfl) (fun hg => x_lenS T22.und (gd_of hg (av)) aK) <| g_val (!(!ay)) (gy_f rfl) (fun hg => x_ld (v := I s3) rfl (ldb_sc Sc3 (H.bl 1) rfl)) <| g_val (!(!ay)) (gy_f rfl) (fun hg => x_cmp (kd := .i64) (r := (((ac.getD s4 default).stages).length : Int) != s3) (gd_of hg (I (((ac.getD s4 default).stages).length : Int))) (gd_of hg (I s3)) rfl) <| s_val (x_por (b := !ay) (r := (((ac.getD s4 default).stages).length : Int) != s3) rfl rfl (fun hb => gd_of (c := !(!ay)) (by first | exact hb | (rw [hb]; rfl) | simp_all) (B ((((ac.getD s4 default).stages).length : Int) != s3)))) <| zA (B ((!ay) || ((((ac.getD s4 default).stages).length : Int) != s3))) rfl <| s_nil ?_
   refine WD.cond ((!ay) || ((((ac.getD s4 default).stages).length : Int) != s3)) rfl (fun bA => ?_) (fun bA => ?_)
   ·replace hM := M.e_t hM bA;refine WD.seq <| WD.of <| W.region rfl <| zA (I 2) rfl <| s_nil ?_;replace H := H.pk [0, 3, 4];refine WD.of ?_;refine W.ret ?_
    have cw := M.e_inr hM bf
    subst cw;replace hM := bv;(try dsimp only at hM);refine bodyD_r (H.pk [0, 1, 2]) ?_;intro dM H;replace H := H.nf
    have ak := M.e_pure hM
    exact ⟨_, resE_tmp rfl, ⟨2, ak, rfl, (H.pk [])⟩⟩
   replace hM := M.e_f hM bA;refine WD.seq <| WD.of <| W.region rfl <| s_val (x_fa (v := Oq aA 1) rfl (fa_blk (o := 0) Fd85_1 Sz22)) <| s_val (x_ld (v := av) rfl (ldb_sc Sc22 (H.bl 2) rfl)) ?_;obtain ⟨dN, cx, hM⟩ := M.e_bind hM;refine s_call cf53 [av, .func (.func 68) #[] #[]] rfl (zdB ((ac.getD s4 default).stages) (fun ax => zaC ax) (aO.app _) aK ⟨68, [], rfl, cf68, fun aD bK bL aU ax bM aV bN aW aX => by obtain rfl := Arg.int aW; exact (zdO ax aX aD (St.refl aV)).mono fun aU aD ⟨bO, aY, aZ, a6⟩ => by subst aY; exact ⟨aZ, a6⟩⟩ cx _ (H.gt 5)) ?_
   rintro vq dO ⟨bB, rfl, hvq, aj⟩
   subst vq;(try dsimp only at hM);replace H := H.bk aj;clear aj;refine s_val (x_not (b := bB) rfl) <| zA (B (!bB)) rfl <| s_nil ?_
   refine WD.cond (!bB) rfl (fun bC => ?_) (fun bC => ?_)
   ·replace hM := M.e_t hM bC;refine WD.seq <| WD.of <| W.region rfl <| zA (I 130) rfl <| s_nil ?_;replace H := H.pk [0, 3, 4];refine WD.of ?_;refine W.ret ?_
    have cy := M.e_inr hM bf
    subst cy;replace hM := bv;(try dsimp only at hM);refine bodyD_r (H.pk [0, 1, 2]) ?_;intro dP H;replace H := H.nf
    have ak := M.e_pure hM
    exact ⟨_, resE_tmp rfl, ⟨130, ak, rfl, (H.pk [])⟩⟩
   replace hM := M.e_f hM bC;refine WD.of <| W.skip <| WD.of <| W.region rfl <| zR (s4 : Int) 1 ((s4 : Int) + 1) rfl rfl rfl (by omega) <| zM (I ((s4 : Int) + 1)) rfl <| s_nil ?_
   exact ⟨ce, cf, s4 + 1, _, upds_of _ _ ⟨rfl, rfl, rfl, rfl, trivial⟩, M.e_inl hM bf, (H.pk [3, 4, 0])⟩
  obtain ⟨_, _, h_⟩ := bQ; exact h_.elim
 replace hM := M.e_f hM aJ
 replace aJ := dI aJ
 refine WD.of ?_;refine W.exit ?_
 have cz := M.e_inr hM bf
 subst cz;replace hM := bv;(try dsimp only at hM);replace H := H.pk [2];refine WD.seq <| WD.of <| W.region rfl <| zA (I 0) rfl <| s_nil <| WD.of ?_;refine W.ret ?_;refine bodyD_r (H.pk [0]) ?_;intro dQ H;replace H := H.nf
 have ak := M.e_pure hM
 exact ⟨_, resE_tmp rfl, ⟨0, ak, rfl, H⟩⟩

def zak (ac : List Int) (ae : List Span) (ag : List Int) (ah : List Town) (aa ab : Int) (ai : List Flood) : M (Int ⊕ (Int × Int × Int)) :=
  M.bind (zay ac ae ag ah aa ab ai) fun r2 =>
  bif r2 != 0 then (
  M.pure (.inl r2))
  else (
  M.pure (.inr (aa, ab, 0)))
theorem zaJ {R : List Chunk} {aw : Cells} {ac : Value} {ax : Cells} {ae : Value} {ay : Cells} {ag : Value} {az : Cells} {ah : Value} {aA : Cells} {ai : Value} (ak : List Int) (al : List Span) (am : List Int) (ao : List Town) (aa : Int) (ab : Int) (aq : List Flood) (aF : Reads R aw) (aG : Sl aw ac ak) (aH : Reads R ax) (aI : Sl ax ae al) (aJ : Reads R ay) (aK : Sl ay ag am) (aL : Reads R az) (aM : Sl az ah ao) (aN : Reads R aA) (aO : Sl aA ai aq) {r : (Int ⊕ (Int × Int × Int))} (hM : (zak ak al am ao aa ab aq).Ends r) (w : World) (H : St w w [] R) : Ret Tryz.prog 72 #[.agg #[ac, ae, ag, ah, I aa, I ab, ai]] w fun v w' => (∃ (y0 : Int), (.inl y0) = r /\ v = .tuple #[.pointer none, I y0] /\ St w w' [] R) ∨ (∃ (y0 : Int) (y1 : Int) (y2 : Int) (aB : Nat) (aC : Nat) (aP : Base), (.inr (y0, y1, y2)) = r /\ v = .tuple #[Pq aB, I y2] /\ St w w' [cBlk aB [ac, ae, ag, ah, I y0, I y1, ai, .map (some aC)] 111, cMem encDm aC aP (zaa ak al am ao y0 y1 aq)] R) := by
 refine ret_of_W Tryz.func72 rfl rfl rfl <| W.seq <| W.region rfl ?_;refine t_bx [ac, ae, ag, ah, I aa, I ab, ai] H rfl ?_;intro aS aT H;refine zA (.pointer none) rfl <| zA (I 0) rfl <| s_nil <| W.seq <| W.seq <| W.region rfl <| s_val (x_ld (v := .agg #[ac, ae, ag, ah, I aa, I ab, ai]) rfl (ldb_ag (ds := [ac, ae, ag, ah, I aa, I ab, ai]) Ag29 Sz29 (H.bl 0) rfl rfl)) ?_;obtain ⟨aU, aQ, hM⟩ := M.e_bind hM;refine s_call cf19 [.agg #[ac, ae, ag, ah, I aa, I ab, ai]] rfl (zeI ak al am ao aa ab aq (aF.app _) aG (aH.app _) aI (aJ.app _) aK (aL.app _) aM (aN.app _) aO aQ _ (H.gt 1)) ?_
 rintro vq aV ⟨r2, rfl, hvq, aD⟩
 subst vq;(try dsimp only at hM);replace H := H.bk aD;clear aD;refine zA (I r2) rfl <| s_nil <| W.seq <| W.region rfl <| zM (I r2) rfl <| zC r2 0 (r2 != 0) rfl rfl rfl <| s_nil ?_
 refine W.cond (r2 != 0) rfl (fun aj => ?_) (fun aj => ?_)
 ·replace hM := M.e_t hM aj
  replace aj := dI aj
  refine W.seq <| W.region rfl <| zM (I r2) rfl <| zA (.pointer none) rfl <| zA (I r2) rfl <| s_nil ?_;refine W.ret ?_
  have av := M.e_pure hM
  exact ⟨_, resE_tmp2 rfl, .inl (⟨r2, av, rfl, (H.pk [])⟩)⟩
 replace hM := M.e_f hM aj
 replace aj := dI aj
 refine W.skip <| W.seq <| W.region rfl <| s_val (x_ld (v := .agg #[ac, ae, ag, ah, I aa, I ab, ai]) rfl (ldb_ag (ds := [ac, ae, ag, ah, I aa, I ab, ai]) Ag29 Sz29 (H.bl 0) rfl rfl)) ?_;refine t_mkmem encDm (zaa ak al am ao aa ab aq) H ?_;intro au aR aW H;refine s_val (x_bld (ps := [(0, .agg #[ac, ae, ag, ah, I aa, I ab, ai]), (1, .map (some au))]) (zs := [.slice none 0 0, .slice none 0 0, .slice none 0 0, .slice none 0 0, I 0, I 0, .slice none 0 0, .map none]) (L' := [ac, ae, ag, ah, I aa, I ab, ai, .map (some au)]) rfl Tryz.underlying111 Al111 rfl (Bd111 Tryz.underlying111) (.cons (cs := [ac, ae, ag, ah, I aa, I ab, ai]) rfl rfl rfl rfl rfl <| .cons (cs := [.map (some au)]) rfl rfl rfl rfl rfl <| .nil)) ?_;refine t_bx [ac, ae, ag, ah, I aa, I ab, ai, .map (some au)] H rfl ?_;intro aE aX H;refine zA (Pq aE) rfl <| zA (I 0) rfl <| s_nil ?_;refine W.ret ?_
 have av := M.e_pure hM
 exact ⟨_, resE_tmp2 rfl, .inr (⟨aa, ab, 0, aE, au, aR, av, rfl, (H.pk [0, 1])⟩)⟩

def za8 (ac : List Int) (ae : List Span) (aa : List Int) (ab : List Town) (ag ah : Int) (ai : List Flood) (s2 : Nat) : (Nat × (List Dem)) -> M ((Nat × (List Dem)) ⊕ ((List Dem) × (List Dem))) := fun (s, l4) =>
  bif decide ((s : Int) < (ab.length : Int)) then (
  M.grd (decide ((s : Int) < (ab.length : Int))) <|
  M.bind (za2 ac ae aa ab ag ah ai (aa.getD s2 0) ((ab.getD s default).station)) fun (aj, ak, r1) =>
  bif r1 then (
  M.grd (decide ((l4.length + ([(⟨(aa.getD s2 0 : Int), (s : Int)⟩ : Dem)]).length) * 16 <= 140737488355328)) <|
  M.pure (.inl (s + 1, l4 ++ ([(⟨(aa.getD s2 0 : Int), (s : Int)⟩ : Dem)]))))
  else (
  M.pure (.inl (s + 1, l4))))
  else (
  M.pure (.inr (l4, l4)))
def zaW (ab : List Int) (ac : List Span) (aa : List Int) (ae : List Town) (ag ah : Int) (ai : List Flood) : (Nat × (List Dem)) -> M ((Nat × (List Dem)) ⊕ ((List Dem) × (List Dem))) := fun (s2, l6) =>
  bif decide ((s2 : Int) < (aa.length : Int)) then (
  M.grd (decide ((s2 : Int) < (aa.length : Int))) <|
  M.bind (M.iter (za8 ab ac aa ae ag ah ai s2) (0, l6)) fun (l2, l5) =>
  M.pure (.inl (s2 + 1, l5)))
  else (
  M.pure (.inr (l6, l6)))
def zao (aa : List Int) (ab : List Span) (ac : List Int) (ae : List Town) (ag ah : Int) (ai : List Flood) : M (List Dem) :=
  M.bind (M.iter (zaW aa ab ac ae ag ah ai) (0, [])) fun (l7, l8) =>
  M.pure l8
theorem zc1 {R : List Chunk} {ac : Nat} {aE : Cells} {aF : Value} {aG : Cells} {aH : Value} {aI : Cells} {ai : Value} {aJ : Cells} {am : Value} {aK : Cells} {aL : Value} {aV : Nat} (ao : List Int) (aq : List Span) (aa : List Int) (ab : List Town) (au : Int) (av : Int) (aw : List Flood) (aW : Reads R aE) (aX : Sl aE aF ao) (aY : Reads R aG) (aZ : Sl aG aH aq) (aM : Reads R aI) (ax : Sl aI ai aa) (aN : Reads R aJ) (ay : Sl aJ am ab) (a6 : Reads R aK) (a7 : Sl aK aL aw) (az : Has R (cBlk ac [aF, aH, ai, am, I au, I av, aL, .map (some aV)] 111)) {r : (List Dem)} (hM : (zao ao aq aa ab au av aw).Ends r) (w : World) (H : St w w [] R) : Ret Tryz.prog 77 #[Pq ac] w fun v w' => ∃ (y0 : List Dem) (u0 : Value), y0 = r /\ v = u0 /\ St w w' [cOwn (α := Dem) 61 u0 y0] R := by
 refine ret_of_W Tryz.func77 rfl rfl rfl <| W.seq <| W.region rfl <| zA (.slice none 0 0) rfl <| s_nil <| W.seq <| W.region rfl <| zA (.slice none 0 0) rfl <| s_nil <| W.seq <| W.seq ?_;refine W.region rfl <| zM (Pq ac) rfl <| s_val (x_nc (a := ⟨ac, 0, none⟩) rfl) <| s_val (x_fa (v := Pq ac) rfl (fa_blk (o := 0) Fd111_0 Sz29)) <| s_val (x_fa (v := Oq ac 2) rfl (fa_blk (o := 0) Fd29_2 Sz22)) <| s_val (x_ld (v := ai) rfl (ldb_sc Sc22 (az.blk H) rfl)) ?_
 have br := (ax).len_le
 refine s_val (x_lenS T22.und rfl ax) <| zM (I 0) rfl <| s_nil <| W.block ?_
 replace H := H.nilOwn (α := Dem) 61
 obtain ⟨a8, aA, ba⟩ := M.e_bind hM
 obtain ⟨bc, aA⟩ := M.e_iter aA
 refine W.loop (fun m σ W => ∃ (s2 : Nat) (l6 : List Dem) (ae : Value) (ρ : Env), σ = upds ρ [(0, Pq ac), (3, ae), (14, ai), (15, I (aa.length : Int)), (16, I (s2 : Int))] /\ M.iterN (zaW ao aq aa ab au av aw) m (s2, l6) = some a8 /\ St w W [cOwn (α := Dem) 61 ae l6] R) ?_ ?_
 ·exact ⟨_, 0, [], (.slice none 0 0), _, upds_of _ _ ⟨rfl, rfl, rfl, rfl, rfl, trivial⟩, aA, H⟩
 rintro bt σ bu ⟨s2, l6, ae, ρ, rfl, aO, H⟩
 obtain ⟨bf, bg, bv, hM, aP⟩ := M.e_iterN aO
 simp only [zaW] at hM
 clear aO;refine W.seq <| W.region rfl <| zC (s2 : Int) (aa.length : Int) (decide ((s2 : Int) < (aa.length : Int))) rfl rfl rfl <| s_nil <| W.seq ?_
 refine W.cond (decide ((s2 : Int) < (aa.length : Int))) rfl (fun ag => ?_) (fun ag => ?_)
 ·replace hM := M.e_t hM ag
  replace ag := dI ag
  refine W.skip <| W.seq <| W.block <| W.seq <| W.region rfl ?_;obtain ⟨bw, hM⟩ := M.e_gd hM;refine s_val (x_ix (v := vat ai 1 (Int.toNat (s2 : Int))) rfl rfl (Sl.ix (α := Int) T22.und T22.size ax (by omega) (by omega))) <| s_val (x_ld (v := I (aa.getD s2 0)) rfl (ld_sc Sc3 (At.mono (Int_at ax (i := (s2 : Int)) (by omega) (by omega)) (aM.at H)))) <| zA (I (aa.getD s2 0)) rfl <| s_nil <| W.seq <| W.region rfl <| zM (Pq ac) rfl <| s_val (x_nc (a := ⟨ac, 0, none⟩) rfl) <| s_val (x_fa (v := Pq ac) rfl (fa_blk (o := 0) Fd111_0 Sz29)) <| s_val (x_fa (v := Oq ac 3) rfl (fa_blk (o := 0) Fd29_3 Sz24)) ?_;refine s_val (x_ld (v := am) rfl (ldb_sc Sc24 (az.blk H) rfl)) ?_
  have bx := (ay).len_le
  refine s_val (x_lenS T24.und rfl ay) <| zM (I 0) rfl <| s_nil <| W.block ?_;obtain ⟨bh, aB, bi⟩ := M.e_bind hM
  obtain ⟨bc, aB⟩ := M.e_iter aB
  refine W.loop (fun m σ W => ∃ (s : Nat) (l4 : List Dem) (aj : Value) (ρ : Env), σ = upds ρ [(0, Pq ac), (3, aj), (5, I (aa.getD s2 0)), (14, ai), (15, I (aa.length : Int)), (16, I (s2 : Int)), (24, am), (25, I (ab.length : Int)), (26, I (s : Int))] /\ M.iterN (za8 ao aq aa ab au av aw s2) m (s, l4) = some bh /\ St w W [cOwn (α := Dem) 61 aj l4] R) ?_ ?_
  ·exact ⟨_, 0, l6, ae, _, upds_of _ _ ⟨rfl, rfl, rfl, rfl, rfl, rfl, rfl, rfl, rfl, trivial⟩, aB, H⟩
  rintro bz σ bA ⟨s, l4, aj, ρ, rfl, aQ, H⟩
  obtain ⟨aR, aS, bB, hM, aC⟩ := M.e_iterN aQ
  simp only [za8] at hM
  clear aQ;refine W.seq <| W.region rfl <| zC (s : Int) (ab.length : Int) (decide ((s : Int) < (ab.length : Int))) rfl rfl rfl <| s_nil <| W.seq ?_
  refine W.cond (decide ((s : Int) < (ab.length : Int))) rfl (fun ah => ?_) (fun ah => ?_)
  ·replace hM := M.e_t hM ah
   replace ah := dI ah
   refine W.skip <| W.seq <| W.block <| W.seq <| W.region rfl <| zM (I (s : Int)) rfl ?_;obtain ⟨bC, hM⟩ := M.e_gd hM;refine s_val (x_ix (v := vat am 3 (Int.toNat (s : Int))) rfl rfl (Sl.ix (α := Town) T24.und T24.size ay (by omega) (by omega))) <| s_val (x_ld (v := .agg #[I ((ab.getD s default).station), I ((ab.getD s default).lead), I ((ab.getD s default).alarm)]) rfl (ld_ag Ag91 Sz91 (At.mono (Town_atA ay (i := (s : Int)) (by omega) (by omega)) (aN.at H)))) ?_;refine t_alloc (cs := [I 0, I 0, I 0]) H Al91 rfl ?_;intro bj bD H;refine zA (I (s : Int)) rfl ?_;refine t_sw 0 0 [I ((ab.getD s default).station), I ((ab.getD s default).lead), I ((ab.getD s default).alarm)] (.agg #[I ((ab.getD s default).station), I ((ab.getD s default).lead), I ((ab.getD s default).alarm)]) H rfl rfl Sz91 rfl rfl rfl rfl ?_;intro bE H;refine s_nil <| W.seq <| W.region rfl <| zM (Pq ac) rfl <| zM (I (aa.getD s2 0)) rfl <| s_val (x_fa (v := Pq bj) rfl (fa_blk (o := 0) Fd91_0 Sz3)) <| s_val (x_ld (v := I ((ab.getD s default).station)) rfl (ldb_sc Sc3 (H.bl 0) rfl)) ?_;obtain ⟨bF, bm, hM⟩ := M.e_bind hM;refine s_call cf74 [Pq ac, I (aa.getD s2 0), I ((ab.getD s default).station)] rfl (zdx ao aq aa ab au av aw (aa.getD s2 0) ((ab.getD s default).station) (aW.app _) aX (aY.app _) aZ (aM.app _) ax (aN.app _) ay (a6.app _) a7 (az.app _) bm _ (H.gt 2)) ?_
   rintro vq bG ⟨ak, al, r1, rfl, hvq, aT⟩
   subst vq;(try dsimp only at hM);replace H := H.bk aT;clear aT;refine zM (.tuple #[.agg #[I ak, I al], B r1]) rfl <| zX [.agg #[I ak, I al], B r1] (.agg #[I ak, I al]) rfl rfl <| zX [.agg #[I ak, I al], B r1] (B r1) rfl rfl ?_;refine t_alloc (cs := [I 0, I 0]) H Al26 rfl ?_;intro bH bI H;refine t_sw 0 0 [I ak, I al] (.agg #[I ak, I al]) H rfl rfl Sz26 rfl rfl rfl rfl ?_;intro bJ H;refine zA (B r1) rfl <| s_nil ?_;replace H := H.pk [2];refine W.seq <| W.region rfl <| zM (B r1) rfl <| s_nil ?_
   refine W.cond r1 rfl (fun aD => ?_) (fun aD => ?_)
   ·replace hM := M.e_t hM aD;refine W.region rfl <| zM aj rfl <| zM (I (aa.getD s2 0)) rfl <| zM (I (s : Int)) rfl <| s_val (x_bld (ps := [(0, I (aa.getD s2 0)), (1, I (s : Int))]) (zs := [I 0, I 0]) (L' := [I (aa.getD s2 0), I (s : Int)]) rfl Tryz.underlying61 Al61 rfl (Bd61 Tryz.underlying61) (.cons (cs := [I (aa.getD s2 0)]) rfl rfl rfl rfl rfl <| .cons (cs := [I (s : Int)]) rfl rfl rfl rfl rfl <| .nil)) ?_;refine t_bs (α := Dem) T62 [.agg #[I (aa.getD s2 0), I (s : Int)]] [(⟨(aa.getD s2 0 : Int), (s : Int)⟩ : Dem)] H rfl (.cons rfl (Flat.rep_enc _ (⟨(aa.getD s2 0 : Int), (s : Int)⟩ : Dem)) <| .nil) rfl rfl rfl ?_;intro bn bK H;obtain ⟨bL, hM⟩ := M.e_gd hM;refine t_app (α := Dem) (k := 1) (l := l4) (l2 := [(⟨(aa.getD s2 0 : Int), (s : Int)⟩ : Dem)]) (l' := l4 ++ ([(⟨(aa.getD s2 0 : Int), (s : Int)⟩ : Dem)])) (vy := bn) T62 rfl H rfl rfl rfl (H.os 0) (H.ol 0) (rfl) (by first | omega | (simp only [List.length_nil] at *; omega)) ?_;intro aU bM H;replace H := H.nf;refine zA aU rfl <| s_nil <| W.region rfl <| zR (s : Int) 1 ((s : Int) + 1) rfl rfl rfl (by omega) <| zM (I ((s : Int) + 1)) rfl <| s_nil ?_
    exact ⟨aR, aS, s + 1, l4 ++ ([(⟨(aa.getD s2 0 : Int), (s : Int)⟩ : Dem)]), aU, _, upds_of _ _ ⟨rfl, rfl, rfl, rfl, rfl, rfl, rfl, rfl, rfl, trivial⟩, M.e_inl hM aC, (H.pk [1])⟩
   replace hM := M.e_f hM aD;refine W.skip <| W.region rfl <| zR (s : Int) 1 ((s : Int) + 1) rfl rfl rfl (by omega) <| zM (I ((s : Int) + 1)) rfl <| s_nil ?_
   exact ⟨aR, aS, s + 1, l4, aj, _, upds_of _ _ ⟨rfl, rfl, rfl, rfl, rfl, rfl, rfl, rfl, rfl, trivial⟩, M.e_inl hM aC, H⟩
  replace hM := M.e_f hM ah
  replace ah := dI ah
  refine W.exit ?_
  have bo := M.e_inr hM aC
  subst bo;replace hM := bi;(try dsimp only at hM);refine W.region rfl <| zR (s2 : Int) 1 ((s2 : Int) + 1) rfl rfl rfl (by omega) <| zM (I ((s2 : Int) + 1)) rfl <| s_nil ?_
  exact ⟨bf, bg, s2 + 1, l4, aj, _, upds_of _ _ ⟨rfl, rfl, rfl, rfl, rfl, trivial⟩, M.e_inl hM aP, H⟩
 replace hM := M.e_f hM ag
 replace ag := dI ag
 refine W.exit ?_
 have bp := M.e_inr hM aP
 subst bp;replace hM := ba;(try dsimp only at hM);refine W.seq <| W.region rfl <| zM ae rfl <| zA ae rfl <| s_nil ?_;refine W.ret ?_
 have bq := M.e_pure hM
 exact ⟨_, resE_tmp rfl, ⟨l6, ae, bq, rfl, H⟩⟩

def zbU (s : List Dem) (f : Dem -> M Bool) : Nat -> M (Nat ⊕ (Int ⊕ Unit)) := fun s2 =>
  bif decide ((s2 : Int) < (s.length : Int)) then (
  M.grd (decide ((s2 : Int) < (s.length : Int))) <|
  M.bind (f (s.getD s2 default)) fun r2 =>
  bif r2 then (
  M.pure (.inr (.inl (s2 : Int))))
  else (
  M.pure (.inl (s2 + 1))))
  else (
  M.pure (.inr (.inr ())))
def zdq (s : List Dem) (f : Dem -> M Bool) : M Int :=
  M.bind (M.iter (zbU s f) 0) fun x_ => match x_ with
  | (.inl s3) => (
  M.pure s3)
  | (.inr (_ : Unit)) => (
  M.pure (-1))
theorem zeE {R : List Chunk} {ak : Cells} {ab : Value} {ac : Value} (s : List Dem) (f : Dem -> M Bool) (ao : Reads R ak) (ae : Sl ak ab s) (aq : FnM Tryz.prog R ac f) {r : Int} (hM : (zdq s f).Ends r) (w : World) (H : St w w [] R) : Ret Tryz.prog 99 #[ab, ac] w fun v w' => ∃ (y0 : Int), y0 = r /\ v = I y0 /\ St w w' [] R := by
 refine ret_of_W Tryz.func99 rfl rfl rfl <| W.seq <| W.region rfl <| zA (I 0) rfl <| s_nil <| W.seq <| W.seq <| W.region rfl <| zM ab rfl ?_
 have aA := (ae).len_le
 refine s_val (x_lenS T62.und rfl ae) <| zM (I 0) rfl <| s_nil <| W.block ?_;obtain ⟨au, ag, al⟩ := M.e_bind hM
 obtain ⟨aB, ag⟩ := M.e_iter ag
 refine W.loop (fun m σ W => ∃ (s2 : Nat) (ρ : Env), σ = upds ρ [(0, ab), (1, ac), (7, I (s.length : Int)), (8, I (s2 : Int))] /\ M.iterN (zbU s f) m s2 = some au /\ St w W [] R) ?_ ?_
 ·exact ⟨_, 0, _, upds_of _ _ ⟨rfl, rfl, rfl, rfl, trivial⟩, ag, H⟩
 rintro aC σ aD ⟨s2, ρ, rfl, am, H⟩
 obtain ⟨av, aw, aE, hM, ah⟩ := M.e_iterN am
 simp only [zbU] at hM
 clear am;refine W.seq <| W.region rfl <| zC (s2 : Int) (s.length : Int) (decide ((s2 : Int) < (s.length : Int))) rfl rfl rfl <| s_nil <| W.seq ?_
 refine W.cond (decide ((s2 : Int) < (s.length : Int))) rfl (fun aa => ?_) (fun aa => ?_)
 ·replace hM := M.e_t hM aa
  replace aa := dI aa
  refine W.skip <| W.seq <| W.block <| W.seq <| W.region rfl <| zM (I (s2 : Int)) rfl <| zA (I (s2 : Int)) rfl <| s_nil <| W.seq <| W.region rfl ?_;refine zM ac rfl <| zM ab rfl <| zM (I (s2 : Int)) rfl ?_;obtain ⟨aF, hM⟩ := M.e_gd hM;refine s_val (x_ix (v := vat ab 2 (Int.toNat (s2 : Int))) rfl rfl (Sl.ix (α := Dem) T62.und T62.size ae (by omega) (by omega))) <| s_val (x_ld (v := .agg #[I ((s.getD s2 default).spring), I ((s.getD s2 default).town)]) rfl (ld_ag Ag61 Sz61 (At.mono (Dem_atA ae (i := (s2 : Int)) (by omega) (by omega)) (ao.at H)))) ?_;obtain ⟨r2, ax, hM⟩ := M.e_bind hM;refine t_callM H aq rfl rfl (s.getD s2 default) Reads.none ⟨_, rfl, rfl⟩ ax ?_;intro aG H;refine s_nil ?_
  refine W.cond r2 rfl (fun ai => ?_) (fun ai => ?_)
  ·replace hM := M.e_t hM ai;refine W.seq <| W.region rfl <| zM (I (s2 : Int)) rfl <| zA (I (s2 : Int)) rfl <| s_nil ?_;refine W.ret ?_
   have ay := M.e_inr hM ah
   subst ay;replace hM := al;(try dsimp only at hM)
   have aj := M.e_pure hM
   exact ⟨_, resE_tmp rfl, ⟨(s2 : Int), aj, rfl, H⟩⟩
  replace hM := M.e_f hM ai;refine W.skip <| W.region rfl <| zR (s2 : Int) 1 ((s2 : Int) + 1) rfl rfl rfl (by omega) <| zM (I ((s2 : Int) + 1)) rfl <| s_nil ?_
  exact ⟨av, aw, s2 + 1, _, upds_of _ _ ⟨rfl, rfl, rfl, rfl, trivial⟩, M.e_inl hM ah, H⟩
 replace hM := M.e_f hM aa
 replace aa := dI aa
 refine W.exit ?_
 have az := M.e_inr hM ah
 subst az;replace hM := al;(try dsimp only at hM);refine W.seq <| W.region rfl <| zA (I (-1)) rfl <| s_nil ?_;refine W.ret ?_
 have aj := M.e_pure hM
 exact ⟨_, resE_tmp rfl, ⟨(-1), aj, rfl, H⟩⟩

def zbQ (s : List Dem) (f : Dem -> M Bool) : M Bool :=
  M.bind (zdq s f) fun r2 =>
  M.pure (decide (0 <= r2))
theorem zdG {R : List Chunk} {ac : Cells} {aa : Value} {ab : Value} (s : List Dem) (f : Dem -> M Bool) (ag : Reads R ac) (ah : Sl ac aa s) (ai : FnM Tryz.prog R ab f) {r : Bool} (hM : (zbQ s f).Ends r) (w : World) (H : St w w [] R) : Ret Tryz.prog 97 #[aa, ab] w fun v w' => ∃ (y0 : Bool), y0 = r /\ v = B y0 /\ St w w' [] R := by
 refine ret_of_W Tryz.func97 rfl rfl rfl <| W.seq <| W.region rfl <| zA (B false) rfl <| s_nil <| W.seq <| W.region rfl <| zM aa rfl <| zM ab rfl ?_;obtain ⟨al, aj, hM⟩ := M.e_bind hM;refine s_call cf99 [aa, ab] rfl (zeE s f (ag.app _) ah (ai.app _) aj _ (H.gt 0)) ?_
 rintro vq am ⟨r2, rfl, hvq, ae⟩
 subst vq;(try dsimp only at hM);replace H := H.bk ae;clear ae;refine zC r2 0 (decide (0 <= r2)) rfl rfl rfl <| zA (B (decide (0 <= r2))) rfl <| s_nil ?_;refine W.ret ?_
 have ak := M.e_pure hM
 exact ⟨_, resE_tmp rfl, ⟨(decide (0 <= r2)), ak, rfl, H⟩⟩

def zcN (x : Dem) (aa ab : Int) : M Bool :=
  M.pure (decide (x = (⟨(aa : Int), (ab : Int)⟩ : Dem)))
theorem zeo {R : List Chunk} {ac : Nat} (x : Dem) (aa : Int) (ab : Int) (ae : Has R (cBlk ac [I aa, I ab] 61)) {r : Bool} (hM : (zcN x aa ab).Ends r) (w : World) (H : St w w [] R) : Ret Tryz.prog 98 #[.agg #[I x.spring, I x.town], Pq ac] w fun v w' => ∃ (y0 : Bool), y0 = r /\ v = B y0 /\ St w w' [] R := by
 refine ret_of_W Tryz.func98 rfl rfl rfl <| W.seq <| W.region rfl ?_;refine t_bx [I x.spring, I x.town] H rfl ?_;intro ah ai H;refine zA (B false) rfl <| s_nil <| W.seq <| W.region rfl <| s_val (x_ld (v := .agg #[I x.spring, I x.town]) rfl (ldb_ag (ds := [I x.spring, I x.town]) Ag61 Sz61 (H.bl 0) rfl rfl)) <| s_val (x_ld (v := .agg #[I aa, I ab]) rfl (ldb_ag (ds := [I aa, I ab]) Ag61 Sz61 (ae.blk H) rfl rfl)) <| s_val (x_eqS (eqT61 x (⟨(aa : Int), (ab : Int)⟩ : Dem) _) gdT61 rfl rfl) <| zA (B (decide (x = (⟨(aa : Int), (ab : Int)⟩ : Dem)))) rfl <| s_nil ?_;refine W.ret ?_
 have ag := M.e_pure hM
 exact ⟨_, resE_tmp rfl, ⟨(decide (x = (⟨(aa : Int), (ab : Int)⟩ : Dem))), ag, rfl, (H.pk [])⟩⟩

def zck (aa : List Int) (ab : List Span) (ac : List Int) (ae : List Town) (ag ah : Int) (ai : List Flood) (d : Dem) : M Bool :=
  M.bind (zao aa ab ac ae ag ah ai) fun r2 =>
  M.bind (zbQ r2 (fun aj => zcN aj d.spring d.town)) fun r3 =>
  M.pure r3
theorem zdF {R : List Chunk} {ab : Nat} {ao : Cells} {aq : Value} {au : Cells} {av : Value} {aw : Cells} {ax : Value} {ay : Cells} {az : Value} {aA : Cells} {aB : Value} {aD : Nat} (ac : List Int) (ae : List Span) (ag : List Int) (ah : List Town) (ai : Int) (aj : Int) (ak : List Flood) (d : Dem) (aE : Reads R ao) (aF : Sl ao aq ac) (aG : Reads R au) (aH : Sl au av ae) (aI : Reads R aw) (aJ : Sl aw ax ag) (aK : Reads R ay) (aL : Sl ay az ah) (aM : Reads R aA) (aN : Sl aA aB ak) (aO : Has R (cBlk ab [aq, av, ax, az, I ai, I aj, aB, .map (some aD)] 111)) {r : Bool} (hM : (zck ac ae ag ah ai aj ak d).Ends r) (w : World) (H : St w w [] R) : Ret Tryz.prog 79 #[Pq ab, .agg #[I d.spring, I d.town]] w fun v w' => ∃ (y0 : Bool), y0 = r /\ v = B y0 /\ St w w' [] R := by
 refine ret_of_W Tryz.func79 rfl rfl rfl <| W.seq <| W.region rfl ?_;refine t_bx [I d.spring, I d.town] H rfl ?_;intro al a6 H;refine zA (B false) rfl <| s_nil <| W.seq <| W.region rfl <| zM (Pq ab) rfl ?_;obtain ⟨a7, aP, hM⟩ := M.e_bind hM;refine s_call cf77 [Pq ab] rfl (zc1 ac ae ag ah ai aj ak (aE.app _) aF (aG.app _) aH (aI.app _) aJ (aK.app _) aL (aM.app _) aN (aO.app _) aP _ (H.gt 1)) ?_
 rintro vq a8 ⟨r2, aQ, rfl, hvq, aa⟩
 subst vq;(try dsimp only at hM);replace H := H.bk aa;clear aa;refine s_val (x_mf (fs := []) (cs := [Pq al]) rfl rfl) ?_;obtain ⟨ba, aR, hM⟩ := M.e_bind hM;refine s_call cf97 [aQ, .func (.func 98) #[] #[Pq al]] rfl (zdG r2 (fun am => zcN am d.spring d.town) (rdo 0) (H.os 0) ⟨98, [Pq al], rfl, cf98, fun aC bc bf aS am bg aT bh aU aV => by obtain rfl := Dem_arg aU; exact (zeo am d.spring d.town (Has.app (Has.here (k := 1) rfl) _) aV aC (St.refl aT)).mono fun aS aC ⟨bi, aW, aX, aY⟩ => by subst aW; exact ⟨aX, aY⟩⟩ aR _ (H.gt 2)) ?_
 rintro vq bj ⟨r3, rfl, hvq, aa⟩
 subst vq;(try dsimp only at hM);replace H := H.bk aa;clear aa;refine zA (B r3) rfl <| s_nil ?_;replace H := H.pk [];refine W.ret ?_
 have aZ := M.e_pure hM
 exact ⟨_, resE_tmp rfl, ⟨r3, aZ, rfl, H⟩⟩

def zat (aa : List Int) (ab : List Span) (ac : List Int) (ae : List Town) (aj ak : Int) (ag : List Flood) (d : Dem) : M ((List Int) × Int) :=
  M.bind (zak aa ab ac ae aj ak ag) fun x_ => match x_ with
  | (.inl r1) => (
  bif r1 != 0 then (
  M.pure (([]), r1))
  else (
  M.fail))
  | (.inr (ah, ai, al)) => (
  bif al != 0 then (
  M.fail)
  else (
  M.bind (zck aa ab ac ae ah ai ag d) fun r2 =>
  bif !r2 then (
  M.pure (([]), 2))
  else (
  M.bind (zaa aa ab ac ae ah ai ag d) fun r3 =>
  M.grd (decide (r3.length * 8 <= 140737488355328)) <|
  M.pure (r3, 0))))
theorem zda {R : List Chunk} {aK : Cells} {ah : Value} {aL : Cells} {ai : Value} {aM : Cells} {aj : Value} {aN : Cells} {ak : Value} {aO : Cells} {al : Value} (am : List Int) (ao : List Span) (aq : List Int) (au : List Town) (ae : Int) (ag : Int) (av : List Flood) (d : Dem) (az : Reads R aK) (aA : Sl aK ah am) (aB : Reads R aL) (aC : Sl aL ai ao) (aD : Reads R aM) (aE : Sl aM aj aq) (aF : Reads R aN) (aG : Sl aN ak au) (aH : Reads R aO) (aI : Sl aO al av) {r : ((List Int) × Int)} (hM : (zat am ao aq au ae ag av d).Ends r) (w : World) (H : St w w [] R) : Ret Tryz.prog 32 #[.agg #[ah, ai, aj, ak, I ae, I ag, al], .agg #[I d.spring, I d.town]] w fun v w' => ∃ (y0 : List Int) (y1 : Int) (u0 : Value), (y0, y1) = r /\ v = .tuple #[u0, I y1] /\ St w w' [cOwn (α := Int) 3 u0 y0] R := by
 refine ret_of_W Tryz.func32 rfl rfl rfl <| W.seq <| W.region rfl ?_;refine t_bx [ah, ai, aj, ak, I ae, I ag, al] H rfl ?_;intro aZ a6 H;refine t_bx [I d.spring, I d.town] H rfl ?_;intro a7 a8 H;refine zA (.slice none 0 0) rfl <| zA (I 0) rfl <| s_nil <| W.seq <| W.region rfl <| s_val (x_ld (v := .agg #[ah, ai, aj, ak, I ae, I ag, al]) rfl (ldb_ag (ds := [ah, ai, aj, ak, I ae, I ag, al]) Ag29 Sz29 (H.bl 1) rfl rfl)) ?_;obtain ⟨ba, aS, hM⟩ := M.e_bind hM;refine s_call cf72 [.agg #[ah, ai, aj, ak, I ae, I ag, al]] rfl (zaJ am ao aq au ae ag av (az.app _) aA (aB.app _) aC (aD.app _) aE (aF.app _) aG (aH.app _) aI aS _ (H.gt 2)) ?_
 rintro vq bc (⟨r1, aT, hvq, aa⟩ | ⟨aP, aQ, ab, ac, bf, bg, aU, hvq, aa⟩)
 ·subst aT;subst vq;(try dsimp only at hM);replace H := H.bk aa;clear aa;refine zM (.tuple #[.pointer none, I r1]) rfl <| zX [.pointer none, I r1] (.pointer none) rfl rfl <| zX [.pointer none, I r1] (I r1) rfl rfl <| zA (.pointer none) rfl <| zA (I r1) rfl <| s_nil <| W.seq <| W.block <| W.seq <| W.region rfl ?_;refine zM (I r1) rfl <| zC r1 0 (r1 != 0) rfl rfl rfl <| zA (B (r1 != 0)) rfl <| s_nil ?_
  refine W.cond (r1 != 0) rfl (fun aw => ?_) (fun aw => ?_)
  ·replace hM := M.e_t hM aw
   replace aw := dI aw
   refine W.seq <| W.region rfl <| zM (I r1) rfl <| zA (.slice none 0 0) rfl <| zA (I r1) rfl <| s_nil ?_;replace H := H.pk [];refine W.ret ?_
   have ax := M.e_pure hM
   replace H := H.nilOwn (α := Int) 3
   exact ⟨_, resE_tmp2 rfl, ⟨([]), r1, (.slice none 0 0), ax, rfl, H⟩⟩
  replace hM := M.e_f hM aw
  exact (M.e_fail hM).elim
 subst aU;subst vq;(try dsimp only at hM);replace H := H.bk aa;clear aa;refine zM (.tuple #[Pq ac, I ab]) rfl <| zX [Pq ac, I ab] (Pq ac) rfl rfl <| zX [Pq ac, I ab] (I ab) rfl rfl <| zA (Pq ac) rfl <| zA (I ab) rfl <| s_nil <| W.seq <| W.block <| W.seq <| W.region rfl ?_;refine zM (I ab) rfl <| zC ab 0 (ab != 0) rfl rfl rfl <| zA (B (ab != 0)) rfl <| s_nil ?_
 refine W.cond (ab != 0) rfl (fun ay => ?_) (fun ay => ?_)
 ·replace hM := M.e_t hM ay
  exact (M.e_fail hM).elim
 replace hM := M.e_f hM ay
 replace ay := dI ay
 refine W.seq <| W.region rfl <| zM (Pq ac) rfl <| s_val (x_ld (v := .agg #[I d.spring, I d.town]) rfl (ldb_ag (ds := [I d.spring, I d.town]) Ag61 Sz61 (H.bl 2) rfl rfl)) ?_;obtain ⟨bh, aV, hM⟩ := M.e_bind hM;refine s_call cf79 [Pq ac, .agg #[I d.spring, I d.town]] rfl (zdF am ao aq au aP aQ av d (az.app _) aA (aB.app _) aC (aD.app _) aE (aF.app _) aG (aH.app _) aI (Has.here (k := 0) rfl) aV _ (H.gt 4)) ?_
 rintro vq bi ⟨r2, rfl, hvq, aa⟩
 subst vq;(try dsimp only at hM);replace H := H.bk aa;clear aa;refine s_val (x_not (b := r2) rfl) <| zA (B (!r2)) rfl <| s_nil ?_
 refine W.cond (!r2) rfl (fun aJ => ?_) (fun aJ => ?_)
 ·replace hM := M.e_t hM aJ;refine W.seq <| W.region rfl <| zA (.slice none 0 0) rfl <| zA (I 2) rfl <| s_nil ?_;replace H := H.pk [];refine W.ret ?_
  have ax := M.e_pure hM
  replace H := H.nilOwn (α := Int) 3
  exact ⟨_, resE_tmp2 rfl, ⟨([]), 2, (.slice none 0 0), ax, rfl, H⟩⟩
 replace hM := M.e_f hM aJ;refine W.skip <| W.seq <| W.region rfl <| zM (Pq ac) rfl <| s_val (x_ld (v := .agg #[I d.spring, I d.town]) rfl (ldb_ag (ds := [I d.spring, I d.town]) Ag61 Sz61 (H.bl 2) rfl rfl)) ?_;obtain ⟨bj, aW, hM⟩ := M.e_bind hM;refine s_call cf81 [Pq ac, .agg #[I d.spring, I d.town]] rfl (zbH am ao aq au aP aQ av d (az.app _) aA (aB.app _) aC (aD.app _) aE (aF.app _) aG (aH.app _) aI (Has.here (k := 0) rfl) aW _ ((H.pk [1, 0, 2, 3]).gt 3)) ?_
 rintro vq bm ⟨r3, aX, bn, rfl, hvq, aa, aY⟩
 subst vq;(try dsimp only at hM)
 replace H := H.pk [1, 0, 2, 3] |>.bk aa
 clear aa;obtain ⟨bo, hM⟩ := M.e_gd hM;refine s_call cf80 [aX] rfl (clone_any r3 (Reads.of (k := 0) rfl memLe) aY (by omega) _ H.sep) ?_
 rintro aR bp aa
 replace H := H.bk aa;clear aa;refine zA aR rfl <| zA (I 0) rfl <| s_nil ?_;replace H := H.pk [0];refine W.ret ?_
 have ax := M.e_pure hM
 exact ⟨_, resE_tmp2 rfl, ⟨r3, 0, aR, ax, rfl, H⟩⟩

def zdi (d : Dem) (aa : List Int) (ab : List Span) (ac : List Int) (ae : List Town) (ag ah : Int) (ai : List Flood) : M Bool :=
  M.bind (zaa aa ab ac ae ag ah ai d) fun r2 =>
  M.pure (decide (0 < (r2.length : Int)))
theorem zeK {R : List Chunk} {al : Nat} {aj : Nat} {am : Cells} {ao : Value} {aq : Cells} {au : Value} {av : Cells} {aw : Value} {ax : Cells} {ay : Value} {az : Cells} {aA : Value} {ak : Nat} {B_b_k0207 : Base} (d : Dem) (aa : List Int) (ab : List Span) (ac : List Int) (ae : List Town) (ag : Int) (ah : Int) (ai : List Flood) (aD : Reads R am) (aE : Sl am ao aa) (aF : Reads R aq) (aG : Sl aq au ab) (aH : Reads R av) (aI : Sl av aw ac) (aJ : Reads R ax) (aK : Sl ax ay ae) (aL : Reads R az) (aM : Sl az aA ai) (aN : Has R (cBlk aj [ao, au, aw, ay, I ag, I ah, aA, .map (some ak)] 111)) (aO : Has R (cBlk al [.func (.func 81) #[Pq aj] #[]] 134)) {r : Bool} (hM : (zdi d aa ab ac ae ag ah ai).Ends r) (w : World) (H : St w w [cMem encDm ak B_b_k0207 (zaa aa ab ac ae ag ah ai)] R) : Ret Tryz.prog 101 #[.agg #[I d.spring, I d.town], Pq al] w fun v w' => ∃ (y0 : Bool) (aP : Base), y0 = r /\ v = B y0 /\ St w w' [cMem encDm ak aP (zaa aa ab ac ae ag ah ai)] R := by
 refine ret_of_W Tryz.func101 rfl rfl rfl <| W.seq <| W.region rfl ?_;refine t_bx [I d.spring, I d.town] H rfl ?_;intro aT aU H;refine zA (B false) rfl <| s_nil <| W.seq <| W.region rfl <| s_val (x_ld (v := .func (.func 81) #[Pq aj] #[]) rfl (ldb_sc Sc134 (aO.blk H) rfl)) <| s_val (x_ld (v := .agg #[I d.spring, I d.town]) rfl (ldb_ag (ds := [I d.spring, I d.town]) Ag61 Sz61 (H.bl 0) rfl rfl)) ?_;obtain ⟨aV, aQ, hM⟩ := M.e_bind hM;refine s_callm (f := 81) (fs := [Pq aj]) rfl cf81 [.agg #[I d.spring, I d.town]] rfl (zbH aa ab ac ae ag ah ai d (aD.app _) aE (aF.app _) aG (aH.app _) aI (aJ.app _) aK (aL.app _) aM (aN.app _) aQ _ ((H.pk [1, 0]).gt 1)) ?_
 rintro vq aW ⟨r2, aX, aR, rfl, hvq, aB, aC⟩
 subst vq;(try dsimp only at hM)
 replace H := H.pk [1, 0] |>.bk aB
 clear aB
 have aY := (aC).len_le
 refine s_val (x_lenS T22.und rfl aC) <| zC (r2.length : Int) 0 (decide (0 < (r2.length : Int))) rfl rfl rfl <| zA (B (decide (0 < (r2.length : Int)))) rfl <| s_nil ?_;refine W.ret ?_
 have aS := M.e_pure hM
 exact ⟨_, resE_tmp rfl, ⟨(decide (0 < (r2.length : Int))), aR, aS, rfl, (H.pk [0])⟩⟩

def zdc (x : Dem) (aa : List Int) (ab : List Span) (ac : List Int) (ae : List Town) (ag ah : Int) (ai : List Flood) : M Bool :=
  M.bind (zdi x aa ab ac ae ag ah ai) fun r2 =>
  M.pure (!r2)
theorem zec {R : List Chunk} {al : Nat} {aj : Nat} {am : Nat} {ao : Cells} {aq : Value} {au : Cells} {av : Value} {aw : Cells} {ax : Value} {ay : Cells} {az : Value} {aA : Cells} {aB : Value} {ak : Nat} {B_b_k020207 : Base} (x : Dem) (aa : List Int) (ab : List Span) (ac : List Int) (ae : List Town) (ag : Int) (ah : Int) (ai : List Flood) (aD : Reads R ao) (aE : Sl ao aq aa) (aF : Reads R au) (aG : Sl au av ab) (aH : Reads R aw) (aI : Sl aw ax ac) (aJ : Reads R ay) (aK : Sl ay az ae) (aL : Reads R aA) (aM : Sl aA aB ai) (aN : Has R (cBlk am [aq, av, ax, az, I ag, I ah, aB, .map (some ak)] 111)) (aO : Has R (cBlk aj [.func (.func 81) #[Pq am] #[]] 134)) (aP : Has R (cBlk al [.func (.func 101) #[] #[Pq aj]] 133)) {r : Bool} (hM : (zdc x aa ab ac ae ag ah ai).Ends r) (w : World) (H : St w w [cMem encDm ak B_b_k020207 (zaa aa ab ac ae ag ah ai)] R) : Ret Tryz.prog 107 #[.agg #[I x.spring, I x.town], Pq al] w fun v w' => ∃ (y0 : Bool) (aQ : Base), y0 = r /\ v = B y0 /\ St w w' [cMem encDm ak aQ (zaa aa ab ac ae ag ah ai)] R := by
 refine ret_of_W Tryz.func107 rfl rfl rfl <| W.seq <| W.region rfl ?_;refine t_bx [I x.spring, I x.town] H rfl ?_;intro aU aV H;refine zA (B false) rfl <| s_nil <| W.seq <| W.region rfl <| s_val (x_ld (v := .func (.func 101) #[] #[Pq aj]) rfl (ldb_sc Sc133 (aP.blk H) rfl)) <| s_val (x_ld (v := .agg #[I x.spring, I x.town]) rfl (ldb_ag (ds := [I x.spring, I x.town]) Ag61 Sz61 (H.bl 0) rfl rfl)) ?_;obtain ⟨aW, aR, hM⟩ := M.e_bind hM;refine s_callv (f := 101) rfl cf101 [.agg #[I x.spring, I x.town]] rfl (zeK x aa ab ac ae ag ah ai (aD.app _) aE (aF.app _) aG (aH.app _) aI (aJ.app _) aK (aL.app _) aM (aN.app _) (aO.app _) aR _ ((H.pk [1, 0]).gt 1)) ?_
 rintro vq aX ⟨r2, aS, rfl, hvq, aC⟩
 subst vq;(try dsimp only at hM)
 replace H := H.pk [1, 0] |>.bk aC
 clear aC;refine s_val (x_not (b := r2) rfl) <| zA (B (!r2)) rfl <| s_nil ?_;refine W.ret ?_
 have aT := M.e_pure hM
 exact ⟨_, resE_tmp rfl, ⟨(!r2), aS, aT, rfl, (H.pk [0])⟩⟩

def zbJ (s : List Dem) (aa : List Int) (ab : List Span) (ac : List Int) (ae : List Town) (ag ah : Int) (ai : List Flood) : Nat -> M (Nat ⊕ (Int ⊕ Unit)) := fun s2 =>
  bif decide ((s2 : Int) < (s.length : Int)) then (
  M.grd (decide ((s2 : Int) < (s.length : Int))) <|
  M.bind (zdc (s.getD s2 default) aa ab ac ae ag ah ai) fun r2 =>
  bif r2 then (
  M.pure (.inr (.inl (s2 : Int))))
  else (
  M.pure (.inl (s2 + 1))))
  else (
  M.pure (.inr (.inr ())))
def zdr (s : List Dem) (aa : List Int) (ab : List Span) (ac : List Int) (ae : List Town) (ag ah : Int) (ai : List Flood) : M Int :=
  M.bind (M.iter (zbJ s aa ab ac ae ag ah ai) 0) fun x_ => match x_ with
  | (.inl s3) => (
  M.pure s3)
  | (.inr (_ : Unit)) => (
  M.pure (-1))
theorem zeM {R : List Chunk} {ax : Cells} {ak : Value} {al : Nat} {ay : Nat} {az : Nat} {aA : Cells} {aB : Value} {aC : Cells} {aD : Value} {aE : Cells} {aF : Value} {aG : Cells} {aH : Value} {aI : Cells} {aJ : Value} {am : Nat} {B_b_f2020207 : Base} (s : List Dem) (aa : List Int) (ab : List Span) (ac : List Int) (ae : List Town) (ag : Int) (ah : Int) (ai : List Flood) (aO : Reads R ax) (ao : Sl ax ak s) (aP : Reads R aA) (aQ : Sl aA aB aa) (aR : Reads R aC) (aS : Sl aC aD ab) (aT : Reads R aE) (aU : Sl aE aF ac) (aV : Reads R aG) (aW : Sl aG aH ae) (aX : Reads R aI) (aY : Sl aI aJ ai) (aZ : Has R (cBlk az [aB, aD, aF, aH, I ag, I ah, aJ, .map (some am)] 111)) (a6 : Has R (cBlk ay [.func (.func 81) #[Pq az] #[]] 134)) (a7 : Has R (cBlk al [.func (.func 101) #[] #[Pq ay]] 133)) {r : Int} (hM : (zdr s aa ab ac ae ag ah ai).Ends r) (w : World) (H : St w w [cMem encDm am B_b_f2020207 (zaa aa ab ac ae ag ah ai)] R) : Ret Tryz.prog 99 #[ak, .func (.func 107) #[] #[Pq al]] w fun v w' => ∃ (y0 : Int) (a8 : Base), y0 = r /\ v = I y0 /\ St w w' [cMem encDm am a8 (zaa aa ab ac ae ag ah ai)] R := by
 refine ret_of_W Tryz.func99 rfl rfl rfl <| W.seq <| W.region rfl <| zA (I 0) rfl <| s_nil <| W.seq <| W.seq <| W.region rfl <| zM ak rfl ?_
 have bj := (ao).len_le
 refine s_val (x_lenS T62.und rfl ao) <| zM (I 0) rfl <| s_nil <| W.block ?_;obtain ⟨ba, aq, aK⟩ := M.e_bind hM
 obtain ⟨bm, aq⟩ := M.e_iter aq
 refine W.loop (fun m σ W => ∃ (s2 : Nat) (B_mem : Base) (ρ : Env), σ = upds ρ [(0, ak), (1, .func (.func 107) #[] #[Pq al]), (7, I (s.length : Int)), (8, I (s2 : Int))] /\ M.iterN (zbJ s aa ab ac ae ag ah ai) m s2 = some ba /\ St w W [cMem encDm am B_mem (zaa aa ab ac ae ag ah ai)] R) ?_ ?_
 ·exact ⟨_, 0, B_b_f2020207, _, upds_of _ _ ⟨rfl, rfl, rfl, rfl, trivial⟩, aq, H⟩
 rintro bn σ bo ⟨s2, B_mem, ρ, rfl, aL, H⟩
 obtain ⟨bc, bf, bp, hM, au⟩ := M.e_iterN aL
 simp only [zbJ] at hM
 clear aL;refine W.seq <| W.region rfl <| zC (s2 : Int) (s.length : Int) (decide ((s2 : Int) < (s.length : Int))) rfl rfl rfl <| s_nil <| W.seq ?_
 refine W.cond (decide ((s2 : Int) < (s.length : Int))) rfl (fun aj => ?_) (fun aj => ?_)
 ·replace hM := M.e_t hM aj
  replace aj := dI aj
  refine W.skip <| W.seq <| W.block <| W.seq <| W.region rfl <| zM (I (s2 : Int)) rfl <| zA (I (s2 : Int)) rfl <| s_nil <| W.seq <| W.region rfl ?_;refine zM (.func (.func 107) #[] #[Pq al]) rfl <| zM ak rfl <| zM (I (s2 : Int)) rfl ?_;obtain ⟨bq, hM⟩ := M.e_gd hM;refine s_val (x_ix (v := vat ak 2 (Int.toNat (s2 : Int))) rfl rfl (Sl.ix (α := Dem) T62.und T62.size ao (by omega) (by omega))) <| s_val (x_ld (v := .agg #[I ((s.getD s2 default).spring), I ((s.getD s2 default).town)]) rfl (ld_ag Ag61 Sz61 (At.mono (Dem_atA ao (i := (s2 : Int)) (by omega) (by omega)) (aO.at H)))) ?_;obtain ⟨br, bg, hM⟩ := M.e_bind hM;refine s_callv (f := 107) rfl cf107 [.agg #[I ((s.getD s2 default).spring), I ((s.getD s2 default).town)]] rfl (zec (s.getD s2 default) aa ab ac ae ag ah ai (aP.app _) aQ (aR.app _) aS (aT.app _) aU (aV.app _) aW (aX.app _) aY (aZ.app _) (a6.app _) (a7.app _) bg _ (H.gt 0)) ?_
  rintro vq bt ⟨r2, aM, rfl, hvq, aN⟩
  subst vq;(try dsimp only at hM);replace H := H.bk aN;clear aN;refine s_nil ?_
  refine W.cond r2 rfl (fun av => ?_) (fun av => ?_)
  ·replace hM := M.e_t hM av;refine W.seq <| W.region rfl <| zM (I (s2 : Int)) rfl <| zA (I (s2 : Int)) rfl <| s_nil ?_;refine W.ret ?_
   have bh := M.e_inr hM au
   subst bh;replace hM := aK;(try dsimp only at hM)
   have aw := M.e_pure hM
   exact ⟨_, resE_tmp rfl, ⟨(s2 : Int), aM, aw, rfl, H⟩⟩
  replace hM := M.e_f hM av;refine W.skip <| W.region rfl <| zR (s2 : Int) 1 ((s2 : Int) + 1) rfl rfl rfl (by omega) <| zM (I ((s2 : Int) + 1)) rfl <| s_nil ?_
  exact ⟨bc, bf, s2 + 1, aM, _, upds_of _ _ ⟨rfl, rfl, rfl, rfl, trivial⟩, M.e_inl hM au, H⟩
 replace hM := M.e_f hM aj
 replace aj := dI aj
 refine W.exit ?_
 have bi := M.e_inr hM au
 subst bi;replace hM := aK;(try dsimp only at hM);refine W.seq <| W.region rfl <| zA (I (-1)) rfl <| s_nil ?_;refine W.ret ?_
 have aw := M.e_pure hM
 exact ⟨_, resE_tmp rfl, ⟨(-1), B_mem, aw, rfl, H⟩⟩

def zde (s : List Dem) (aa : List Int) (ab : List Span) (ac : List Int) (ae : List Town) (ag ah : Int) (ai : List Flood) : M Bool :=
  M.bind (zdr s aa ab ac ae ag ah ai) fun r2 =>
  M.pure (decide (0 <= r2))
theorem zeG {R : List Chunk} {am : Cells} {aj : Value} {ak : Nat} {ao : Nat} {aq : Nat} {au : Cells} {av : Value} {aw : Cells} {ax : Value} {ay : Cells} {az : Value} {aA : Cells} {aB : Value} {aC : Cells} {aD : Value} {al : Nat} {B_b_f2020207 : Base} (s : List Dem) (aa : List Int) (ab : List Span) (ac : List Int) (ae : List Town) (ag : Int) (ah : Int) (ai : List Flood) (aF : Reads R am) (aG : Sl am aj s) (aH : Reads R au) (aI : Sl au av aa) (aJ : Reads R aw) (aK : Sl aw ax ab) (aL : Reads R ay) (aM : Sl ay az ac) (aN : Reads R aA) (aO : Sl aA aB ae) (aP : Reads R aC) (aQ : Sl aC aD ai) (aR : Has R (cBlk aq [av, ax, az, aB, I ag, I ah, aD, .map (some al)] 111)) (aS : Has R (cBlk ao [.func (.func 81) #[Pq aq] #[]] 134)) (aT : Has R (cBlk ak [.func (.func 101) #[] #[Pq ao]] 133)) {r : Bool} (hM : (zde s aa ab ac ae ag ah ai).Ends r) (w : World) (H : St w w [cMem encDm al B_b_f2020207 (zaa aa ab ac ae ag ah ai)] R) : Ret Tryz.prog 97 #[aj, .func (.func 107) #[] #[Pq ak]] w fun v w' => ∃ (y0 : Bool) (aU : Base), y0 = r /\ v = B y0 /\ St w w' [cMem encDm al aU (zaa aa ab ac ae ag ah ai)] R := by
 refine ret_of_W Tryz.func97 rfl rfl rfl <| W.seq <| W.region rfl <| zA (B false) rfl <| s_nil <| W.seq <| W.region rfl <| zM aj rfl <| zM (.func (.func 107) #[] #[Pq ak]) rfl ?_;obtain ⟨aY, aV, hM⟩ := M.e_bind hM;refine s_call cf99 [aj, .func (.func 107) #[] #[Pq ak]] rfl (zeM s aa ab ac ae ag ah ai (aF.app _) aG (aH.app _) aI (aJ.app _) aK (aL.app _) aM (aN.app _) aO (aP.app _) aQ (aR.app _) (aS.app _) (aT.app _) aV _ (H.gt 0)) ?_
 rintro vq aZ ⟨r2, aW, rfl, hvq, aE⟩
 subst vq;(try dsimp only at hM);replace H := H.bk aE;clear aE;refine zC r2 0 (decide (0 <= r2)) rfl rfl rfl <| zA (B (decide (0 <= r2))) rfl <| s_nil ?_;refine W.ret ?_
 have aX := M.e_pure hM
 exact ⟨_, resE_tmp rfl, ⟨(decide (0 <= r2)), aW, aX, rfl, H⟩⟩

def zcV (l : List Dem) (aa : List Int) (ab : List Span) (ac : List Int) (ae : List Town) (ag ah : Int) (ai : List Flood) : M Bool :=
  M.bind (zde l aa ab ac ae ag ah ai) fun r2 =>
  M.pure (!r2)
theorem zeh {R : List Chunk} {am : Cells} {aj : Value} {ak : Nat} {ao : Nat} {aq : Cells} {au : Value} {av : Cells} {aw : Value} {ax : Cells} {ay : Value} {az : Cells} {aA : Value} {aB : Cells} {aC : Value} {al : Nat} {B_b_so20207 : Base} (l : List Dem) (aa : List Int) (ab : List Span) (ac : List Int) (ae : List Town) (ag : Int) (ah : Int) (ai : List Flood) (aF : Reads R am) (aG : Sl am aj l) (aH : Reads R aq) (aI : Sl aq au aa) (aJ : Reads R av) (aK : Sl av aw ab) (aL : Reads R ax) (aM : Sl ax ay ac) (aN : Reads R az) (aO : Sl az aA ae) (aP : Reads R aB) (aQ : Sl aB aC ai) (aR : Has R (cBlk ao [au, aw, ay, aA, I ag, I ah, aC, .map (some al)] 111)) (aS : Has R (cBlk ak [.func (.func 81) #[Pq ao] #[]] 134)) {r : Bool} (hM : (zcV l aa ab ac ae ag ah ai).Ends r) (w : World) (H : St w w [cMem encDm al B_b_so20207 (zaa aa ab ac ae ag ah ai)] R) : Ret Tryz.prog 90 #[aj, .func (.func 101) #[] #[Pq ak]] w fun v w' => ∃ (y0 : Bool) (aT : Base), y0 = r /\ v = B y0 /\ St w w' [cMem encDm al aT (zaa aa ab ac ae ag ah ai)] R := by
 refine ret_of_W Tryz.func90 rfl rfl rfl <| W.seq <| W.region rfl ?_;refine t_b1 (.func (.func 101) #[] #[Pq ak]) H rfl rfl ?_;intro aD aX H;refine zA (B false) rfl <| s_nil <| W.seq <| W.region rfl <| zM aj rfl <| s_val (x_mf (fs := []) (cs := [Pq aD]) rfl rfl) ?_;obtain ⟨aY, aU, hM⟩ := M.e_bind hM;refine s_call cf97 [aj, .func (.func 107) #[] #[Pq aD]] rfl (zeG l aa ab ac ae ag ah ai (aF.app _) aG (aH.app _) aI (aJ.app _) aK (aL.app _) aM (aN.app _) aO (aP.app _) aQ (aR.app _) (aS.app _) (Has.here (k := 0) rfl) aU _ ((H.pk [1, 0]).gt 1)) ?_
 rintro vq aZ ⟨r2, aV, rfl, hvq, aE⟩
 subst vq;(try dsimp only at hM)
 replace H := H.pk [1, 0] |>.bk aE
 clear aE;refine s_val (x_not (b := r2) rfl) <| zA (B (!r2)) rfl <| s_nil ?_;refine W.ret ?_
 have aW := M.e_pure hM
 exact ⟨_, resE_tmp rfl, ⟨(!r2), aV, aW, rfl, (H.pk [0])⟩⟩

def zaZ  : Int -> (Int × Int) -> M (Int ⊕ Unit) := fun s (x, x2) =>
  M.grd (decide ((-9223372036854775808 : Int) <= (s + 1)) && decide ((s + 1) <= (9223372036854775807 : Int))) <|
  M.pure (.inl (s + 1))
def zbo (d : Dem) (ah : List Int) (ai : List Span) (aj : List Int) (ak : List Town) (al am : Int) (ao : List Flood) (aa : List Int) (ab : List Span) (ac : List Int) (ae : List Town) (aq au : Int) (ag : List Flood) : M Int :=
  M.bind (zaa ah ai aj ak al am ao d) fun r2 =>
  M.grd (decide ((0 : Int) <= ((r2.length : Int) - 1)) && decide (((r2.length : Int) - 1) < (r2.length : Int))) <|
  M.bind (zam aa ab ac ae aq au ag (r2.getD (Int.toNat ((r2.length : Int) - 1)) 0)) fun (av, aw, ax) =>
  M.bind (zai (M.yl zaZ) (.inl 0) av aa ab ac ae aw ax ag) fun x_ => match x_ with
  | (.inl s, q0) => (
  M.pure s)
  | (.inr _, _) => M.fail
theorem zd3 {R : List Chunk} {bp : Nat} {aG : Nat} {bq : Cells} {br : Value} {bt : Cells} {bu : Value} {bv : Cells} {bw : Value} {bx : Cells} {bz : Value} {bA : Cells} {bB : Value} {ak : Nat} {B_b_k0207 : Base} {bC : Nat} {aE : Nat} {bD : Cells} {al : Value} {bE : Cells} {am : Value} {bF : Cells} {ao : Value} {bG : Cells} {aq : Value} {bH : Cells} {au : Value} {bP : Nat} (d : Dem) (ab : List Int) (ac : List Span) (ae : List Int) (ag : List Town) (ah : Int) (ai : Int) (aj : List Flood) (aH : List Int) (aI : List Span) (aJ : List Int) (aK : List Town) (ay : Int) (az : Int) (aL : List Flood) (aW : Reads R bq) (bI : Sl bq br ab) (aX : Reads R bt) (bJ : Sl bt bu ac) (aY : Reads R bv) (bK : Sl bv bw ae) (aZ : Reads R bx) (bL : Sl bx bz ag) (a6 : Reads R bA) (bM : Sl bA bB aj) (a7 : Has R (cBlk aG [br, bu, bw, bz, I ah, I ai, bB, .map (some ak)] 111)) (a8 : Has R (cBlk bp [.func (.func 81) #[Pq aG] #[]] 134)) (aM : Reads R bD) (ba : Sl bD al aH) (aN : Reads R bE) (bc : Sl bE am aI) (aO : Reads R bF) (bf : Sl bF ao aJ) (aP : Reads R bG) (bg : Sl bG aq aK) (aQ : Reads R bH) (bh : Sl bH au aL) (bi : Has R (cBlk aE [al, am, ao, aq, I ay, I az, au, .map (some bP)] 111)) (bj : Has R (cBlk bC [Pq aE] 94)) {r : Int} (hM : (zbo d ab ac ae ag ah ai aj aH aI aJ aK ay az aL).Ends r) (w : World) (H : St w w [cMem encDm ak B_b_k0207 (zaa ab ac ae ag ah ai aj)] R) : Ret Tryz.prog 102 #[.agg #[I d.spring, I d.town], Pq bp, Pq bC] w fun v w' => ∃ (y0 : Int) (bQ : Base), y0 = r /\ v = I y0 /\ St w w' [cMem encDm ak bQ (zaa ab ac ae ag ah ai aj)] R := by
 refine ret_of_WD Tryz.func102 rfl rfl rfl ?_
 replace H : St w w [cMk ([]), cMem encDm ak B_b_k0207 (zaa ab ac ae ag ah ai aj)] R := H.mk0
 have b4 := bI.len_le
 have b7 := bJ.len_le
 have b8 := bK.len_le
 have b9 := bL.len_le
 have ca := bM.len_le
 have cb := ba.len_le
 have cc := bc.len_le
 have ce := bf.len_le
 have cf := bg.len_le
 have cg := bh.len_le
 unfold zbo at hM
 refine WD.seq <| WD.of <| W.region rfl ?_;refine t_bx [I d.spring, I d.town] H rfl ?_;intro aA ck H;refine zA (I 0) rfl <| s_nil <| WD.seq <| WD.of <| W.region rfl <| s_val (x_ld (v := .func (.func 81) #[Pq aG] #[]) rfl (ldb_sc Sc134 (a8.blk H) rfl)) <| s_val (x_ld (v := .agg #[I d.spring, I d.town]) rfl (ldb_ag (ds := [I d.spring, I d.town]) Ag61 Sz61 (H.bl 0) rfl rfl)) ?_;obtain ⟨cl, bR, hM⟩ := M.e_bind hM;refine s_callm (f := 81) (fs := [Pq aG]) rfl cf81 [.agg #[I d.spring, I d.town]] rfl (zbH ab ac ae ag ah ai aj d (aW.app _) bI (aX.app _) bJ (aY.app _) bK (aZ.app _) bL (a6.app _) bM (a7.app _) bR _ ((H.pk [2, 0, 1]).gt 2)) ?_
 rintro vq cm ⟨r2, aR, ax, rfl, hvq, av, aS⟩
 subst vq;(try dsimp only at hM)
 replace H := H.pk [2, 0, 1] |>.bk av
 clear av;refine zA aR rfl <| s_nil <| WD.seq <| WD.of <| W.region rfl ?_;refine t_alloc (cs := [I 0]) H Al3 rfl ?_;intro aw cn H;refine t_sw 0 0 [I 0] (I 0) H rfl rfl Sz3 rfl rfl rfl rfl ?_;intro co H;refine s_nil <| WD.seq <| WD.seq <| WD.of ?_;refine W.draw (fun W => St w W [cBlk aw [I 0] 3, cMem encDm ak ax (zaa ab ac ae ag ah ai aj), cBlk aA [I d.spring, I d.town] 61, cMk ([])] R) [(0, true), (1, true), (2, true), (3, true), (4, true), (5, true), (6, true), (7, true), (8, true), (9, true), (10, false)] mixed (by decide +kernel) rfl ?_;intro cp bN;replace H := H.ext bN;clear bN
 refine ⟨(H.pk [0, 1, 2, 3]), ?_⟩
 refine d_q rfl (fun w' H => x_ld (v := Pq aE) rfl (ldb_sc Sc94 (bj.blk H) rfl)) <| d_q rfl (fun w' H => x_nc (a := ⟨aE, 0, none⟩) rfl) <| d_q rfl (fun w' H => x_fa (v := Pq aE) rfl (fa_blk (o := 0) Fd111_0 Sz29)) <| d_q rfl (fun w' H => x_ld (v := .agg #[al, am, ao, aq, I ay, I az, au]) rfl (ldb_ag (ds := [al, am, ao, aq, I ay, I az, au]) Ag29 Sz29 (bi.blk H) rfl rfl)) <| d_q rfl (fun w' H => x_mv (v := aR) rfl) <| d_q rfl (fun w' H => x_mv (v := aR) rfl) ?_
 have cq := (aS).len_le
 refine d_q rfl (fun w' H => x_lenS T22.und rfl aS) <| d_q rfl (fun w' H => x_ari (r := (r2.length : Int) - 1) rfl rfl rfl (by omega)) ?_;obtain ⟨cu, hM⟩ := M.e_gd hM;refine d_q rfl (fun w' H => x_ix (v := vat aR 1 (Int.toNat ((r2.length : Int) - 1))) rfl rfl (Sl.ix (α := Int) T22.und T22.size aS (by omega) (by omega))) <| d_q rfl (fun w' H => x_ld (v := I (r2.getD (Int.toNat ((r2.length : Int) - 1)) 0)) rfl (ld_sc Sc3 (At.mono (Int_at aS (i := (r2.length : Int) - 1) (by omega) (by omega)) (memLe _ (H.get (k := 1) rfl))))) <| d_l rfl ?_;obtain ⟨cw, bS, hM⟩ := M.e_bind hM;refine s_call cf66 [.agg #[al, am, ao, aq, I ay, I az, au], I (r2.getD (Int.toNat ((r2.length : Int) - 1)) 0)] rfl (zce aH aI aJ aK ay az aL (r2.getD (Int.toNat ((r2.length : Int) - 1)) 0) (aM.app _) ba (aN.app _) bc (aO.app _) bf (aP.app _) bg (aQ.app _) bh bS _ (H.gt 4)) ?_
 rintro vq cx ⟨aT, aB, aC, aF, aD, rfl, hvq, av⟩
 subst vq;(try dsimp only at hM);replace H := H.bk av;clear av
 refine s_nil ⟨(H.pk [2, 3, 4, 5]), ?_⟩
 refine d_nil <| WD.block ?_;obtain ⟨cy, bT, hM⟩ := M.e_bind hM;refine WD.range (L := [cBlk aw [I 0] 3, cBlk aD [al, am, ao, aq, I aB, I aC, au] 29, cMem encDm ak ax (zaa ab ac ae ag ah ai aj), cBlk aA [I d.spring, I d.town] 61, cBlk aF [I aT] 3]) [Pq aF, Pq aD] (H.pk [5, 2, 1, 3, 4, 0]) rfl cf96 ?_;intro aU bm bn bU bo H
 have hYC : YieldC Tryz.prog ([cMk (bm :: ([])), cBlk aD [al, am, ao, aq, I aB, I aC, au] 29, cMem encDm ak ax (zaa ab ac ae ag ah ai aj), cBlk aA [I d.spring, I d.town] 61] ++ R) arII (yJ aU bn (fun s aV => aV = [cBlk aw [I s] 3]) (fun (_ : Unit) _ => False) (fun _ => .ret)) (.func (.yield aU) #[] #[]) (M.yl zaZ) := by
  refine YieldC.mk bo (fun s aV => aV = [cBlk aw [I s] 3]) (fun (_ : Unit) _ => False) (fun _ => .ret) zaZ (by rintro s _ h_; obtain ⟨rfl⟩ := h_; rfl) (fun _ _ h_ => h_.elim) rfl (arII_len rfl) ?_;intro C_ cz x_ W_ bV
  obtain ⟨x, x2⟩ := x_
  obtain rfl := bV
  refine W.skip ?_
  refine ⟨rfl, rfl, ?_⟩
  intro w R aa aV s_ r bW hM H
  skip
  obtain ⟨s, bX⟩ : ∃ y_, y_ = s_ := ⟨_, rfl⟩
  subst bX
  obtain ⟨rfl⟩ := bW
  replace aW := aW.sub aa
  replace aX := aX.sub aa
  replace aY := aY.sub aa
  replace aZ := aZ.sub aa
  replace a6 := a6.sub aa
  replace a7 := a7.sub aa
  replace a8 := a8.sub aa
  replace aM := aM.sub aa
  replace aN := aN.sub aa
  replace aO := aO.sub aa
  replace aP := aP.sub aa
  replace aQ := aQ.sub aa
  replace bi := bi.sub aa
  replace bj := bj.sub aa
  replace hM : (zaZ s (x, x2)).Ends r := hM
  simp only [zaZ] at hM
  replace H := H.pk [0, 2, 3, 4, 1];refine W.block <| W.region rfl <| s_val (x_ld (v := I s) rfl (ldb_sc Sc3 (H.bl 0) rfl)) ?_;obtain ⟨cA, hM⟩ := M.e_gd hM;refine zR s 1 (s + 1) rfl rfl rfl (by omega) ?_;refine t_sw 0 0 [I (s + 1)] (I (s + 1)) H rfl rfl Sz3 rfl rfl rfl rfl ?_;intro cB H;refine s_nil ?_
  exact ⟨s + 1, [cBlk aw [I (s + 1)] 3], (M.e_pure hM).symm, rfl, H.pick [0, 4, 1, 2, 3] (by decide) rfl⟩
 replace H : St w bU (cAll (cObj aU (.loop bn) :: [cBlk aw [I 0] 3]) :: [cBlk aF [I aT] 3, cMk (bm :: ([])), cBlk aD [al, am, ao, aq, I aB, I aC, au] 29, cMem encDm ak ax (zaa ab ac ae ag ah ai aj), cBlk aA [I d.spring, I d.town] 61]) R := St.bundleB (A := cObj aU (.loop bn) :: [cBlk aw [I 0] 3]) (T := [cBlk aF [I aT] 3, cMk (bm :: ([])), cBlk aD [al, am, ao, aq, I aB, I aC, au] 29, cMem encDm ak ax (zaa ab ac ae ag ah ai aj), cBlk aA [I d.spring, I d.town] 61]) rfl (H.pk [0, 2, 6, 1, 3, 4, 5])
 refine (zcb (M.yl zaZ) (.inl 0) aT aH aI aJ aK aB aC aL hYC ⟨_, rfl, rfl⟩ (aM.app _) ba (aN.app _) bc (aO.app _) bf (aP.app _) bg (aQ.app _) bh (Has.here (k := 1) rfl) bT _ (H.gt 4)).mono ?_
 rintro vq cC ⟨bY, q0, cD, rfl, hvq, av, bO⟩
 replace H := H.back av rfl
 clear av hYC
 rcases bY with s | _
 ·(try dsimp only at hM)
  obtain ⟨_, rfl, rfl⟩ := bO
  refine ⟨_, [cBlk aw [I s] 3, cBlk aD [al, am, ao, aq, I aB, I aC, au] 29, cMem encDm ak ax (zaa ab ac ae ag ah ai aj), cBlk aA [I d.spring, I d.town] 61, cBlk aF [I q0] 3], H.unbundle.pick [0, 3, 1, 4, 5, 6, 2] (by decide) rfl, bo.nb, ?_⟩
  intro cE H
  rw [bo.pd]
  replace H := H.nf
  try simp only []
  replace H := H.pk [0, 1, 3];refine WD.seq <| WD.of <| W.region rfl <| s_val (x_ld (v := I s) rfl (ldb_sc Sc3 (H.bl 1) rfl)) <| zA (I s) rfl <| s_nil <| WD.of ?_;refine W.ret ?_;refine bodyD_r (H.pk [0, 1, 2]) ?_;intro cF H;replace H := H.nf
  have bZ := M.e_pure hM
  exact ⟨_, resE_tmp rfl, ⟨s, ax, bZ, rfl, (H.pk [1])⟩⟩
 obtain ⟨_, _, h_⟩ := bO; exact h_.elim

def m_cmp_isNaN_int (x : Int) : M Bool :=
  M.pure (x != x)
theorem cmp_isNaN_int_ok {R : List Chunk}  (x : Int)  {r : Bool} (hM : (m_cmp_isNaN_int x).Ends r) (w : World) (H : St w w [] R) : Ret Tryz.prog 110 #[I x] w fun v w' => ∃ (y0 : Bool), y0 = r /\ v = B y0 /\ St w w' [] R := by
 refine ret_of_W Tryz.func110 rfl rfl rfl <| W.seq <| W.region rfl <| zA (B false) rfl <| s_nil <| W.seq <| W.region rfl <| zM (I x) rfl <| zM (I x) rfl <| zC x x (x != x) rfl rfl rfl <| zA (B (x != x)) rfl ?_;refine s_nil ?_;refine W.ret ?_
 have aa := M.e_pure hM
 exact ⟨_, resE_tmp rfl, ⟨(x != x), aa, rfl, H⟩⟩

def m_cmp_Compare_int (x y : Int) : M Int :=
  M.bind (m_cmp_isNaN_int x) fun r2 =>
  M.bind (m_cmp_isNaN_int y) fun r3 =>
  bif r2 then (
  bif r3 then (
  M.pure 0)
  else (
  M.pure (-1)))
  else (
  bif r3 then (
  M.pure 1)
  else (
  bif decide (x < y) then (
  M.pure (-1))
  else (
  bif decide (y < x) then (
  M.pure 1)
  else (
  M.pure 0))))
theorem cmp_Compare_int_ok {R : List Chunk}  (x : Int) (y : Int)  {r : Int} (hM : (m_cmp_Compare_int x y).Ends r) (w : World) (H : St w w [] R) : Ret Tryz.prog 105 #[I x, I y] w fun v w' => ∃ (y0 : Int), y0 = r /\ v = I y0 /\ St w w' [] R := by
 refine ret_of_W Tryz.func105 rfl rfl rfl <| W.seq <| W.region rfl <| zA (I 0) rfl <| s_nil <| W.seq <| W.region rfl <| zM (I x) rfl ?_;obtain ⟨al, aj, hM⟩ := M.e_bind hM;refine s_call cf110 [I x] rfl (cmp_isNaN_int_ok x aj _ (H.gt 0)) ?_
 rintro vq am ⟨r2, rfl, hvq, ae⟩
 subst vq;(try dsimp only at hM);replace H := H.bk ae;clear ae;refine zA (B r2) rfl <| s_nil <| W.seq <| W.region rfl <| zM (I y) rfl ?_;obtain ⟨ao, ak, hM⟩ := M.e_bind hM;refine s_call cf110 [I y] rfl (cmp_isNaN_int_ok y ak _ (H.gt 0)) ?_
 rintro vq aq ⟨r3, rfl, hvq, ae⟩
 subst vq;(try dsimp only at hM);replace H := H.bk ae;clear ae;refine zA (B r3) rfl <| s_nil <| W.seq <| W.seq <| W.region rfl <| zM (B r2) rfl <| s_nil ?_
 refine W.cond r2 rfl (fun ag => ?_) (fun ag => ?_)
 ·replace hM := M.e_t hM ag;refine W.seq <| W.seq <| W.region rfl <| zM (B r3) rfl <| s_nil ?_
  refine W.cond r3 rfl (fun ah => ?_) (fun ah => ?_)
  ·replace hM := M.e_t hM ah;refine W.seq <| W.region rfl <| zA (I 0) rfl <| s_nil ?_;refine W.ret ?_
   have aa := M.e_pure hM
   exact ⟨_, resE_tmp rfl, ⟨0, aa, rfl, H⟩⟩
  replace hM := M.e_f hM ah;refine W.skip <| W.seq <| W.region rfl <| zA (I (-1)) rfl <| s_nil ?_;refine W.ret ?_
  have aa := M.e_pure hM
  exact ⟨_, resE_tmp rfl, ⟨(-1), aa, rfl, H⟩⟩
 replace hM := M.e_f hM ag;refine W.skip <| W.seq <| W.seq <| W.region rfl <| zM (B r3) rfl <| s_nil ?_
 refine W.cond r3 rfl (fun ai => ?_) (fun ai => ?_)
 ·replace hM := M.e_t hM ai;refine W.seq <| W.region rfl <| zA (I 1) rfl <| s_nil ?_;refine W.ret ?_
  have aa := M.e_pure hM
  exact ⟨_, resE_tmp rfl, ⟨1, aa, rfl, H⟩⟩
 replace hM := M.e_f hM ai;refine W.skip <| W.seq <| W.seq <| W.region rfl <| zM (I x) rfl <| zM (I y) rfl <| zC x y (decide (x < y)) rfl rfl rfl <| s_nil ?_
 refine W.cond (decide (x < y)) rfl (fun ab => ?_) (fun ab => ?_)
 ·replace hM := M.e_t hM ab
  replace ab := dI ab
  refine W.seq <| W.region rfl <| zA (I (-1)) rfl <| s_nil ?_;refine W.ret ?_
  have aa := M.e_pure hM
  exact ⟨_, resE_tmp rfl, ⟨(-1), aa, rfl, H⟩⟩
 replace hM := M.e_f hM ab
 replace ab := dI ab
 refine W.skip <| W.seq <| W.seq <| W.region rfl <| zM (I x) rfl <| zM (I y) rfl <| zC x y (decide (y < x)) rfl rfl rfl <| s_nil ?_
 refine W.cond (decide (y < x)) rfl (fun ac => ?_) (fun ac => ?_)
 ·replace hM := M.e_t hM ac
  replace ac := dI ac
  refine W.seq <| W.region rfl <| zA (I 1) rfl <| s_nil ?_;refine W.ret ?_
  have aa := M.e_pure hM
  exact ⟨_, resE_tmp rfl, ⟨1, aa, rfl, H⟩⟩
 replace hM := M.e_f hM ac
 replace ac := dI ac
 refine W.skip <| W.seq <| W.region rfl <| zA (I 0) rfl <| s_nil ?_;refine W.ret ?_
 have aa := M.e_pure hM
 exact ⟨_, resE_tmp rfl, ⟨0, aa, rfl, H⟩⟩

def zaD (a b : Dem) (aa : List Int) (ab : List Span) (ac : List Int) (ae : List Town) (ag ah : Int) (ai : List Flood) (aj : List Int) (ak : List Span) (al : List Int) (am : List Town) (ao aq : Int) (au : List Flood) : M Int :=
  M.bind (zbo b aa ab ac ae ag ah ai aj ak al am ao aq au) fun r2 =>
  M.bind (zbo a aa ab ac ae ag ah ai aj ak al am ao aq au) fun r3 =>
  M.bind (m_cmp_Compare_int r2 r3) fun r4 =>
  M.pure r4
theorem zcU {R : List Chunk} {az : Nat} {ak : Nat} {aA : Nat} {aB : Cells} {aC : Value} {aD : Cells} {aE : Value} {aF : Cells} {aG : Value} {aH : Cells} {aI : Value} {aJ : Cells} {aK : Value} {ay : Nat} {B_b_k020207 : Base} {al : Nat} {aL : Nat} {aM : Cells} {aN : Value} {aO : Cells} {aP : Value} {aQ : Cells} {aR : Value} {aS : Cells} {aT : Value} {aU : Cells} {aV : Value} {bA : Nat} (a : Dem) (b : Dem) (ab : List Int) (ac : List Span) (ae : List Int) (ag : List Town) (ah : Int) (ai : Int) (aj : List Flood) (am : List Int) (ao : List Span) (aq : List Int) (au : List Town) (av : Int) (aw : Int) (ax : List Flood) (aW : Reads R aB) (aX : Sl aB aC ab) (aY : Reads R aD) (aZ : Sl aD aE ac) (a6 : Reads R aF) (a7 : Sl aF aG ae) (a8 : Reads R aH) (ba : Sl aH aI ag) (bc : Reads R aJ) (bf : Sl aJ aK aj) (bg : Has R (cBlk aA [aC, aE, aG, aI, I ah, I ai, aK, .map (some ay)] 111)) (bh : Has R (cBlk ak [.func (.func 81) #[Pq aA] #[]] 134)) (bi : Reads R aM) (bj : Sl aM aN am) (bm : Reads R aO) (bn : Sl aO aP ao) (bo : Reads R aQ) (bp : Sl aQ aR aq) (bq : Reads R aS) (br : Sl aS aT au) (bt : Reads R aU) (bu : Sl aU aV ax) (bv : Has R (cBlk aL [aN, aP, aR, aT, I av, I aw, aV, .map (some bA)] 111)) (bw : Has R (cBlk al [Pq aL] 94)) (bx : Has R (cBlk az [.func (.func 102) #[] #[Pq ak, Pq al]] 146)) {r : Int} (hM : (zaD a b ab ac ae ag ah ai aj am ao aq au av aw ax).Ends r) (w : World) (H : St w w [cMem encDm ay B_b_k020207 (zaa ab ac ae ag ah ai aj)] R) : Ret Tryz.prog 104 #[.agg #[I a.spring, I a.town], .agg #[I b.spring, I b.town], Pq az] w fun v w' => ∃ (y0 : Int) (bB : Base), y0 = r /\ v = I y0 /\ St w w' [cMem encDm ay bB (zaa ab ac ae ag ah ai aj)] R := by
 refine ret_of_W Tryz.func104 rfl rfl rfl <| W.seq <| W.region rfl ?_;refine t_bx [I a.spring, I a.town] H rfl ?_;intro bC bJ H;refine t_bx [I b.spring, I b.town] H rfl ?_;intro bD bK H;refine zA (I 0) rfl <| s_nil <| W.seq ?_;refine W.draw (fun W => St w W [cBlk bD [I b.spring, I b.town] 61, cBlk bC [I a.spring, I a.town] 61] R) [(0, true), (1, true), (3, true), (4, true), (2, false), (5, false), (6, false), (7, true)] mixed (by decide +kernel) rfl ?_;intro bL bz;replace H := H.ext bz;clear bz
 refine ⟨(H.pk [0, 1]), ?_⟩
 refine d_q rfl (fun w' H => x_ld (v := .func (.func 102) #[] #[Pq ak, Pq al]) rfl (ldb_sc Sc146 (bx.blk H) rfl)) <| d_q rfl (fun w' H => x_ld (v := .agg #[I b.spring, I b.town]) rfl (ldb_ag (ds := [I b.spring, I b.town]) Ag61 Sz61 (H.bl 0) rfl rfl)) <| d_q rfl (fun w' H => x_ld (v := .func (.func 102) #[] #[Pq ak, Pq al]) rfl (ldb_sc Sc146 (bx.blk H) rfl)) <| d_q rfl (fun w' H => x_ld (v := .agg #[I a.spring, I a.town]) rfl (ldb_ag (ds := [I a.spring, I a.town]) Ag61 Sz61 (H.bl 1) rfl rfl)) <| d_l rfl ?_;obtain ⟨bM, bE, hM⟩ := M.e_bind hM;refine s_callv (f := 102) rfl cf102 [.agg #[I b.spring, I b.town]] rfl (zd3 b ab ac ae ag ah ai aj am ao aq au av aw ax (aW.app _) aX (aY.app _) aZ (a6.app _) a7 (a8.app _) ba (bc.app _) bf (bg.app _) (bh.app _) (bi.app _) bj (bm.app _) bn (bo.app _) bp (bq.app _) br (bt.app _) bu (bv.app _) (bw.app _) bE _ ((H.pk [2, 0, 1]).gt 2)) ?_
 rintro vq bN ⟨r2, bO, rfl, hvq, aa⟩
 subst vq;(try dsimp only at hM)
 replace H := H.pk [2, 0, 1] |>.bk aa
 clear aa
 refine s_nil ⟨(H.pk [1, 2]), ?_⟩
 refine d_l rfl ?_;obtain ⟨bP, bF, hM⟩ := M.e_bind hM;refine s_callv (f := 102) rfl cf102 [.agg #[I a.spring, I a.town]] rfl (zd3 a ab ac ae ag ah ai aj am ao aq au av aw ax (aW.app _) aX (aY.app _) aZ (a6.app _) a7 (a8.app _) ba (bc.app _) bf (bg.app _) (bh.app _) (bi.app _) bj (bm.app _) bn (bo.app _) bp (bq.app _) br (bt.app _) bu (bv.app _) (bw.app _) bF _ (H.gt 2)) ?_
 rintro vq bQ ⟨r3, bG, rfl, hvq, aa⟩
 subst vq;(try dsimp only at hM);replace H := H.bk aa;clear aa
 refine s_nil ⟨(H.pk [1, 2]), ?_⟩
 refine d_l rfl ?_;obtain ⟨bR, bH, hM⟩ := M.e_bind hM;refine s_call cf105 [I r2, I r3] rfl (cmp_Compare_int_ok r2 r3 bH _ (H.gt 3)) ?_
 rintro vq bS ⟨r4, rfl, hvq, aa⟩
 subst vq;(try dsimp only at hM);replace H := H.bk aa;clear aa
 refine s_nil ⟨(H.pk [1, 2]), ?_⟩
 refine d_q rfl (fun w' H => x_as (v := I r4) rfl) ?_;refine d_nil ?_;replace H := H.pk [0];refine W.ret ?_
 have bI := M.e_pure hM
 exact ⟨_, resE_tmp rfl, ⟨r4, bG, bI, rfl, H⟩⟩

end Go.Proofs.YtbaehghammbjdaaGreat
end
