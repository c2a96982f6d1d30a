/- Part 2 of the texts on which the proof rests. Conditions: none. -/
import Derived.Test.YtndobgodeicloaaProg
import Derived.Laws.StructEq
import Derived.Laws.Tables
import Derived.KernelRfl
import Derived.WideKeyRuns
import Derived.Ground.NamesProg
import Derived.Shelf.Slices.Cells
import Derived.Shelf.Bits.Mul64
import Derived.RangeFuncRecord
import Derived.Laws.Cover3
import Derived.Test.YtndobgodeicloaaZD1
set_option linter.unusedVariables false
set_option linter.unusedSimpArgs false
set_option linter.unusedSectionVars false
namespace Go.Nm
open Go
structure Gate where
  src : Int
  dst : Int
deriving DecidableEq, Inhabited
abbrev encN (n : Note) : Value := .agg #[I n.work, I n.version, I n.value]
abbrev encG (g : Gate) : Value := .agg #[I g.src, I g.dst]
theorem note_val (o : Option Note) : (o.map encN).getD (.agg #[I 0, I 0, I 0]) = .agg #[I (o.getD default).work, I (o.getD default).version, I (o.getD default).value] := by cases o <;> rfl
theorem bool_val (o : Option Bool) : (o.map B).getD (.bool false) = B (o.getD false) := by cases o <;> rfl
theorem int_val (o : Option Int) : (o.map I).getD (.int .i64 0) = I (o.getD 0) := by cases o <;> rfl
section
variable {P : Program} {w : World} {σ : Env} {d : Nat} {ty : TypeId} {pos : String} {af : Array Edge} {g : Option (Nat × Bool)}
theorem x_neS {t yt : TypeId} {x y : Operand} {xs ys : Array Value} {r : Bool} (he : (Op.equalIn 10000 t (.agg xs) (.agg ys)).run P w = .ok r w) (hm : P.eqGuardType P.depth t = false) (hx : ev σ x = .agg xs) (hy : ev σ y = .agg ys) :
    (execOp (ev σ) ⟨some d, .binOp .neq t x y yt, ty, pos, af, g⟩).run P w = .ok (.value (.bool !r)) w := by
  simp [execOp, hx, hy, run_eqGuard_agg _ _ _ _ _ _ _ hm, run_neq_struct, he]
end
end Go.Nm
namespace Go.Proofs.Ytndobgodeicloaa
open Go Go.Nm Go.Proofs
theorem eqN (a b : Note) (w : World) : (Op.equalIn 10000 30 (encN a) (encN b)).run Try.prog w = .ok (decide (a = b)) w := by
  have u3 := Try.underlying3
  have a3 := Try.isAgg3
  have z3 := Try.sizeOf3
  have hS : Try.prog.underlying 30 = some (.struct (Try.prog.fieldsOf 30)) := by kernel_rfl
  have hp : Try.prog.stoodInHeld 30 = false := by kernel_rfl
  obtain ⟨a1, a2, a3'⟩ := a
  obtain ⟨b1, b2, b3⟩ := b
  rw [show (10000 : Nat) = 9999 + 1 from rfl, run_equalIn_agg w 9999 30 _ _ hS hp]
  simp only [Program.fieldsOf, Try.underlying30]
  go_simp
  by_cases h1 : a1 = b1 <;> by_cases h2 : a2 = b2 <;> by_cases h3 : a3' = b3 <;> simp [h1, h2, h3]
theorem eqG (a b : Gate) (w : World) : (Op.equalIn 10000 182 (encG a) (encG b)).run Try.prog w = .ok (decide (a = b)) w := by
  have u3 := Try.underlying3
  have a3 := Try.isAgg3
  have z3 := Try.sizeOf3
  have hS : Try.prog.underlying 182 = some (.struct (Try.prog.fieldsOf 182)) := by kernel_rfl
  have hp : Try.prog.stoodInHeld 182 = false := by kernel_rfl
  obtain ⟨a1, a2⟩ := a
  obtain ⟨b1, b2⟩ := b
  rw [show (10000 : Nat) = 9999 + 1 from rfl, run_equalIn_agg w 9999 182 _ _ hS hp]
  simp only [Program.fieldsOf, Try.underlying182]
  go_simp
  by_cases h1 : a1 = b1 <;> by_cases h2 : a2 = b2 <;> simp [h1, h2]
theorem findAskG {ν : Type} (k : Gate) (w : World) : ∀ (es : List MapEntry) (m : List (Gate × ν)) (venc : ν -> Value) (j : Nat), es.map (fun e => (e.key, e.val)) = m.map (fun p => (encG p.1, venc p.2)) →
    (Instr.findAsking 182 (encG k) es j).run Try.prog w = .ok ((idxM m k).bind fun i => (es[i]?).map fun e => (i + j, e.val)) w
  | [], [], _, _, _ => rfl
  | [], _ :: _, _, _, h => by simp at h
  | _ :: _, [], _, _, h => by simp at h
  | e :: es, p :: m, venc, j, h => by
    simp only [List.map_cons, List.cons.injEq, Prod.mk.injEq] at h
    have ih := findAskG k w es m venc (j + 1) h.2
    unfold Instr.findAsking
    rw [h.1.1]
    have he := eqG k p.1 w
    unfold idxM
    by_cases hp : p.1 = k
    · rw [if_pos hp]
      have : decide (k = p.1) = true := by simp [hp]
      rw [this] at he
      simp [Op.equal, Op.maxDepth, he]
    · rw [if_neg hp]
      have : decide (k = p.1) = false := by simp; exact fun e => hp e.symm
      rw [this] at he
      simp only [Op.equal, Op.maxDepth, Sem.run_bind, he, Result.andThen_ok, Bool.false_eq_true, if_false, ih]
      cases hi : idxM m k with
      | none => rfl
      | some i =>
        simp only [Option.map_some, Option.bind_some, List.getElem?_cons_succ]
        cases es[i]? with
        | none => rfl
        | some e' => simp; omega
theorem keyGate : KeyL (ν := Int) Try.prog 182 encG := by
  refine ⟨fun e w k => ?_, fun w es m venc k h => ?_, fun k => ?_⟩
  · have u3 := Try.underlying3
    have a3 := Try.isAgg3
    have z3 := Try.sizeOf3
    have h1 : ∀ (n : Nat) (x : Int), (Instr.checkKey e (n + 1) 3 (I x)).run Try.prog w = .ok () w := fun n x => MapKept.run_checkKey u3 (show MapKept.IsKey (.int .i64) (I x) from rfl) e n
    have key : ∀ n : Nat, (Instr.checkKey e (n + 1 + 1) 182 (encG k)).run Try.prog w = .ok () w := by
      intro n
      rw [Instr.checkKey]
      simp only [Sem.run_bind, run_underlying Try.underlying182, Result.andThen_ok]
      rw [← Array.forIn_toList]
      simp only [List.forIn_cons, List.forIn_nil]
      go_simp
    exact key 9998
  · rw [run_findKey_eq w (by rw [Try.underlying182]), findAskG k w es m venc 0 h]
    rfl
  · simp [Instr.sameBits]
theorem gdN : Try.prog.eqGuardType Try.prog.depth 30 = false := by kernel_rfl
theorem keyInt : KeyL (ν := Note) Try.prog 3 I := KeyL.int Try.underlying3
theorem keyIntB : KeyL (ν := Bool) Try.prog 3 I := KeyL.int Try.underlying3
end Go.Proofs.Ytndobgodeicloaa
namespace Go.Nm
end Go.Nm
namespace Go.Nm
def VB (l : List Int) : Prop := ∀ y ∈ l, -1 <= y /\ y <= 1000002
theorem VB.set {l : List Int} (h : VB l) {v : Int} (h1 : -1 <= v) (h2 : v <= 1000002) (k : Nat) : VB (l.set k v) := by
  intro y hy
  rcases List.mem_or_eq_of_mem_set hy with h3 | h3
  · exact h y h3
  · omega
theorem VB.at {l : List Int} (h : VB l) {k : Nat} (hk : (k : Int) < l.length) : -1 <= l.getD k 0 /\ l.getD k 0 <= 1000002 := h _ (getD_memN l hk 0)
end Go.Nm
namespace Go.Nm
end Go.Nm
namespace Go.Nm
section
variable {α : Type} [DecidableEq α] {a b : List α}
theorem same_len (h : ¬ (a.length : Int) = b.length) : false = decide (a = b) := by
  symm
  simp only [decide_eq_false_iff_not]
  intro e
  subst e
  exact h rfl
theorem same_ne {k : Nat} (d : α) (h : ¬ a.getD k d = b.getD k d) : false = decide (a = b) := by
  symm
  simp only [decide_eq_false_iff_not]
  intro e
  subst e
  exact h rfl
theorem same_step {k : Nat} (d : α) (hl : (a.length : Int) = b.length) (hk : (k : Int) < a.length) (ht : a.take k = b.take k) (c : a.getD k d = b.getD k d) : a.take (k + 1) = b.take (k + 1) := by
  rw [take_succ_getD a (by omega) d, take_succ_getD b (by omega) d, ht, c]
theorem same_done {k : Nat} (hl : (a.length : Int) = b.length) (hk : ¬ (k : Int) < a.length) (ht : a.take k = b.take k) : true = decide (a = b) := by
  rw [List.take_of_length_le (by omega), List.take_of_length_le (by omega)] at ht
  simp [ht]
end
end Go.Nm
namespace Go.Nm
/-- Are works and lists few enough to be looked at? -/
def littleB (ws : List Work) (ls : List (List Int)) : Bool := decide (ws.length <= 35) && ws.all (fun x => decide (x.of.length <= 10)) && ls.all (fun l => decide (l.length <= 40))
theorem all_take_succ {α : Type} (p : α -> Bool) (l : List α) {k : Nat} (h : k < l.length) (d : α) : (l.take (k + 1)).all p = ((l.take k).all p && p (l.getD k d)) := by
  rw [take_succ_getD l h d, List.all_append]; simp
theorem little_many {ws : List Work} {ls : List (List Int)} (h : 35 < (ws.length : Int)) : false = littleB ws ls := by
  unfold littleB
  have : decide (ws.length <= 35) = false := by simp; omega
  simp [this]
theorem little_of {ws : List Work} {ls : List (List Int)} {i : Nat} (hi : (i : Int) < ws.length) (h : 10 < ((ws.getD i default).of.length : Int)) : false = littleB ws ls := by
  unfold littleB
  have : ws.all (fun x => decide (x.of.length <= 10)) = false := by
    rw [List.all_eq_false]
    exact ⟨_, getD_memN ws hi default, by simp [-List.getD_eq_getElem?_getD]; omega⟩
  simp [this]
theorem little_list {ws : List Work} {ls : List (List Int)} {i : Nat} (hi : (i : Int) < ls.length) (h : 40 < ((ls.getD i []).length : Int)) : false = littleB ws ls := by
  unfold littleB
  have : ls.all (fun l => decide (l.length <= 40)) = false := by
    rw [List.all_eq_false]
    exact ⟨_, getD_memN ls hi [], by simp [-List.getD_eq_getElem?_getD]; omega⟩
  simp [this]
theorem little_ok {ws : List Work} {ls : List (List Int)} {i j : Nat} (h : ¬ 35 < (ws.length : Int)) (hi : ¬ (i : Int) < ws.length) (h1 : (ws.take i).all (fun x => decide (x.of.length <= 10)) = true) (hj : ¬ (j : Int) < ls.length)
    (h2 : (ls.take j).all (fun l => decide (l.length <= 40)) = true) : true = littleB ws ls := by
  rw [List.take_of_length_le (by omega)] at h1 h2
  unfold littleB
  rw [h1, h2]
  simp; omega
end Go.Nm
namespace Go.Nm
theorem rl_bad {n : Nat} {l : List Int} {k : Nat} (hk : (k : Int) < l.length) (c : outB (l.getD k 0) 0 ((n : Int) - 1) = true) : 2 = listedE n l := by
  apply listed_arg
  simp only [Bool.not_eq_true', List.all_eq_false]
  refine ⟨_, getD_memN l hk 0, ?_⟩
  rw [outB_eq] at c
  simpa using c
theorem rl_next {n : Nat} {l : List Int} {k : Nat} (h : (l.take k).all (fun x => inB x 0 ((n : Int) - 1)) = true) (hk : (k : Int) < l.length) (c : outB (l.getD k 0) 0 ((n : Int) - 1) = false) : (l.take (k + 1)).all (fun x => inB x 0 ((n : Int) - 1)) = true := by
  rw [all_take_succ _ l (by omega) 0, h]
  rw [outB_eq] at c
  simpa using c
theorem rl_in {n : Nat} {l : List Int} {k : Nat} (h : (l.take k).all (fun x => inB x 0 ((n : Int) - 1)) = true) (hk : ¬ (k : Int) < l.length) : (!(l.all fun x => inB x 0 ((n : Int) - 1))) = false := by
  rw [List.take_of_length_le (by omega)] at h
  simp [h]
end Go.Nm
namespace Go.Nm
section
variable {ws : List Work}
def ofOK (x : Work) : Bool := decide ((x.of.length : Int) <= 5)
theorem rr_len (c : (decide ((ws.length : Int) < 1) || decide (30 < (ws.length : Int))) = true) : 3 = rightE ws := by
  apply right_many
  have : inB ws.length 1 30 = false := by
    unfold inB
    simp only [Bool.or_eq_true, decide_eq_true_eq] at c
    simp only [Bool.and_eq_false_iff, decide_eq_false_iff_not]
    omega
  simp [this]
theorem rr_of {i : Nat} (hi : (i : Int) < ws.length) (c : 5 < ((ws.getD i default).of.length : Int)) : 3 = rightE ws := by
  apply right_many
  have : (ws.all fun x => decide ((x.of.length : Int) <= 5)) = false := by
    rw [List.all_eq_false]
    exact ⟨_, getD_memN ws hi default, by simp only [decide_eq_true_eq]; omega⟩
  simp [this]
theorem rr_of_next {i : Nat} (h : (ws.take i).all ofOK = true) (hi : (i : Int) < ws.length) (c : ¬ 5 < ((ws.getD i default).of.length : Int)) : (ws.take (i + 1)).all ofOK = true := by
  rw [all_take_succ _ ws (by omega) default, h]
  simp only [ofOK, Bool.true_and, decide_eq_true_eq]
  omega
theorem rr_first {i : Nat} (c : (decide ((ws.length : Int) < 1) || decide (30 < (ws.length : Int))) = false) (hi : ¬ (i : Int) < ws.length) (h : (ws.take i).all ofOK = true) :
    (!(inB ws.length 1 30) || !(ws.all fun x => decide ((x.of.length : Int) <= 5))) = false := by
  rw [List.take_of_length_le (by omega)] at h
  have h1 : inB ws.length 1 30 = true := by
    unfold inB
    simp only [Bool.or_eq_false_iff, decide_eq_false_iff_not] at c
    simp only [Bool.and_eq_true, decide_eq_true_eq]
    omega
  have h2 : (ws.all fun x => decide ((x.of.length : Int) <= 5)) = true := h
  simp [h1, h2]
def kOK (n : Int) (i : Nat) (k : Int) : Bool := inB k 0 (n - 1) && (k != (i : Int))
theorem rr_num {i : Nat} (c : (outB (ws.getD i default).base 0 1000002 || outB (ws.getD i default).minutes 0 10000) = true) : badAt ws i = true := by
  rw [outB_eq, outB_eq] at c
  unfold badAt badW
  rw [c]
  rfl
theorem rr_k {i k : Nat} (hk : (k : Int) < (ws.getD i default).of.length) (c : (outB ((ws.getD i default).of.getD k 0) 0 ((ws.length : Int) - 1) || ((ws.getD i default).of.getD k 0 == (i : Int))) = true) : badAt ws i = true := by
  unfold badAt badW
  have : ((ws.getD i default).of.all fun k => inB k 0 ((ws.length : Int) - 1) && (k != (i : Int))) = false := by
    rw [List.all_eq_false]
    refine ⟨_, getD_memN _ hk 0, ?_⟩
    rw [outB_eq] at c
    revert c
    generalize (ws.getD i default).of.getD k 0 = x
    by_cases hx : x = (i : Int) <;> cases inB x 0 ((ws.length : Int) - 1) <;> simp [hx]
  rw [this]
  simp
theorem rr_k_next {i k : Nat} (h : ((ws.getD i default).of.take k).all (kOK ws.length i) = true) (hk : (k : Int) < (ws.getD i default).of.length)
    (c : (outB ((ws.getD i default).of.getD k 0) 0 ((ws.length : Int) - 1) || ((ws.getD i default).of.getD k 0 == (i : Int))) = false) : ((ws.getD i default).of.take (k + 1)).all (kOK ws.length i) = true := by
  rw [all_take_succ _ _ (by omega) 0, h]
  rw [outB_eq] at c
  unfold kOK
  revert c
  generalize (ws.getD i default).of.getD k 0 = x
  by_cases hx : x = (i : Int) <;> cases inB x 0 ((ws.length : Int) - 1) <;> simp [hx]
theorem rr_good {i k : Nat} (c : (outB (ws.getD i default).base 0 1000002 || outB (ws.getD i default).minutes 0 10000) = false) (h : ((ws.getD i default).of.take k).all (kOK ws.length i) = true) (hk : ¬ (k : Int) < (ws.getD i default).of.length) : badAt ws i = false := by
  rw [List.take_of_length_le (by omega)] at h
  rw [outB_eq, outB_eq] at c
  unfold badAt badW
  have h2 : ((ws.getD i default).of.all fun k => inB k 0 ((ws.length : Int) - 1) && (k != (i : Int))) = true := h
  rw [c, h2]
  rfl
theorem rr_dup {i k : Nat} (hf : (!(inB ws.length 1 30) || !(ws.all fun x => decide ((x.of.length : Int) <= 5))) = false) {j : Nat} (hj : ¬ (j : Int) < ws.length) (hjl : j <= ws.length) (hb : (List.range j).any (badAt ws) = false)
    (hi : (i : Int) < ws.length) (hk : (k : Int) < (ws.getD i default).of.length) (c : ((ws.getD i default).of.take k).contains ((ws.getD i default).of.getD k 0) = true) : 10 = rightE ws := by
  refine right_dup hf hj hjl hb ?_
  rw [List.take_of_length_le (by omega)]
  exact List.any_eq_true.2 ⟨_, getD_memN ws hi default, List.any_eq_true.2 ⟨k, List.mem_range.2 (by omega), c⟩⟩
theorem rr_dup_next {i k : Nat} (h : (ws.take i).any (fun x => dupL x.of) = false) (hi : (i : Int) < ws.length) (h2 : (List.range k).any (dupAt (ws.getD i default).of) = false) (hk : ¬ (k : Int) < (ws.getD i default).of.length) (hkl : k <= (ws.getD i default).of.length) :
    (ws.take (i + 1)).any (fun x => dupL x.of) = false := by
  rw [any_take_succ (fun x : Work => dupL x.of) ws (by omega) default, h]
  obtain rfl : k = (ws.getD i default).of.length := by omega
  exact h2
theorem rr_dup1 {i k : Nat} (h2 : (List.range k).any (dupAt (ws.getD i default).of) = false) (c : ((ws.getD i default).of.take k).contains ((ws.getD i default).of.getD k 0) = false) : (List.range (k + 1)).any (dupAt (ws.getD i default).of) = false := by
  rw [any_range_succ, h2]
  exact c
end
end Go.Nm
namespace Go.Nm
/-- A loop whose states are known. -/
theorem M.i_for {σ ρ : Type} {body : σ -> M (σ ⊕ ρ)} {r : ρ} (st : Nat -> σ) (n : Nat) (step : ∀ i, i < n -> (body (st i)).Ends (.inl (st (i + 1)))) (fin : (body (st n)).Ends (.inr r)) : (M.iter body (st 0)).Ends r := by
  refine M.i_loop (r := r) (fun m s => ∃ i, i <= n /\ m = n - i /\ s = st i) ?_ n (st 0) ⟨0, Nat.zero_le _, rfl, rfl⟩
  rintro m s ⟨i, hi, rfl, rfl⟩
  by_cases h : i < n
  · exact .inl ⟨_, n - (i + 1), by omega, step i h, i + 1, h, rfl, rfl⟩
  · obtain rfl : i = n := by omega
    exact .inr fin
/-- A loop that looks for the first that is so. -/
theorem M.i_scan {b : Nat -> M (Nat ⊕ (Unit ⊕ Unit))} (n : Nat) (bad : Nat -> Bool) (hb : ∀ i, i < n -> (∀ j < i, bad j = false) -> (b i).Ends (if bad i then .inr (.inl ()) else .inl (i + 1))) (he : (∀ j < n, bad j = false) -> (b n).Ends (.inr (.inr ()))) :
    (M.iter b 0).Ends (if (List.range n).any bad then .inl () else .inr ()) := by
  have key : ∀ k i, n = i + k -> (∀ j < i, bad j = false) -> (M.iter b i).Ends (if (List.range n).any bad then .inl () else .inr ()) := by
    intro k
    induction k with
    | zero =>
      intro i hi hj
      have hn : n = i := by omega
      rw [hn] at he ⊢
      have : (List.range i).any bad = false := List.any_eq_false.2 fun j hj' => by simp [hj j (List.mem_range.1 hj')]
      rw [this]
      exact M.i_stop (he hj)
    | succ k ih =>
      intro i hi hj
      have h1 := hb i (by omega) hj
      cases hc : bad i with
      | true =>
        rw [hc] at h1
        have : (List.range n).any bad = true := List.any_eq_true.2 ⟨i, List.mem_range.2 (by omega), hc⟩
        rw [this]
        exact M.i_stop h1
      | false =>
        rw [hc] at h1
        refine M.i_next h1 (ih (i + 1) (by omega) fun j hj' => ?_)
        by_cases e : j = i
        · rw [e]; exact hc
        · exact hj j (by omega)
  exact key n 0 (by omega) (fun j hj => by omega)
theorem M.grdD {α : Type} {p : Prop} [Decidable p] {k : M α} {r : α} (hp : p) (h : k.Ends r) : (M.grd (decide p) k).Ends r := M.i_grd (decide_eq_true hp) h
theorem M.i_t {α : Type} {b : Bool} {x y : M α} {r : α} (hb : b = true) (h : x.Ends r) : (bif b then x else y).Ends r := by subst hb; exact h
theorem M.i_f {α : Type} {b : Bool} {x y : M α} {r : α} (hb : b = false) (h : y.Ends r) : (bif b then x else y).Ends r := by subst hb; exact h
theorem set_getD_self {α : Type} (l : List α) (i : Nat) (h : i < l.length) (d : α) : l.set i (l.getD i d) = l := by
  rw [List.getD_eq_getElem?_getD, List.getElem?_eq_getElem h, Option.getD_some, List.set_getElem_self]
theorem take_succ_D {α : Type} (l : List α) (i : Nat) (h : i < l.length) (d : α) : l.take i ++ [l.getD i d] = l.take (i + 1) := (take_succ_getD l h d).symm
end Go.Nm
namespace Go.Nm
/-- A way from one work to another one that is made of it. -/
inductive Wy (ws : List Work) : Nat -> Nat -> Prop
  | one {a b : Nat} (h : (a : Int) ∈ (ws.getD b default).of) (hb : b < ws.length) : Wy ws a b
  | more {a m b : Nat} (w : Wy ws a m) (h : (m : Int) ∈ (ws.getD b default).of) (hb : b < ws.length) : Wy ws a b
def Tb (T : List (List Bool)) (a b : Nat) : Bool := (T.getD a []).getD b false
def fc : List Bool -> Nat
  | [] => 0
  | true :: l => fc l
  | false :: l => fc l + 1
def fT : List (List Bool) -> Nat
  | [] => 0
  | r :: T => fc r + fT T
theorem fc_set : ∀ (l : List Bool) (i : Nat), i < l.length -> l.getD i false = false -> fc (l.set i true) + 1 = fc l
  | [], i, h, _ => by simp at h
  | x :: l, 0, _, h => by
    simp only [List.getD_cons_zero] at h
    subst h
    simp only [List.set_cons_zero, fc]
  | x :: l, i + 1, h, he => by
    simp only [List.getD_cons_succ] at he
    have := fc_set l i (by simpa using h) he
    simp only [List.set_cons_succ]
    cases x <;> simp only [fc] <;> omega
theorem fT_set : ∀ (T : List (List Bool)) (i : Nat) (r : List Bool), i < T.length -> fT (T.set i r) + fc (T.getD i []) = fT T + fc r
  | [], i, _, h => by simp at h
  | x :: T, 0, r, _ => by simp only [List.set_cons_zero, fT, List.getD_cons_zero]; omega
  | x :: T, i + 1, r, h => by
    have := fT_set T i r (by simpa using h)
    simp only [List.set_cons_succ, fT, List.getD_cons_succ]
    omega
theorem gset {α : Type} (l : List α) (i j : Nat) (x d : α) (h : i < l.length) : (l.set i x).getD j d = if j = i then x else l.getD j d := by
  simp only [List.getD_eq_getElem?_getD, List.getElem?_set]
  by_cases e : i = j
  · subst e; simp [h]
  · rw [if_neg e, if_neg (fun h => e h.symm)]
theorem getD_el {α : Type} (l : List α) {k : Nat} (h : k < l.length) (d : α) : l.getD k d = l[k] := by rw [List.getD_eq_getElem?_getD, List.getElem?_eq_getElem h, Option.getD_some]
structure Sq (n : Nat) (T : List (List Bool)) : Prop where
  len : T.length = n
  row : ∀ a, a < n -> (T.getD a []).length = n
theorem Sq.put {n : Nat} {T : List (List Bool)} (h : Sq n T) {a b : Nat} (ha : a < n) : Sq n (T.set a ((T.getD a []).set b true)) := by
  refine ⟨by rw [List.length_set]; exact h.len, fun a' ha' => ?_⟩
  rw [gset _ _ _ _ _ (by rw [h.len]; exact ha)]
  split
  · rw [List.length_set]; exact h.row a ha
  · exact h.row a' ha'
theorem Tb_put {n : Nat} {T : List (List Bool)} (h : Sq n T) {a b : Nat} (ha : a < n) (hb : b < n) (a' b' : Nat) : Tb (T.set a ((T.getD a []).set b true)) a' b' = if a' = a /\ b' = b then true else Tb T a' b' := by
  unfold Tb
  rw [gset _ _ _ _ _ (by rw [h.len]; exact ha)]
  by_cases e : a' = a
  · subst e
    rw [if_pos rfl, gset _ _ _ _ _ (by rw [h.row _ ha]; exact hb)]
    by_cases e2 : b' = b
    · rw [if_pos e2, if_pos ⟨rfl, e2⟩]
    · rw [if_neg e2, if_neg (fun h => e2 h.2)]
  · rw [if_neg e, if_neg (fun h => e h.1)]
/-- The rule at one place. -/
def ClAt (ws : List Work) (T : List (List Bool)) (b k a : Nat) : Prop :=
  (((a : Int) == ((ws.getD b default).of).getD k 0) || Tb T a (Int.toNat (((ws.getD b default).of).getD k 0))) = true -> Tb T a b = true
structure BInv (ws : List Work) (T0 : List (List Bool)) (pr : Nat -> Nat -> Nat -> Prop) (T : List (List Bool)) (ch : Bool) : Prop where
  sq : Sq ws.length T
  sound : ∀ a b, Tb T a b = true -> Wy ws a b
  yes : ch = true -> fT T < fT T0
  no : ch = false -> T = T0 /\ ∀ b k a, pr b k a -> ClAt ws T b k a
theorem BInv.imp {ws : List Work} {T0 T : List (List Bool)} {pr pr' : Nat -> Nat -> Nat -> Prop} {ch : Bool} (h : BInv ws T0 pr T ch) (hp : ∀ b k a, pr' b k a -> pr b k a) : BInv ws T0 pr' T ch :=
  ⟨h.sq, h.sound, h.yes, fun e => ⟨(h.no e).1, fun b k a hh => (h.no e).2 b k a (hp b k a hh)⟩⟩
theorem gOr {c : Bool} {p : Prop} [Decidable p] (hp : p) : (!c || decide p) = true := by rw [decide_eq_true hp, Bool.or_true]
theorem gOr2 {c : Bool} {p q : Prop} [Decidable p] [Decidable q] (hp : p) (hq : q) : (!c || (decide p && decide q)) = true := by rw [decide_eq_true hp, decide_eq_true hq]; cases c <;> rfl
theorem gA2 {p q : Prop} [Decidable p] [Decidable q] (hp : p) (hq : q) : (decide p && decide q) = true := by rw [decide_eq_true hp, decide_eq_true hq]; rfl
theorem gA3 {p q r : Prop} [Decidable p] [Decidable q] [Decidable r] (hp : p) (hq : q) (hr : r) : (decide p && decide q && decide r) = true := by rw [decide_eq_true hp, decide_eq_true hq, decide_eq_true hr]; rfl
end Go.Nm
namespace Go.Nm
theorem wy_pos {ws : List Work} (h : openedE ws = 0) {a b : Nat} (w : Wy ws a b) : posO ws a < posO ws b := by
  induction w with
  | one ha hb => exact posO_lt (order_all h (Int.natCast_nonneg _) (by omega)) (by simpa using ha)
  | more w hm hb ih => exact Nat.lt_trans ih (posO_lt (order_all h (Int.natCast_nonneg _) (by omega)) (by simpa using hm))
theorem orderF_stuck {ws : List Work} : ∀ (f : Nat) (out : List Int), (orderF ws f out).length < out.length + f -> nextR ws (orderF ws f out) = none
  | 0, out, h => by simp only [orderF] at h; omega
  | f + 1, out, h => by
    unfold orderF at h ⊢
    cases hn : nextR ws out with
    | none => exact hn
    | some i =>
      rw [hn] at h
      dsimp only at h ⊢
      exact orderF_stuck f _ (by simp only [List.length_append, List.length_cons, List.length_nil]; omega)
theorem nodup_sub : ∀ (l m : List Int), l.Nodup -> (∀ x ∈ l, x ∈ m) -> l.length <= m.length
  | [], _, _, _ => Nat.zero_le _
  | x :: l, m, hn, hs => by
    rw [List.nodup_cons] at hn
    have h1 := nodup_sub l (m.erase x) hn.2 (fun y hy => (List.mem_erase_of_ne (show y ≠ x from fun e => hn.1 (by rw [← e]; exact hy))).2 (hs y (List.mem_cons_of_mem _ hy)))
    have h2 := hs x (List.mem_cons_self ..)
    rw [List.length_erase_of_mem h2] at h1
    have := List.length_pos_of_mem h2
    simp only [List.length_cons]
    omega
theorem order_circle {ws : List Work} (hR : rightE ws = 0) (h : (orderP ws).length < ws.length) : ∃ i, i < ws.length /\ Wy ws i i := by
  have hst : nextR ws (orderP ws) = none := orderF_stuck ws.length [] (by simpa [orderP] using h)
  have hnr : ∀ i, i < ws.length -> readyAt ws (orderP ws) i = false := by
    intro i hi
    unfold nextR at hst
    rw [List.find?_eq_none] at hst
    simpa using hst i (List.mem_range.2 hi)
  have step : ∀ i, i < ws.length -> (i : Int) ∉ orderP ws -> ∃ k, k < ws.length /\ (k : Int) ∉ orderP ws /\ (k : Int) ∈ (ws.getD i default).of := by
    intro i hi hni
    have h1 := hnr i hi
    unfold readyAt at h1
    have h2 : (orderP ws).contains (i : Int) = false := by simpa using hni
    rw [h2, Bool.not_false, Bool.true_and, List.all_eq_false] at h1
    obtain ⟨x, hx, hx2⟩ := h1
    have h3 := right_of hR hi x hx
    refine ⟨x.toNat, by omega, ?_, ?_⟩
    · rw [Int.toNat_of_nonneg h3.1]; simpa using hx2
    · rw [Int.toNat_of_nonneg h3.1]; exact hx
  have start : ∃ i, i < ws.length /\ (i : Int) ∉ orderP ws := by
    refine Classical.byContradiction fun hc => ?_
    have h1 : ∀ i, i < ws.length -> (i : Int) ∈ orderP ws := fun i hi => Classical.byContradiction fun hn => hc ⟨i, hi, hn⟩
    have h2 : ((List.range ws.length).map fun i : Nat => (i : Int)).length <= (orderP ws).length := by
      refine nodup_sub _ _ ?_ ?_
      · rw [List.Nodup, List.pairwise_map]
        exact List.nodup_range.imp fun hne e => hne (by omega)
      · intro x hx
        obtain ⟨i, hi, rfl⟩ := List.mem_map.1 hx
        exact h1 i (List.mem_range.1 hi)
    simp at h2
    omega
  obtain ⟨i0, hi0, hn0⟩ := start
  have hg : ∃ g : Nat -> Nat, ∀ i, i < ws.length -> (i : Int) ∉ orderP ws -> g i < ws.length /\ (g i : Int) ∉ orderP ws /\ (g i : Int) ∈ (ws.getD i default).of := by
    refine ⟨fun i => if hh : i < ws.length /\ (i : Int) ∉ orderP ws then (step i hh.1 hh.2).choose else 0, fun i h1 h2 => ?_⟩
    dsimp only
    rw [dif_pos (show i < ws.length /\ (i : Int) ∉ orderP ws from ⟨h1, h2⟩)]
    exact (step i h1 h2).choose_spec
  obtain ⟨g, hg⟩ := hg
  let sq : Nat -> Nat := fun j => Nat.rec i0 (fun _ x => g x) j
  have hs : ∀ j : Nat, sq j < ws.length /\ (Int.ofNat (sq j)) ∉ orderP ws := by
    intro j
    induction j with
    | zero => exact ⟨hi0, hn0⟩
    | succ j ih => exact ⟨(hg _ ih.1 ih.2).1, (hg _ ih.1 ih.2).2.1⟩
  have hw : ∀ d p : Nat, Wy ws (sq (p + d + 1)) (sq p) := by
    intro d
    induction d with
    | zero => intro p; exact .one (hg _ (hs p).1 (hs p).2).2.2 (hs p).1
    | succ d ih =>
      intro p
      have := ih (p + 1)
      rw [show p + 1 + d + 1 = p + (d + 1) + 1 from by omega] at this
      exact .more this (hg _ (hs p).1 (hs p).2).2.2 (hs p).1
  refine Classical.byContradiction fun hc => ?_
  have hne : ∀ p q : Nat, p < q -> sq p ≠ sq q := by
    intro p q hpq e
    have := hw (q - p - 1) p
    rw [show p + (q - p - 1) + 1 = q from by omega, ← e] at this
    exact hc ⟨sq p, (hs p).1, this⟩
  have h1 := nodup_bound ws.length ((List.range (ws.length + 1)).map fun j => Int.ofNat (sq j)) (by
    rw [List.Nodup, List.pairwise_map]
    exact List.pairwise_lt_range.imp fun hlt e => hne _ _ hlt (Int.ofNat.inj e)) (fun x hx => by
    obtain ⟨j, _, rfl⟩ := List.mem_map.1 hx
    have := (hs j).1
    show 0 <= ((sq j : Nat) : Int) /\ ((sq j : Nat) : Int) < _
    omega)
  simp at h1
  omega
end Go.Nm
namespace Go.Nm
theorem any_range_all {α : Type} (l : List α) (d : α) (p : α -> Bool) : (List.range l.length).any (fun i => !p (l.getD i d)) = !(l.all p) := by
  rw [Bool.eq_iff_iff]
  constructor
  · intro h
    obtain ⟨i, hi, hp⟩ := List.any_eq_true.1 h
    have hi := List.mem_range.1 hi
    rw [Bool.not_eq_true', List.all_eq_false]
    exact ⟨_, getD_memN l (i := i) (by omega) d, by simpa using hp⟩
  · intro h
    rw [Bool.not_eq_true', List.all_eq_false] at h
    obtain ⟨x, hx, hp⟩ := h
    obtain ⟨i, hi, rfl⟩ := List.getElem_of_mem hx
    exact List.any_eq_true.2 ⟨i, List.mem_range.2 hi, by rw [getD_el l hi d]; simpa using hp⟩
end Go.Nm
namespace Go.Nm
variable {ws : List Work}
def stStep (ws : List Work) (rev : List Int) (st : List Bool) (i : Int) : List Bool := st.set i.toNat (rev.contains i || (ws.getD i.toNat default).of.any (fun k => st.getD k.toNat false))
theorem staleF_fold (ws : List Work) (rev : List Int) : ∀ (l : List Int) (st : List Bool), staleF ws rev l st = l.foldl (stStep ws rev) st
  | [], _ => rfl
  | i :: l, st => by unfold staleF; rw [staleF_fold ws rev l]; rfl
theorem staleF_app (ws : List Work) (rev : List Int) (a b : List Int) (st : List Bool) : staleF ws rev (a ++ b) st = staleF ws rev b (staleF ws rev a st) := by
  rw [staleF_fold, staleF_fold, staleF_fold, List.foldl_append]
theorem staleF_other (ws : List Work) (rev : List Int) {x : Int} (h1 : 0 <= x) (d : Bool) : ∀ (l : List Int) (st : List Bool), (∀ y ∈ l, 0 <= y) -> x ∉ l -> (staleF ws rev l st).getD x.toNat d = st.getD x.toNat d
  | [], _, _, _ => rfl
  | i :: l, st, h0, hx => by
    unfold staleF
    have hi := h0 i (by simp)
    have hne : i ≠ x := fun e => hx (by simp [e])
    rw [staleF_other ws rev h1 d l _ (fun y hy => h0 y (by simp [hy])) (fun hm => hx (by simp [hm]))]
    simp only [List.getD_eq_getElem?_getD]
    rw [List.getElem?_set_ne (by omega)]
theorem stale_eq (h : openedE ws = 0) (rev : List Int) {i : Int} (h0 : 0 <= i) (h1 : i < ws.length) :
    (staleL ws rev).getD i.toNat false = (rev.contains i || (ws.getD i.toNat default).of.any fun k => (staleL ws rev).getD k.toNat false) := by
  have hm := order_all h h0 h1
  obtain ⟨l1, l2, hs⟩ := List.append_of_mem hm
  have hg := order_good ws
  have hof : ∀ k ∈ (ws.getD i.toNat default).of, k ∈ l1 := by
    have := hg.2.2 l1.length (by rw [hs]; simp)
    rw [hs] at this
    rw [show (l1 ++ i :: l2).getD l1.length 0 = i from by rw [List.getD_eq_getElem?_getD, List.getElem?_append_right (Nat.le_refl _), Nat.sub_self]; rfl, List.take_left] at this
    exact this
  have hnd := hg.1
  rw [hs, List.nodup_append] at hnd
  have hi2 : i ∉ l2 := (List.nodup_cons.1 hnd.2.1).1
  have hi1 : i ∉ l1 := fun hm => hnd.2.2 i hm i (by simp) rfl
  have hpos : ∀ y ∈ orderP ws, 0 <= y := fun y hy => (hg.2.1 y hy).1
  have hp1 : ∀ y ∈ l1, 0 <= y := fun y hy => hpos y (by rw [hs]; simp [hy])
  have hp2 : ∀ y ∈ l2, 0 <= y := fun y hy => hpos y (by rw [hs]; simp [hy])
  have hlen := right_len (opened_right h)
  have hl : (staleF ws rev l1 (List.replicate 30 false)).length = 30 := by rw [staleF_len]; simp
  have hsplit : staleL ws rev = staleF ws rev l2 (stStep ws rev (staleF ws rev l1 (List.replicate 30 false)) i) := by
    unfold staleL
    rw [hs, staleF_app]
    rfl
  have hk : ∀ k ∈ (ws.getD i.toNat default).of, (staleF ws rev l1 (List.replicate 30 false)).getD k.toNat false = (staleL ws rev).getD k.toNat false := by
    intro k hk
    have hk1 := hof k hk
    have hk0 := hp1 k hk1
    have hne : i ≠ k := fun e => hi1 (e ▸ hk1)
    have hk2 : k ∉ l2 := fun hm => hnd.2.2 k hk1 k (by simp [hm]) rfl
    rw [hsplit, staleF_other ws rev hk0 false l2 _ hp2 hk2]
    unfold stStep
    simp only [List.getD_eq_getElem?_getD]
    rw [List.getElem?_set_ne (by omega)]
  have hany : ((ws.getD i.toNat default).of.any fun k => (staleF ws rev l1 (List.replicate 30 false)).getD k.toNat false) = ((ws.getD i.toNat default).of.any fun k => (staleL ws rev).getD k.toNat false) := by
    rw [Bool.eq_iff_iff, List.any_eq_true, List.any_eq_true]
    exact ⟨fun ⟨k, h1, h2⟩ => ⟨k, h1, by rw [← hk k h1]; exact h2⟩, fun ⟨k, h1, h2⟩ => ⟨k, h1, by rw [hk k h1]; exact h2⟩⟩
  rw [← hany]
  rw [hsplit, staleF_other ws rev h0 false l2 _ hp2 hi2]
  unfold stStep
  rw [gset _ _ _ _ _ (by rw [hl]; omega), if_pos rfl]
/-- Stale is what is revised, and to which a way leads from what is revised. -/
theorem stale_iff (h : openedE ws = 0) {rev : List Int} (hr : ∀ x ∈ rev, 0 <= x /\ x < (ws.length : Int)) {i : Nat} (hi : i < ws.length) :
    (staleL ws rev).getD i false = true ↔ ((i : Int) ∈ rev ∨ ∃ k ∈ rev, Wy ws k.toNat i) := by
  constructor
  · have key : ∀ n (i : Nat), i < ws.length -> posO ws i < n -> (staleL ws rev).getD i false = true -> ((i : Int) ∈ rev ∨ ∃ k ∈ rev, Wy ws k.toNat i) := by
      intro n
      induction n with
      | zero => intro i _ hn; omega
      | succ n ih =>
        intro i hi hn hs
        have he := stale_eq h rev (i := (i : Int)) (by omega) (by omega)
        rw [Int.toNat_natCast] at he
        rw [he, Bool.or_eq_true] at hs
        rcases hs with hs | hs
        · exact .inl (by simpa using hs)
        · obtain ⟨k, hk, hk2⟩ := List.any_eq_true.1 hs
          have hx := right_of (opened_right h) hi k hk
          have hp := posO_lt (order_all h (i := (i : Int)) (by omega) (by omega)) (by simpa using hk)
          have e : ((k.toNat : Nat) : Int) = k := Int.toNat_of_nonneg hx.1
          rcases ih k.toNat (by omega) (by rw [e]; omega) hk2 with h1 | ⟨k', h1, h2⟩
          · rw [e] at h1
            exact .inr ⟨k, h1, .one (by rw [e]; exact hk) hi⟩
          · exact .inr ⟨k', h1, .more h2 (by rw [e]; exact hk) hi⟩
    exact key _ i hi (Nat.lt_succ_self _)
  · have hst : ∀ (i : Nat), i < ws.length -> ((i : Int) ∈ rev ∨ ∃ m : Nat, (m : Int) ∈ (ws.getD i default).of /\ (staleL ws rev).getD m false = true) -> (staleL ws rev).getD i false = true := by
      intro i hi hh
      have he := stale_eq h rev (i := (i : Int)) (by omega) (by omega)
      rw [Int.toNat_natCast] at he
      rw [he, Bool.or_eq_true]
      rcases hh with hh | ⟨m, h1, h2⟩
      · exact .inl (by simpa using hh)
      · exact .inr (List.any_eq_true.2 ⟨(m : Int), h1, by simpa using h2⟩)
    rintro (h1 | ⟨k, h1, hw⟩)
    · exact hst i hi (.inl h1)
    · have hk := hr k h1
      have hks : (staleL ws rev).getD k.toNat false = true := hst k.toNat (by omega) (.inl (by rw [Int.toNat_of_nonneg hk.1]; exact h1))
      clear hi
      induction hw with
      | one ha hb => exact hst _ hb (.inr ⟨_, ha, hks⟩)
      | more _ ha hb ih => exact hst _ hb (.inr ⟨_, ha, ih⟩)
/-! ### The line that takes longest -/
/-- Is each work of a line made of the one ahead of it? -/
def lineB (ws : List Work) : List Int -> Bool
  | a :: b :: l => (ws.getD b.toNat default).of.contains a && lineB ws (b :: l)
  | _ => true
/-- What the list behind a work is like: it goes back along works that had to be waited for. -/
structure Back (ws : List Work) (st : List Bool) (i : Int) (r : List Int) : Prop where
  rng : ∀ x ∈ r, 0 <= x /\ x < (ws.length : Int) /\ st.getD x.toNat false = true
  line : lineB ws (r.reverse ++ [i]) = true
  sum : ∀ z, r.foldl (fun s i => s + (ws.getD i.toNat default).minutes) z = z + (readyL ws (orderP ws) st).getD i.toNat 0 - (ws.getD i.toNat default).minutes
end Go.Nm
namespace Go.Nm
variable {ws : List Work} {rev : List Int}
theorem lineB_at : ∀ (l : List Int), lineB ws l = !((List.range (l.length - 1)).any fun i => !((ws.getD (l.getD (i + 1) 0).toNat default).of.contains (l.getD i 0)))
  | [] => rfl
  | [_] => rfl
  | a :: b :: l => by
    have ih := lineB_at (b :: l)
    simp only [lineB]
    rw [ih]
    simp only [List.length_cons, Nat.add_sub_cancel]
    rw [List.range_succ_eq_map, List.any_cons, List.any_map]
    simp only [List.getD_cons_zero, List.getD_cons_succ, Nat.zero_add, Function.comp_def, Nat.succ_eq_add_one]
    cases (ws.getD b.toNat default).of.contains a <;> simp
end Go.Nm
namespace Go.Nm
namespace M
variable {α β σ ρ : Type}
def Out (m : M α) (Q : α -> Prop) : Prop := ∃ r, m.Ends r /\ Q r
theorem o_of {m : M α} {a : α} {Q : α -> Prop} (h : m.Ends a) (q : Q a) : m.Out Q := ⟨a, h, q⟩
theorem o_pure {a : α} {Q : α -> Prop} (h : Q a) : (pure a).Out Q := ⟨a, i_pure, h⟩
theorem o_mono {m : M α} {P Q : α -> Prop} (h : m.Out P) (k : ∀ a, P a -> Q a) : m.Out Q := by
  obtain ⟨a, h1, h2⟩ := h
  exact ⟨a, h1, k a h2⟩
theorem o_bind {m : M α} {k : α -> M β} {P : α -> Prop} {Q : β -> Prop} (h : m.Out P) (h' : ∀ a, P a -> (k a).Out Q) : (bind m k).Out Q := by
  obtain ⟨a, h1, h2⟩ := h
  obtain ⟨b, h3, h4⟩ := h' a h2
  exact ⟨b, i_bind h1 h3, h4⟩
theorem o_bindE {m : M α} {k : α -> M β} {a : α} {Q : β -> Prop} (h : m.Ends a) (h' : (k a).Out Q) : (bind m k).Out Q := o_bind (o_of (Q := fun x => x = a) h rfl) (fun _ e => by subst e; exact h')
theorem o_grd {b : Bool} {k : M α} {Q : α -> Prop} (hb : b = true) (h : k.Out Q) : (grd b k).Out Q := by subst hb; exact h
theorem o_grdD {p : Prop} [Decidable p] {k : M α} {Q : α -> Prop} (hp : p) (h : k.Out Q) : (grd (decide p) k).Out Q := o_grd (decide_eq_true hp) h
theorem o_if {b : Bool} {x y : M α} {Q : α -> Prop} (h : b = true -> x.Out Q) (h' : b = false -> y.Out Q) : (bif b then x else y).Out Q := by
  cases b with
  | true => exact h rfl
  | false => exact h' rfl
theorem o_t {b : Bool} {x y : M α} {Q : α -> Prop} (hb : b = true) (h : x.Out Q) : (bif b then x else y).Out Q := by subst hb; exact h
theorem o_f {b : Bool} {x y : M α} {Q : α -> Prop} (hb : b = false) (h : y.Out Q) : (bif b then x else y).Out Q := by subst hb; exact h
/-- What a round leaves. -/
def Rd (J : Nat -> σ -> Prop) (Q : ρ -> Prop) (m : Nat) : σ ⊕ ρ -> Prop
  | .inl s => ∃ m', m' < m /\ J m' s
  | .inr r => Q r
theorem o_iter {body : σ -> M (σ ⊕ ρ)} {Q : ρ -> Prop} (J : Nat -> σ -> Prop) (round : ∀ m s, J m s -> (body s).Out (Rd J Q m)) : ∀ (m : Nat) (s : σ), J m s -> (iter body s).Out Q := by
  intro m
  induction m using Nat.strongRecOn with
  | _ m ih =>
    intro s hs
    obtain ⟨x, h1, h2⟩ := round m s hs
    cases x with
    | inl s' =>
      obtain ⟨m', hlt, hj⟩ := h2
      obtain ⟨r, h3, h4⟩ := ih m' hlt s' hj
      exact ⟨r, i_next h1 h3, h4⟩
    | inr r => exact ⟨r, i_stop h1, h2⟩
/-- A loop that counts from 0 to n. -/
theorem o_for {body : σ -> M (σ ⊕ ρ)} {Q : ρ -> Prop} (n : Nat) (J : Nat -> σ -> Prop) (round : ∀ i s, i < n -> J i s -> (body s).Out (fun x => match x with | .inl s' => J (i + 1) s' | .inr r => Q r))
    (last : ∀ s, J n s -> (body s).Out (fun x => match x with | .inl _ => False | .inr r => Q r)) {s : σ} (h : J 0 s) : (iter body s).Out Q := by
  refine o_iter (fun m s => ∃ i, i <= n /\ m = n - i /\ J i s) ?_ n s ⟨0, Nat.zero_le _, rfl, h⟩
  rintro m s ⟨i, hi, rfl, hj⟩
  by_cases e : i < n
  · refine o_mono (round i s e hj) ?_
    intro x hx
    cases x with
    | inl s' => exact ⟨n - (i + 1), by omega, i + 1, e, rfl, hx⟩
    | inr r => exact hx
  · obtain rfl : i = n := by omega
    refine o_mono (last s hj) ?_
    intro x hx
    cases x with
    | inl s' => exact hx.elim
    | inr r => exact hx
end M
/-! ### Works that are made in order -/
structure BuiltAt (i : Nat) (x : Work) : Prop where
  few : x.of.length <= 5
  base : 0 <= x.base /\ x.base <= 1000002
  mins : 0 <= x.minutes /\ x.minutes <= 10000
  ahead : ∀ k ∈ x.of, 0 <= k /\ k < (i : Int)
  once : x.of.Nodup
structure Built (ws : List Work) : Prop where
  len : 1 <= ws.length /\ ws.length <= 30
  at_ : ∀ i, i < ws.length -> BuiltAt i (ws.getD i default)
variable {ws : List Work}
theorem mem_getD {α : Type} {l : List α} {x : α} (h : x ∈ l) (d : α) : ∃ i, i < l.length /\ l.getD i d = x := by
  obtain ⟨i, hi, e⟩ := List.getElem_of_mem h
  exact ⟨i, hi, by rw [getD_el l hi d]; exact e⟩
theorem Built.right (h : Built ws) : rightE ws = 0 := by
  have h1 : inB ws.length 1 30 = true := by
    have := h.len
    unfold inB
    simp only [Bool.and_eq_true, decide_eq_true_eq]
    omega
  have h2 : (ws.all fun x => decide ((x.of.length : Int) <= 5)) = true := by
    rw [List.all_eq_true]
    intro x hx
    obtain ⟨i, hi, rfl⟩ := mem_getD hx default
    have := (h.at_ i hi).few
    simp only [decide_eq_true_eq]
    omega
  have h3 : (List.range ws.length).any (badAt ws) = false := by
    rw [List.any_eq_false]
    intro i hi
    have hi := List.mem_range.1 hi
    have hb := h.at_ i hi
    unfold badAt badW
    have e1 : inB (ws.getD i default).base 0 1000002 = true := by unfold inB; simp only [Bool.and_eq_true, decide_eq_true_eq]; exact hb.base
    have e2 : inB (ws.getD i default).minutes 0 10000 = true := by unfold inB; simp only [Bool.and_eq_true, decide_eq_true_eq]; exact hb.mins
    have e3 : ((ws.getD i default).of.all fun k => inB k 0 ((ws.length : Int) - 1) && (k != (i : Int))) = true := by
      rw [List.all_eq_true]
      intro k hk
      have := hb.ahead k hk
      unfold inB
      simp only [Bool.and_eq_true, decide_eq_true_eq, bne_iff_ne, ne_eq]
      omega
    rw [e1, e2, e3]
    decide
  have h4 : (ws.any fun x => dupL x.of) = false := by
    rw [List.any_eq_false]
    intro x hx hd
    obtain ⟨i, hi, rfl⟩ := mem_getD hx default
    have hn := (h.at_ i hi).once
    unfold dupL at hd
    obtain ⟨k, hk, hd⟩ := List.any_eq_true.1 hd
    have hk := List.mem_range.1 hk
    unfold dupAt at hd
    rw [List.contains_iff_mem] at hd
    rw [← List.take_append_drop k (ws.getD i default).of, List.nodup_append] at hn
    refine hn.2.2 _ hd _ ?_ rfl
    rw [List.mem_iff_getElem]
    refine ⟨0, by rw [List.length_drop]; omega, ?_⟩
    rw [List.getElem_drop]
    simp only [Nat.add_zero]
    exact (getD_el _ hk 0).symm
  unfold rightE
  rw [if_neg (by simp only [h1, h2]; decide), if_neg (by rw [h3]; decide), if_neg (by rw [h4]; decide)]
theorem Built.way (h : Built ws) {a b : Nat} (w : Wy ws a b) : a < b := by
  induction w with
  | one ha hb => have := (h.at_ _ hb).ahead _ ha; omega
  | more w hm hb ih => have := (h.at_ _ hb).ahead _ hm; omega
theorem Built.opened (h : Built ws) : openedE ws = 0 := by
  refine opened_ok h.right ?_
  intro hc
  obtain ⟨i, _, hw⟩ := order_circle h.right (by omega)
  have := h.way hw
  omega
end Go.Nm
namespace Go.Proofs
open Go.Shelf
def Try.layRev_ren : Go.Shelf.Ren := ⟨fun | 112 => 104 | n => n, fun | 28 => 34 | 3 => 3 | 4 => 4 | 0 => 0 | n => n, fun | n => n⟩
theorem Try.layRev : Go.Proofs.Lays.n112 Try.prog Try.layRev_ren := {
  mixed := by kernel_rfl
  f112 := Try.func104.trans (congrArg some (by kernel_rfl))
  t0 := Try.underlying0
  a0 := Try.isAgg0
  z0 := Try.sizeOf0
  v0 := Try.zeroValue0
  t3 := Try.underlying3
  a3 := Try.isAgg3
  z3 := Try.sizeOf3
  v3 := Try.zeroValue3
  t4 := Try.underlying4
  a4 := Try.isAgg4
  z4 := Try.sizeOf4
  v4 := Try.zeroValue4
  t28 := Try.underlying34
  a28 := Try.isAgg34
  z28 := Try.sizeOf34
  v28 := Try.zeroValue34 }
def Try.layMul_ren : Go.Shelf.Ren := ⟨fun | 212 => 142 | 263 => 180 | 264 => 181 | n => n, fun | 46 => 205 | 51 => 230 | 146 => 234 | 53 => 232 | 148 => 236 | n => n, fun | n => n⟩
theorem Try.layMul : Go.Proofs.Lays.n212 Try.prog Try.layMul_ren := {
  mixed := by kernel_rfl
  f212 := Try.func142.trans (congrArg some (by kernel_rfl))
  f263 := Try.func180.trans (congrArg some (by kernel_rfl))
  f264 := Try.func181.trans (congrArg some (by kernel_rfl))
  t46 := Try.underlying205
  a46 := Try.isAgg205
  z46 := Try.sizeOf205
  v46 := Try.zeroValue205
  t51 := Try.underlying230
  a51 := Try.isAgg230
  z51 := Try.sizeOf230
  v51 := Try.zeroValue230
  t53 := Try.underlying232
  a53 := Try.isAgg232
  z53 := Try.sizeOf232
  v53 := Try.zeroValue232
  t146 := Try.underlying234
  a146 := Try.isAgg234
  z146 := Try.sizeOf234
  v146 := Try.zeroValue234
  t148 := Try.underlying236
  a148 := Try.isAgg236
  z148 := Try.sizeOf236
  v148 := Try.zeroValue236 }
end Go.Proofs
namespace Go.Nm
open Go
theorem setCells_row (g : Nat) (t : TypeId) (fr : Nat × Nat) : ∀ (vs : List Value) (o : Nat) (w : World) (cur : Array Value), w.heap[g]? = some (.cells cur t fr) -> o + vs.length <= cur.size →
    w.setCells g o vs = w.setRow g (cur.toList.take o ++ vs ++ cur.toList.drop (o + vs.length)).toArray
  | [], o, w, cur, h, _ => by
    simp only [World.setCells, List.append_nil, List.length_nil, Nat.add_zero, List.take_append_drop, Array.toArray_toList]
    exact (setRow_self w g cur t fr h).symm
  | v :: r, o, w, cur, h, hl => by
    have hl' : o + 1 + r.length <= (cur.setIfInBounds o v).size := by simp at hl ⊢; omega
    rw [World.setCells, setCell_eq_setRow w g o cur t fr v h, setCells_row g t fr r (o + 1) _ _ (setRow_heap w g cur _ t _ h) hl', setRow_setRow]
    congr 2
    have e := list_seg_step cur.toList o v r (by simp at hl ⊢; omega)
    simpa [Array.toList_setIfInBounds, Nat.add_assoc] using e
theorem OwnF.over {B : Nat} {e : TypeId} {w : World} {l : List Int} {g cap : Nat} {cur : Array Value} (ho : OwnF B e w (.slice (some ⟨g, 0, none⟩) l.length cap) l) (hg : w.heap[g]? = some (.cells cur e (0, 0)))
    (hcs : l.length <= cap) (hsz : cur.size = cap) (hb : B <= g) (hm : cap <= maxLen) (l' : List Int) (hl : l'.length = l.length) (q : Nat) :
    OwnF B e ((w.drewN q).setCells g 0 (l'.map I)) (.slice (some ⟨g, 0, none⟩) l.length cap) l' /\ Grow B (.slice (some ⟨g, 0, none⟩) l.length cap) w ((w.drewN q).setCells g 0 (l'.map I)) := by
  rw [setCells_row g e (0, 0) (l'.map I) 0 (w.drewN q) cur hg (by simp; omega)]
  have hs1 : Elt.sz Int = 1 := rfl
  refine ⟨⟨by rw [enc_ints]; simp [hs1], .inr ⟨g, cap, _, by rw [hl], hb, setRow_heap _ g cur _ e (0, 0) hg, by omega, hm, by simp [hs1]; omega, ?_⟩⟩, ⟨rfl, rfl, by simp, fun k _ hk => ?_, fun g' hg' => (ho.lt g' hg').1, frozen_setRow _ _ _⟩⟩
  · rw [enc_ints, hs1]
    simp
  · rw [setRow_other]
    · rfl
    · intro e'
      apply hk
      rw [e']
      rfl
end Go.Nm
namespace Go.Proofs.Ytndobgodeicloaa
open Go Go.Nm Go.Proofs
theorem mul_any {n : Int} (h0 : 0 <= n) (h1 : n <= 9223372036854775807) (w : World) : Ret Try.prog 142 #[.int .u64 1, .int .u64 n] w fun v w' => v = .tuple #[.int .u64 0, .int .u64 n] /\ Ext w w' := by
  have h := Any.bits_Mul Try.layMul 1 n.toNat (by omega) (by omega) w
  have e : ((n.toNat : Nat) : Int) = n := Int.toNat_of_nonneg h0
  rw [Nat.one_mul, Nat.div_eq_of_lt (by omega), Nat.mod_eq_of_lt (by omega), e] at h
  refine Calls.mono h ?_
  rintro _ w' ⟨rfl, rfl⟩
  exact ⟨_, rfl, rfl, Ext.refl w'⟩
theorem reverse_any {B : Nat} {e : TypeId} {w : World} {v : Value} {l : List Int} (ho : OwnF B e w v l) : Ret Try.prog 104 #[v] w fun u w' => u = .tuple #[] /\ OwnF B e w' v l.reverse /\ Grow B v w w' := by
  have ho' := ho
  rcases ho.2 with ⟨rfl, hn⟩ | ⟨g, cap, cur, rfl, hb, hg, hc, hm, hcs, htake⟩
  · obtain rfl : l = [] := List.eq_nil_of_length_eq_zero hn
    refine Calls.mono (Any.slices_Reverse_int_empty Try.layRev none 0 w) ?_
    rintro _ w' ⟨rfl, rfl⟩
    exact ⟨_, rfl, rfl, ho', ⟨rfl, rfl, Nat.le_refl _, fun _ _ _ => rfl, fun g hg => (ho'.lt g hg).1, fun _ => rfl⟩⟩
  · have hs1 : Elt.sz Int = 1 := rfl
    rw [hs1] at hcs htake
    rw [enc_ints] at htake
    have hcell : ∀ j, j < l.length -> w.cell? ⟨g, 0 + j, none⟩ = some (.int .i64 (l.getD j 0)) := by
      intro j hj
      rw [Nat.zero_add, cell_of_row w g j cur e (0, 0) hg]
      have h1 : (cur.toList.take (l.length * 1))[j]? = (l.map I)[j]? := by rw [htake]
      rw [List.getElem?_take, if_pos (by omega), List.getElem?_map, getD_some l hj 0] at h1
      simpa using h1
    have hfz : ∀ j, j < l.length -> w.frozen? ⟨g, 0 + j, none⟩ = false := fun j hj => by simp [World.frozen?, hg]
    refine Calls.mono (Any.slices_Reverse_int_cells Try.layRev g 0 l.length cap l w (Nat.le_refl _) (by simp [maxLen] at hm; omega) hcell hfz) ?_
    rintro _ w' ⟨rfl, q, rfl⟩
    rw [List.take_length]
    have hh := OwnF.over ho' hg hc (by omega) hb hm l.reverse (by simp) q
    exact ⟨_, rfl, rfl, hh.1, hh.2⟩
end Go.Proofs.Ytndobgodeicloaa
namespace Go.Proofs.Ytndobgodeicloaa
open Go Go.Nm
theorem cf21 : CF Try.prog 21 := ⟨_, Try.func21, rfl, by decide +kernel⟩
theorem cf45 : CF Try.prog 45 := ⟨_, Try.func45, rfl, by decide +kernel⟩
theorem cf48 : CF Try.prog 48 := ⟨_, Try.func48, rfl, by decide +kernel⟩
theorem cf81 : CF Try.prog 81 := ⟨_, Try.func81, rfl, by decide +kernel⟩
theorem cf82 : CF Try.prog 82 := ⟨_, Try.func82, rfl, by decide +kernel⟩
theorem cf83 : CF Try.prog 83 := ⟨_, Try.func83, rfl, by decide +kernel⟩
theorem cf84 : CF Try.prog 84 := ⟨_, Try.func84, rfl, by decide +kernel⟩
theorem cf85 : CF Try.prog 85 := ⟨_, Try.func85, rfl, by decide +kernel⟩
theorem cf86 : CF Try.prog 86 := ⟨_, Try.func86, rfl, by decide +kernel⟩
theorem cf87 : CF Try.prog 87 := ⟨_, Try.func87, rfl, by decide +kernel⟩
theorem cf88 : CF Try.prog 88 := ⟨_, Try.func88, rfl, by decide +kernel⟩
theorem cf89 : CF Try.prog 89 := ⟨_, Try.func89, rfl, by decide +kernel⟩
theorem cf90 : CF Try.prog 90 := ⟨_, Try.func90, rfl, by decide +kernel⟩
theorem cf91 : CF Try.prog 91 := ⟨_, Try.func91, rfl, by decide +kernel⟩
theorem cf92 : CF Try.prog 92 := ⟨_, Try.func92, rfl, by decide +kernel⟩
theorem cf95 : CF Try.prog 95 := ⟨_, Try.func95, rfl, by decide +kernel⟩
theorem cf96 : CF Try.prog 96 := ⟨_, Try.func96, rfl, by decide +kernel⟩
theorem cf99 : CF Try.prog 99 := ⟨_, Try.func99, rfl, by decide +kernel⟩
theorem cf100 : CF Try.prog 100 := ⟨_, Try.func100, rfl, by decide +kernel⟩
theorem cf101 : CF Try.prog 101 := ⟨_, Try.func101, rfl, by decide +kernel⟩
theorem cf102 : CF Try.prog 102 := ⟨_, Try.func102, rfl, by decide +kernel⟩
theorem cf103 : CF Try.prog 103 := ⟨_, Try.func103, rfl, by decide +kernel⟩
theorem cf104 : CF Try.prog 104 := ⟨_, Try.func104, rfl, by decide +kernel⟩
theorem cf130 : CF Try.prog 130 := ⟨_, Try.func130, rfl, by decide +kernel⟩
theorem cf131 : CF Try.prog 131 := ⟨_, Try.func131, rfl, by decide +kernel⟩
theorem cf140 : CF Try.prog 140 := ⟨_, Try.func140, rfl, by decide +kernel⟩
theorem cf141 : CF Try.prog 141 := ⟨_, Try.func141, rfl, by decide +kernel⟩
theorem cf142 : CF Try.prog 142 := ⟨_, Try.func142, rfl, by decide +kernel⟩
theorem cf143 : CF Try.prog 143 := ⟨_, Try.func143, rfl, by decide +kernel⟩
theorem cf144 : CF Try.prog 144 := ⟨_, Try.func144, rfl, by decide +kernel⟩
theorem cf145 : CF Try.prog 145 := ⟨_, Try.func145, rfl, by decide +kernel⟩
theorem cf146 : CF Try.prog 146 := ⟨_, Try.func146, rfl, by decide +kernel⟩
theorem cf147 : CF Try.prog 147 := ⟨_, Try.func147, rfl, by decide +kernel⟩
theorem cf157 : CF Try.prog 157 := ⟨_, Try.func157, rfl, by decide +kernel⟩
theorem cf158 : CF Try.prog 158 := ⟨_, Try.func158, rfl, by decide +kernel⟩
theorem cf161 : CF Try.prog 161 := ⟨_, Try.func161, rfl, by decide +kernel⟩
theorem cf162 : CF Try.prog 162 := ⟨_, Try.func162, rfl, by decide +kernel⟩
theorem cf163 : CF Try.prog 163 := ⟨_, Try.func163, rfl, by decide +kernel⟩
theorem cf164 : CF Try.prog 164 := ⟨_, Try.func164, rfl, by decide +kernel⟩
theorem cf179 : CF Try.prog 179 := ⟨_, Try.func179, rfl, by decide +kernel⟩
theorem cf182 : CF Try.prog 182 := ⟨_, Try.func182, rfl, by decide +kernel⟩
theorem cf185 : CF Try.prog 185 := ⟨_, Try.func185, rfl, by decide +kernel⟩
theorem cf186 : CF Try.prog 186 := ⟨_, Try.func186, rfl, by decide +kernel⟩
theorem cf187 : CF Try.prog 187 := ⟨_, Try.func187, rfl, by decide +kernel⟩
theorem cf200 : CF Try.prog 200 := ⟨_, Try.func200, rfl, by decide +kernel⟩
theorem T22 : SlT Try.prog 22 60 3 40 (.agg #[.slice none 0 0, I 0, I 0]) := ⟨Try.underlying22, by kernel_rfl, rfl, by decide⟩
theorem T23 : SlT Try.prog 23 30 3 24 (.agg #[I 0, I 0, I 0]) := ⟨Try.underlying23, by kernel_rfl, rfl, by decide⟩
theorem T24 : SlT Try.prog 24 33 2 16 (.agg #[I 0, I 0]) := ⟨Try.underlying24, by kernel_rfl, rfl, by decide⟩
theorem T34 : SlT Try.prog 34 3 1 8 (I 0) := ⟨Try.underlying34, by kernel_rfl, rfl, by decide⟩
theorem T39 : SlT Try.prog 39 138 3 40 (.agg #[.slice none 0 0, I 0, I 0]) := ⟨Try.underlying39, by kernel_rfl, rfl, by decide⟩
theorem T73 : SlT Try.prog 73 34 1 24 (.slice none 0 0) := ⟨Try.underlying73, by kernel_rfl, rfl, by decide⟩
theorem Sc3 : isSc (Try.prog.underlying 3) = true := by rw [Try.underlying3]; rfl
theorem Sc4 : isSc (Try.prog.underlying 4) = true := by rw [Try.underlying4]; rfl
theorem Sc22 : isSc (Try.prog.underlying 22) = true := by rw [Try.underlying22]; rfl
theorem Sc34 : isSc (Try.prog.underlying 34) = true := by rw [Try.underlying34]; rfl
theorem Sc75 : isSc (Try.prog.underlying 75) = true := by rw [Try.underlying75]; rfl
theorem Sc132 : isSc (Try.prog.underlying 132) = true := by rw [Try.underlying132]; rfl
theorem Sc140 : isSc (Try.prog.underlying 140) = true := by rw [Try.underlying140]; rfl
theorem Sc159 : isSc (Try.prog.underlying 159) = true := by rw [Try.underlying159]; rfl
theorem Sc218 : isSc (Try.prog.underlying 218) = true := by rw [Try.underlying218]; rfl
theorem Sz3 : (Try.prog.info? 3).map (·.size) = some 1 := by kernel_rfl
theorem Sz4 : (Try.prog.info? 4).map (·.size) = some 1 := by kernel_rfl
theorem Sz22 : (Try.prog.info? 22).map (·.size) = some 1 := by kernel_rfl
theorem Ag30 : isAg (Try.prog.underlying 30) = true := by rw [Try.underlying30]; rfl
theorem Sz30 : (Try.prog.info? 30).map (·.size) = some 3 := by kernel_rfl
theorem Ag33 : isAg (Try.prog.underlying 33) = true := by rw [Try.underlying33]; rfl
theorem Sz33 : (Try.prog.info? 33).map (·.size) = some 2 := by kernel_rfl
theorem Sz34 : (Try.prog.info? 34).map (·.size) = some 1 := by kernel_rfl
theorem Ag60 : isAg (Try.prog.underlying 60) = true := by rw [Try.underlying60]; rfl
theorem Sz60 : (Try.prog.info? 60).map (·.size) = some 3 := by kernel_rfl
theorem Ag141 : isAg (Try.prog.underlying 141) = true := by rw [Try.underlying141]; rfl
theorem Sz141 : (Try.prog.info? 141).map (·.size) = some 30 := by kernel_rfl
theorem Sz185 : (Try.prog.info? 185).map (·.size) = some 1 := by kernel_rfl
theorem Fd30_0 : (Try.prog.underlying 30).bind (fun d => match d with | .struct fs => (fs[0]?).map (fun f => (f.offset, f.type)) | _ => none) = some (0, 3) := by rw [Try.underlying30]; rfl
theorem Fd30_1 : (Try.prog.underlying 30).bind (fun d => match d with | .struct fs => (fs[1]?).map (fun f => (f.offset, f.type)) | _ => none) = some (1, 3) := by rw [Try.underlying30]; rfl
theorem Fd30_2 : (Try.prog.underlying 30).bind (fun d => match d with | .struct fs => (fs[2]?).map (fun f => (f.offset, f.type)) | _ => none) = some (2, 3) := by rw [Try.underlying30]; rfl
theorem Fd33_0 : (Try.prog.underlying 33).bind (fun d => match d with | .struct fs => (fs[0]?).map (fun f => (f.offset, f.type)) | _ => none) = some (0, 3) := by rw [Try.underlying33]; rfl
theorem Fd33_1 : (Try.prog.underlying 33).bind (fun d => match d with | .struct fs => (fs[1]?).map (fun f => (f.offset, f.type)) | _ => none) = some (1, 3) := by rw [Try.underlying33]; rfl
theorem Fd60_0 : (Try.prog.underlying 60).bind (fun d => match d with | .struct fs => (fs[0]?).map (fun f => (f.offset, f.type)) | _ => none) = some (0, 34) := by rw [Try.underlying60]; rfl
theorem Fd60_1 : (Try.prog.underlying 60).bind (fun d => match d with | .struct fs => (fs[1]?).map (fun f => (f.offset, f.type)) | _ => none) = some (1, 3) := by rw [Try.underlying60]; rfl
theorem Fd60_2 : (Try.prog.underlying 60).bind (fun d => match d with | .struct fs => (fs[2]?).map (fun f => (f.offset, f.type)) | _ => none) = some (2, 3) := by rw [Try.underlying60]; rfl
theorem Fd138_0 : (Try.prog.underlying 138).bind (fun d => match d with | .struct fs => (fs[0]?).map (fun f => (f.offset, f.type)) | _ => none) = some (0, 34) := by rw [Try.underlying138]; rfl
theorem Fd138_1 : (Try.prog.underlying 138).bind (fun d => match d with | .struct fs => (fs[1]?).map (fun f => (f.offset, f.type)) | _ => none) = some (1, 3) := by rw [Try.underlying138]; rfl
theorem Fd138_2 : (Try.prog.underlying 138).bind (fun d => match d with | .struct fs => (fs[2]?).map (fun f => (f.offset, f.type)) | _ => none) = some (2, 3) := by rw [Try.underlying138]; rfl
theorem Fd185_0 : (Try.prog.underlying 185).bind (fun d => match d with | .struct fs => (fs[0]?).map (fun f => (f.offset, f.type)) | _ => none) = some (0, 22) := by rw [Try.underlying185]; rfl
theorem Fd187_0 : (Try.prog.underlying 187).bind (fun d => match d with | .struct fs => (fs[0]?).map (fun f => (f.offset, f.type)) | _ => none) = some (0, 185) := by rw [Try.underlying187]; rfl
theorem Al3 : (Try.prog.info? 3).map (·.zero) = some (some (I 0)) := by kernel_rfl
theorem Al30 : (Try.prog.info? 30).map (·.zero) = some (some (.agg #[I 0, I 0, I 0])) := by kernel_rfl
theorem Al33 : (Try.prog.info? 33).map (·.zero) = some (some (.agg #[I 0, I 0])) := by kernel_rfl
theorem Al34 : (Try.prog.info? 34).map (·.zero) = some (some (.slice none 0 0)) := by kernel_rfl
theorem Al60 : (Try.prog.info? 60).map (·.zero) = some (some (.agg #[.slice none 0 0, I 0, I 0])) := by kernel_rfl
theorem Al141 : (Try.prog.info? 141).map (·.zero) = some (some (.agg #[B false, B false, B false, B false, B false, B false, B false, B false, B false, B false, B false, B false, B false, B false, B false, B false, B false, B false, B false, B false, B false, B false, B false, B false, B false, B false, B false, B false, B false, B false])) := by kernel_rfl
theorem Al185 : (Try.prog.info? 185).map (·.zero) = some (some (.agg #[.slice none 0 0])) := by kernel_rfl
theorem Al187 : (Try.prog.info? 187).map (·.zero) = some (some (.agg #[.slice none 0 0])) := by kernel_rfl
theorem Bd185 {fs : Array Field} (h : Try.prog.underlying 185 = some (.struct fs)) : fs.toList.mapM (fun f => (Try.prog.info? f.type).map fun i => (f.offset, i.size)) = some [(0, 1)] := by rw [Try.underlying185] at h; simp only [Option.some.injEq, TypeDesc.struct.injEq] at h; subst h; kernel_rfl
theorem Bd187 {fs : Array Field} (h : Try.prog.underlying 187 = some (.struct fs)) : fs.toList.mapM (fun f => (Try.prog.info? f.type).map fun i => (f.offset, i.size)) = some [(0, 1)] := by rw [Try.underlying187] at h; simp only [Option.some.injEq, TypeDesc.struct.injEq] at h; subst h; kernel_rfl
theorem mixed : Try.prog.follows .mixedOrders = true := by kernel_rfl
end Go.Proofs.Ytndobgodeicloaa
section
set_option maxRecDepth 100000
set_option maxHeartbeats 16000000
namespace Go.Proofs.Ytndobgodeicloaa
open Go Go.Nm
theorem in_any (n a b : Int) (w : World)  : Ret Try.prog 84 #[I n, I a, I b] w fun v w' => v = B (inB n a b) /\ Ext w w' := by
 refine ret_of_W Try.func84 rfl rfl rfl ?_
 have E := Ext.refl w
 have K1 := KF.refl 0 w
 refine sQ rfl <| sA (B false) rfl <| s_nil <| sQ rfl <| sM (I n) rfl <| sM (I a) rfl <| sC _ _ (decide ((a : Int) <= n)) rfl rfl rfl <| sM (B (decide ((a : Int) <= n))) rfl <| g_val (decide ((a : Int) <= n)) (gy_t rfl) (fun hg => x_mv (v := I n) rfl) <| g_val (decide ((a : Int) <= n)) (gy_t rfl) (fun hg => x_mv (v := I b) rfl) ?_
 refine g_val (decide ((a : Int) <= n)) (gy_t rfl) (fun hg => x_cmp (kd := .i64) (r := decide ((n : Int) <= b)) (gd_of hg (I n)) (gd_of hg (I b)) rfl) <| s_val (x_pand (b := decide ((a : Int) <= n)) (r := decide ((n : Int) <= b)) rfl (fun hb => gd_of (c := decide ((a : Int) <= n)) (by simp_all) (B (decide ((n : Int) <= b)))) rfl) <| sA (B (((decide ((a : Int) <= n)) && (decide ((n : Int) <= b))))) rfl <| s_nil ?_
 refine W.ret ?_
 exact ⟨_, resE_tmp rfl, rfl, E⟩

theorem outside_any (n a b : Int) (w : World)  : Ret Try.prog 89 #[I n, I a, I b] w fun v w' => v = B (outB n a b) /\ Ext w w' := by
 refine ret_of_W Try.func89 rfl rfl rfl ?_
 have E := Ext.refl w
 have K1 := KF.refl 0 w
 refine sQ rfl <| sA (B false) rfl <| s_nil <| sQ rfl <| sM (I n) rfl <| sM (I a) rfl <| sC _ _ (decide ((n : Int) < a)) rfl rfl rfl <| sM (B (decide ((n : Int) < a))) rfl <| g_val (!(decide ((n : Int) < a))) (gy_f rfl) (fun hg => x_mv (v := I n) rfl) <| g_val (!(decide ((n : Int) < a))) (gy_f rfl) (fun hg => x_mv (v := I b) rfl) ?_
 refine g_val (!(decide ((n : Int) < a))) (gy_f rfl) (fun hg => x_cmp (kd := .i64) (r := decide ((b : Int) < n)) (gd_of hg (I n)) (gd_of hg (I b)) rfl) <| s_val (x_por (b := decide ((n : Int) < a)) (r := decide ((b : Int) < n)) rfl rfl (fun hb => gd_of (c := !(decide ((n : Int) < a))) (by simp_all) (B (decide ((b : Int) < n))))) <| sA (B (((decide ((n : Int) < a)) || (decide ((b : Int) < n))))) rfl <| s_nil ?_
 refine W.ret ?_
 exact ⟨_, resE_tmp rfl, rfl, E⟩

theorem has_any {vl : Value} {l : List Int} (n : Int) (w : World) (hl : Sl w.cell? vl l) : Ret Try.prog 95 #[vl, I n] w fun v w' => v = B (l.contains n) /\ Ext w w' := by
 refine ret_of_W Try.func95 rfl rfl rfl ?_
 have E := Ext.refl w
 have K1 := KF.refl 0 w
 have ac := hl.len_le
 have hl := hl.par
 refine sQ rfl <| sA (B false) rfl <| s_nil <| W.seq <| sQ rfl <| sA (I 0) rfl <| s_nil <| W.block ?_
 refine W.loop (fun m σ W => ∃ (k : Nat) (ρ : Env), σ = upds ρ [(0, vl), (1, I n), (5, I k)] /\ m = l.length - k /\ Ext w W /\ KF 0 w W /\ k <= l.length /\ (l.take k).contains n = false) ?_ ?_
 ·exact ⟨_, 0, _, upds_of _ _ ⟨rfl, rfl, (eqI (by omega)), trivial⟩, rfl, E, K1, Nat.zero_le _, rfl⟩
 rintro m σ w2 ⟨k, ρ, rfl, rfl, E, K1, ae, aa⟩
 refine W.seq <| sQ rfl <| sM (I k) rfl <| sM vl rfl <| s_val (x_lenS T34.und rfl (hl.to K1)) <| sC _ _ (decide ((k : Int) < l.length)) rfl rfl rfl <| s_nil ?_
 refine W.cond (decide ((k : Int) < l.length)) rfl (fun c3 => ?_) (fun c3 => ?_)
 ·simp only [qz1, qz2, qz3, qz4, qz5, qz6, ne_eq, qz7] at c3
  refine W.skip <| W.seq <| W.block <| sQ rfl <| sM vl rfl <| sM (I k) rfl <| s_val (x_ix (v := vat vl 1 (Int.toNat k)) rfl rfl (Sl.ix (α := Int) T34.und T34.size (hl.to K1) (by omega) (by omega))) <| s_val (x_ld (v := I (l.getD k 0)) rfl (ld_sc Sc3 (At.to (Int_at hl (i := k) (by omega) (by omega)) K1))) <| sM (I n) rfl <| sC _ _ ((l.getD k 0 : Int) == n) rfl rfl rfl <| s_nil ?_
  refine W.cond ((l.getD k 0 : Int) == n) rfl (fun c4 => ?_) (fun c4 => ?_)
  ·simp only [qz1, qz2, qz3, qz4, qz5, qz6, ne_eq, qz7] at c4
   refine sQ rfl <| sA (B true) rfl <| s_nil ?_
   refine W.ret ?_
   exact ⟨_, resE_tmp rfl, (eqB (has_yes c3 c4)), E⟩
  simp only [qz1, qz2, qz3, qz4, qz5, qz6, ne_eq, qz7] at c4
  refine W.skip <| W.region rfl <| sM (I k) rfl <| sR _ _ (k + 1) rfl rfl rfl (by omega) <| sA (I (k + 1)) rfl <| s_nil ?_
  exact ⟨_, (by omega), k+1, _, upds_of _ _ ⟨rfl, rfl, (eqI (by omega)), trivial⟩, rfl, E, K1, (by omega), (has_step c3 aa c4)⟩
 simp only [qz1, qz2, qz3, qz4, qz5, qz6, ne_eq, qz7] at c3
 refine W.exit ?_
 refine sQ rfl <| sA (B false) rfl <| s_nil ?_
 refine W.ret ?_
 exact ⟨_, resE_tmp rfl, (eqB (has_no c3 aa)), E⟩

theorem indexFunc_int {vl vf : Value} {l : List Int} {p : Int -> Bool} (w : World) (hl : Sl w.cell? vl l) (hf : FnB Try.prog w vf p (fun x => x ∈ l)) : Ret Try.prog 102 #[vl, vf] w fun v w' => v = I (idxP p l) /\ Ext w w' := by
 refine ret_of_W Try.func102 rfl rfl rfl ?_
 have E := Ext.refl w
 have K1 := KF.refl 0 w
 have ac := hl.len_le
 have hl := hl.par
 refine sQ rfl <| sA (I 0) rfl <| s_nil <| W.seq <| sQ rfl <| sM vl rfl <| s_val (x_lenS T34.und rfl (hl.to K1)) <| sM (I 0) rfl <| s_nil <| W.block ?_
 refine W.loop (fun m σ W => ∃ (k : Nat) (ρ : Env), σ = upds ρ [(0, vl), (1, vf), (7, I l.length), (8, I k)] /\ m = l.length - k /\ Ext w W /\ KF 0 w W /\ k <= l.length /\ (∀ y ∈ l.take k, p y = false)) ?_ ?_
 ·exact ⟨_, 0, _, upds_of _ _ ⟨rfl, rfl, rfl, (eqI (by omega)), trivial⟩, rfl, E, K1, Nat.zero_le _, (by simp)⟩
 rintro m σ w2 ⟨k, ρ, rfl, rfl, E, K1, ae, aa⟩
 refine sQ rfl <| sC _ _ (decide ((k : Int) < l.length)) rfl rfl rfl <| s_nil <| W.seq ?_
 refine W.cond (decide ((k : Int) < l.length)) rfl (fun c3 => ?_) (fun c3 => ?_)
 ·simp only [qz1, qz2, qz3, qz4, qz5, qz6, ne_eq, qz7] at c3
  refine W.skip <| W.seq <| W.block <| sQ rfl <| sM (I k) rfl <| sA (I k) rfl <| s_nil <| sQ rfl <| sM vf rfl <| sM vl rfl ?_
  refine sM (I k) rfl <| s_val (x_ix (v := vat vl 1 (Int.toNat k)) rfl rfl (Sl.ix (α := Int) T34.und T34.size (hl.to K1) (by omega) (by omega))) <| s_val (x_ld (v := I (l.getD k 0)) rfl (ld_sc Sc3 (At.to (Int_at hl (i := k) (by omega) (by omega)) K1))) ?_
  refine s_callB hf E rfl rfl (l.getD k 0) (getD_memN l (by omega) _) (Arg.mkI _ _) ?_
  intro w4 x5
  replace E := E.trans x5
  replace K1 := K1.ext x5
  clear x5
  refine s_nil ?_
  refine W.cond (p (l.getD k 0)) rfl (fun c6 => ?_) (fun c6 => ?_)
  ·skip
   refine sQ rfl <| sM (I k) rfl <| sA (I k) rfl <| s_nil ?_
   refine W.ret ?_
   exact ⟨_, resE_tmp rfl, (eqI (idx_yes c3 c6 aa)), E⟩
  skip
  refine W.skip <| W.region rfl <| sR _ _ (k + 1) rfl rfl rfl (by omega) <| sM (I (k + 1)) rfl <| s_nil ?_
  exact ⟨_, (by omega), k+1, _, upds_of _ _ ⟨rfl, rfl, rfl, (eqI (by omega)), trivial⟩, rfl, E, K1, (by omega), (idx_step c3 aa c6)⟩
 simp only [qz1, qz2, qz3, qz4, qz5, qz6, ne_eq, qz7] at c3
 refine W.exit ?_
 refine sQ rfl <| sA (I (-1)) rfl <| s_nil ?_
 refine W.ret ?_
 exact ⟨_, resE_tmp rfl, (eqI (idx_no c3 aa)), E⟩

theorem containsFunc_int {vl vf : Value} {l : List Int} {p : Int -> Bool} (w : World) (hl : Sl w.cell? vl l) (hf : FnB Try.prog w vf p (fun x => x ∈ l)) : Ret Try.prog 48 #[vl, vf] w fun v w' => v = B (l.any p) /\ Ext w w' := by
 refine ret_of_W Try.func48 rfl rfl rfl ?_
 have E := Ext.refl w
 have K1 := KF.refl 0 w
 have aa := hl.len_le
 have hl := hl.par
 refine sQ rfl <| sA (B false) rfl <| s_nil <| sQ rfl <| sM vl rfl <| sM vf rfl ?_
 refine s_call cf102 [vl, vf] rfl (indexFunc_int _ (hl.to K1) (hf.ext E)) ?_
 rintro _ w2 ⟨rfl, x3⟩
 replace E := E.trans x3
 replace K1 := K1.ext x3
 clear x3
 refine sC _ _ (decide ((0 : Int) <= (idxP p l))) rfl rfl rfl <| sA (B (decide ((0 : Int) <= (idxP p l)))) rfl <| s_nil ?_
 refine W.ret ?_
 exact ⟨_, resE_tmp rfl, (eqB (idxP_any _ _)), E⟩

theorem every1_int {b : Nat} {vf : Value} {p : Int -> Bool} {D : Int -> Prop} (x : Int) (w : World) (aa : w.heap[b]? = some (.cells #[vf] 75 (0, 0))) (hf : FnB Try.prog w vf p D) (hD : D x) : Ret Try.prog 143 #[I x, Pz b] w fun v w' => v = B (!(p x)) /\ Ext w w' := by
 refine ret_of_W Try.func143 rfl rfl rfl ?_
 have E := Ext.refl w
 have K1 := KF.refl 0 w
 refine sQ rfl <| sA (B false) rfl <| s_nil <| sQ rfl <| s_val (x_ld (v := vf) rfl (ldb_sc Sc75 aa rfl)) <| sM (I x) rfl ?_
 refine s_callB hf E rfl rfl x hD (Arg.mkI _ _) ?_
 intro w2 x3
 replace E := E.trans x3
 replace K1 := K1.ext x3
 replace aa := x3.get aa
 clear x3
 refine s_val (x_not (b := p x) rfl) <| sA (B (!(p x))) rfl <| s_nil ?_
 refine W.ret ?_
 exact ⟨_, resE_tmp rfl, rfl, E⟩

theorem every_int {vl vf : Value} {l : List Int} {p : Int -> Bool} (w : World) (hl : Sl w.cell? vl l) (hf : FnB Try.prog w vf p (fun x => x ∈ l)) : Ret Try.prog 87 #[vf, vl] w fun v w' => v = B (l.all p) /\ Ext w w' := by
 refine ret_of_W Try.func87 rfl rfl rfl ?_
 have E := Ext.refl w
 have K1 := KF.refl 0 w
 have ac := hl.len_le
 have hl := hl.par
 refine sQ rfl ?_
 refine s_box (v := vf) (cs := [vf]) rfl (FnB.cells hf) ?_
 intro b2 w3 Nb2
 have o_K1_b2 := Nat.le_trans K1.size Nb2.ge
 have o_b2 := Nat.le_trans E.size Nb2.ge
 replace E := E.trans Nb2.ext
 replace K1 := K1.ext Nb2.ext
 have aa := Nb2.same
 clear Nb2
 refine sA (B false) rfl <| s_nil <| sQ rfl <| sM vl rfl <| s_val (x_mf (fs := []) (cs := [Pz b2]) rfl rfl) ?_
 refine s_call cf48 [vl, .func (.func 143) #[] #[Pz b2]] rfl (containsFunc_int _ (hl.to K1) ⟨143, [Pz b2], rfl, cf143, fun w' v x hE hD hA => by obtain rfl := Arg.int hA; exact (every1_int _ _ (hE.get aa) ((hf.ext E).ext hE) hD)⟩) ?_
 rintro _ w4 ⟨rfl, x5⟩
 replace E := E.trans x5
 replace K1 := K1.ext x5
 replace aa := x5.get aa
 clear x5
 refine s_val (x_not (b := l.any (fun x => !(p x))) rfl) <| sA (B (!(l.any (fun x => !(p x))))) rfl <| s_nil ?_
 refine W.ret ?_
 exact ⟨_, resE_tmp rfl, (eqB (any_not _ _)), E⟩

theorem indexFunc_Work {vl vf : Value} {l : List Work} {p : Work -> Bool} (w : World) (hl : Sl w.cell? vl l) (hf : FnB Try.prog w vf p (fun x => x ∈ l)) : Ret Try.prog 200 #[vl, vf] w fun v w' => v = I (idxP p l) /\ Ext w w' := by
 refine ret_of_W Try.func200 rfl rfl rfl ?_
 have E := Ext.refl w
 have K1 := KF.refl 0 w
 have ae := hl.len_le
 have hl := hl.par
 refine sQ rfl <| sA (I 0) rfl <| s_nil <| W.seq <| sQ rfl <| sM vl rfl <| s_val (x_lenS T22.und rfl (hl.to K1)) <| sM (I 0) rfl <| s_nil <| W.block ?_
 refine W.loop (fun m σ W => ∃ (k : Nat) (ρ : Env), σ = upds ρ [(0, vl), (1, vf), (7, I l.length), (8, I k)] /\ m = l.length - k /\ Ext w W /\ KF 0 w W /\ k <= l.length /\ (∀ y ∈ l.take k, p y = false)) ?_ ?_
 ·exact ⟨_, 0, _, upds_of _ _ ⟨rfl, rfl, rfl, (eqI (by omega)), trivial⟩, rfl, E, K1, Nat.zero_le _, (by simp)⟩
 rintro m σ w2 ⟨k, ρ, rfl, rfl, E, K1, ag, ac⟩
 refine sQ rfl <| sC _ _ (decide ((k : Int) < l.length)) rfl rfl rfl <| s_nil <| W.seq ?_
 refine W.cond (decide ((k : Int) < l.length)) rfl (fun c3 => ?_) (fun c3 => ?_)
 ·simp only [qz1, qz2, qz3, qz4, qz5, qz6, ne_eq, qz7] at c3
  refine W.skip <| W.seq <| W.block <| sQ rfl <| sM (I k) rfl <| sA (I k) rfl <| s_nil <| sQ rfl <| sM vf rfl <| sM vl rfl ?_
  refine sM (I k) rfl <| s_val (x_ix (v := vat vl 3 (Int.toNat k)) rfl rfl (Sl.ix (α := Work) T22.und T22.size (hl.to K1) (by omega) (by omega))) ?_
  obtain ⟨u4, ha6, aa⟩ := Work_atA hl (i := k) (by omega) (by omega)
  replace aa : Sl _ u4 (l.getD k default).of := aa
  have ah := aa.len_le
  refine s_val (x_ld (v := .agg #[u4, I ((l.getD k default).base), I ((l.getD k default).minutes)]) rfl (ld_ag Ag60 Sz60 (At.to ha6 K1))) ?_
  refine s_callB hf E rfl rfl ((l.getD k default)) (getD_memN l (by omega) _) ⟨_, Work_mk (aa.to K1), rfl⟩ ?_
  intro w7 x8
  replace E := E.trans x8
  replace K1 := K1.ext x8
  clear x8
  refine s_nil ?_
  refine W.cond (p ((l.getD k default))) rfl (fun c9 => ?_) (fun c9 => ?_)
  ·skip
   refine sQ rfl <| sM (I k) rfl <| sA (I k) rfl <| s_nil ?_
   refine W.ret ?_
   exact ⟨_, resE_tmp rfl, (eqI (idx_yes c3 c9 ac)), E⟩
  skip
  refine W.skip <| W.region rfl <| sR _ _ (k + 1) rfl rfl rfl (by omega) <| sM (I (k + 1)) rfl <| s_nil ?_
  exact ⟨_, (by omega), k+1, _, upds_of _ _ ⟨rfl, rfl, rfl, (eqI (by omega)), trivial⟩, rfl, E, K1, (by omega), (idx_step c3 ac c9)⟩
 simp only [qz1, qz2, qz3, qz4, qz5, qz6, ne_eq, qz7] at c3
 refine W.exit ?_
 refine sQ rfl <| sA (I (-1)) rfl <| s_nil ?_
 refine W.ret ?_
 exact ⟨_, resE_tmp rfl, (eqI (idx_no c3 ac)), E⟩

theorem containsFunc_Work {vl vf : Value} {l : List Work} {p : Work -> Bool} (w : World) (hl : Sl w.cell? vl l) (hf : FnB Try.prog w vf p (fun x => x ∈ l)) : Ret Try.prog 186 #[vl, vf] w fun v w' => v = B (l.any p) /\ Ext w w' := by
 refine ret_of_W Try.func186 rfl rfl rfl ?_
 have E := Ext.refl w
 have K1 := KF.refl 0 w
 have aa := hl.len_le
 have hl := hl.par
 refine sQ rfl <| sA (B false) rfl <| s_nil <| sQ rfl <| sM vl rfl <| sM vf rfl ?_
 refine s_call cf200 [vl, vf] rfl (indexFunc_Work _ (hl.to K1) (hf.ext E)) ?_
 rintro _ w2 ⟨rfl, x3⟩
 replace E := E.trans x3
 replace K1 := K1.ext x3
 clear x3
 refine sC _ _ (decide ((0 : Int) <= (idxP p l))) rfl rfl rfl <| sA (B (decide ((0 : Int) <= (idxP p l)))) rfl <| s_nil ?_
 refine W.ret ?_
 exact ⟨_, resE_tmp rfl, (eqB (idxP_any _ _)), E⟩

theorem every1_Work {b : Nat} {vf : Value} {p : Work -> Bool} {D : Work -> Prop} {sv : Value} (x : Work) (w : World) (aa : w.heap[b]? = some (.cells #[vf] 218 (0, 0))) (hf : FnB Try.prog w vf p D) (hs : Sl w.cell? sv x.of) (hD : D x) : Ret Try.prog 187 #[.agg #[sv, I x.base, I x.minutes], Pz b] w fun v w' => v = B (!(p x)) /\ Ext w w' := by
 refine ret_of_W Try.func187 rfl rfl rfl ?_
 have E := Ext.refl w
 have K1 := KF.refl 0 w
 have ae := hs.len_le
 have hs := hs.par
 refine sQ rfl ?_
 refine s_box (v := .agg #[sv, I x.base, I x.minutes]) (cs := [sv, I x.base, I x.minutes]) rfl rfl ?_
 intro b2 w3 Nb2
 have o_K1_b2 := Nat.le_trans K1.size Nb2.ge
 have o_b2 := Nat.le_trans E.size Nb2.ge
 have o_b_b2 := Nat.lt_of_lt_of_le (heap_lt aa) Nb2.ge
 replace E := E.trans Nb2.ext
 replace K1 := K1.ext Nb2.ext
 replace aa := Nb2.ext.get aa
 have ac := Nb2.same
 clear Nb2
 refine sA (B false) rfl <| s_nil <| sQ rfl <| s_val (x_ld (v := vf) rfl (ldb_sc Sc218 aa rfl)) <| s_val (x_ld (v := .agg #[sv, I x.base, I x.minutes]) rfl (ldb_ag (ds := [sv, I x.base, I x.minutes]) Ag60 Sz60 ac rfl rfl)) ?_
 refine s_callB hf E rfl rfl x hD ⟨_, Work_mk (hs.to K1), rfl⟩ ?_
 intro w4 x5
 replace E := E.trans x5
 replace K1 := K1.ext x5
 replace aa := x5.get aa
 replace ac := x5.get ac
 clear x5
 refine s_val (x_not (b := p x) rfl) <| sA (B (!(p x))) rfl <| s_nil ?_
 refine W.ret ?_
 exact ⟨_, resE_tmp rfl, rfl, E⟩

theorem every_Work {vl vf : Value} {l : List Work} {p : Work -> Bool} (w : World) (hl : Sl w.cell? vl l) (hf : FnB Try.prog w vf p (fun x => x ∈ l)) : Ret Try.prog 161 #[vf, vl] w fun v w' => v = B (l.all p) /\ Ext w w' := by
 refine ret_of_W Try.func161 rfl rfl rfl ?_
 have E := Ext.refl w
 have K1 := KF.refl 0 w
 have ac := hl.len_le
 have hl := hl.par
 refine sQ rfl ?_
 refine s_box (v := vf) (cs := [vf]) rfl (FnB.cells hf) ?_
 intro b2 w3 Nb2
 have o_K1_b2 := Nat.le_trans K1.size Nb2.ge
 have o_b2 := Nat.le_trans E.size Nb2.ge
 replace E := E.trans Nb2.ext
 replace K1 := K1.ext Nb2.ext
 have aa := Nb2.same
 clear Nb2
 refine sA (B false) rfl <| s_nil <| sQ rfl <| sM vl rfl <| s_val (x_mf (fs := []) (cs := [Pz b2]) rfl rfl) ?_
 refine s_call cf186 [vl, .func (.func 187) #[] #[Pz b2]] rfl (containsFunc_Work _ (hl.to K1) ⟨187, [Pz b2], rfl, cf187, fun w' v x hE hD hA => by obtain ⟨sv, rfl, hs⟩ := Work_arg hA; exact (every1_Work _ _ (hE.get aa) ((hf.ext E).ext hE) hs hD)⟩) ?_
 rintro _ w4 ⟨rfl, x5⟩
 replace E := E.trans x5
 replace K1 := K1.ext x5
 replace aa := x5.get aa
 clear x5
 refine s_val (x_not (b := l.any (fun x => !(p x))) rfl) <| sA (B (!(l.any (fun x => !(p x))))) rfl <| s_nil ?_
 refine W.ret ?_
 exact ⟨_, resE_tmp rfl, (eqB (any_not _ _)), E⟩

end Go.Proofs.Ytndobgodeicloaa
end
section
set_option maxRecDepth 100000
set_option maxHeartbeats 16000000
namespace Go.Proofs.Ytndobgodeicloaa
open Go Go.Nm
theorem index_int {vl : Value} {l : List Int} (n : Int) (w : World) (hl : Sl w.cell? vl l) : Ret Try.prog 100 #[vl, I n] w fun v w' => v = I (idxI l n) /\ Ext w w' := by
 refine ret_of_W Try.func100 rfl rfl rfl ?_
 have E := Ext.refl w
 have K1 := KF.refl 0 w
 have ac := hl.len_le
 have hl := hl.par
 refine sQ rfl <| sA (I 0) rfl <| s_nil <| W.seq <| sQ rfl <| sM vl rfl <| s_val (x_lenS T34.und rfl (hl.to K1)) <| sM (I 0) rfl <| s_nil <| W.block ?_
 refine W.loop (fun m σ W => ∃ (k : Nat) (ρ : Env), σ = upds ρ [(0, vl), (1, I n), (7, I l.length), (8, I k)] /\ m = l.length - k /\ Ext w W /\ KF 0 w W /\ k <= l.length /\ (∀ y ∈ l.take k, (fun x : Int => n == x) y = false)) ?_ ?_
 ·exact ⟨_, 0, _, upds_of _ _ ⟨rfl, rfl, rfl, (eqI (by omega)), trivial⟩, rfl, E, K1, Nat.zero_le _, (by simp)⟩
 rintro m σ w2 ⟨k, ρ, rfl, rfl, E, K1, ae, aa⟩
 refine sQ rfl <| sC _ _ (decide ((k : Int) < l.length)) rfl rfl rfl <| s_nil <| W.seq ?_
 refine W.cond (decide ((k : Int) < l.length)) rfl (fun c3 => ?_) (fun c3 => ?_)
 ·simp only [qz1, qz2, qz3, qz4, qz5, qz6, ne_eq, qz7] at c3
  refine W.skip <| W.seq <| W.block <| sQ rfl <| sM (I k) rfl <| sA (I k) rfl <| s_nil <| sQ rfl <| sM (I n) rfl <| sM vl rfl ?_
  refine sM (I k) rfl <| s_val (x_ix (v := vat vl 1 (Int.toNat k)) rfl rfl (Sl.ix (α := Int) T34.und T34.size (hl.to K1) (by omega) (by omega))) <| s_val (x_ld (v := I (l.getD k 0)) rfl (ld_sc Sc3 (At.to (Int_at hl (i := k) (by omega) (by omega)) K1))) <| sC _ _ ((n : Int) == (l.getD k 0)) rfl rfl rfl <| s_nil ?_
  refine W.cond ((n : Int) == (l.getD k 0)) rfl (fun c4 => ?_) (fun c4 => ?_)
  ·simp only [qz1, qz2, qz3, qz4, qz5, qz6, ne_eq, qz7] at c4
   refine sQ rfl <| sM (I k) rfl <| sA (I k) rfl <| s_nil ?_
   refine W.ret ?_
   exact ⟨_, resE_tmp rfl, (eqI (idx_yes (p := fun x : Int => n == x) (d := 0) c3 (by simpa using c4) aa)), E⟩
  simp only [qz1, qz2, qz3, qz4, qz5, qz6, ne_eq, qz7] at c4
  refine W.skip <| W.region rfl <| sR _ _ (k + 1) rfl rfl rfl (by omega) <| sM (I (k + 1)) rfl <| s_nil ?_
  exact ⟨_, (by omega), k+1, _, upds_of _ _ ⟨rfl, rfl, rfl, (eqI (by omega)), trivial⟩, rfl, E, K1, (by omega), (idx_step (p := fun x : Int => n == x) (d := 0) c3 aa (by simpa using c4))⟩
 simp only [qz1, qz2, qz3, qz4, qz5, qz6, ne_eq, qz7] at c3
 refine W.exit ?_
 refine sQ rfl <| sA (I (-1)) rfl <| s_nil ?_
 refine W.ret ?_
 exact ⟨_, resE_tmp rfl, (eqI (idx_no (p := fun x : Int => n == x) c3 aa)), E⟩

theorem contains_int {vl : Value} {l : List Int} (n : Int) (w : World) (hl : Sl w.cell? vl l) : Ret Try.prog 45 #[vl, I n] w fun v w' => v = B (l.contains n) /\ Ext w w' := by
 refine ret_of_W Try.func45 rfl rfl rfl ?_
 have E := Ext.refl w
 have K1 := KF.refl 0 w
 have aa := hl.len_le
 have hl := hl.par
 refine sQ rfl <| sA (B false) rfl <| s_nil <| sQ rfl <| sM vl rfl <| sM (I n) rfl ?_
 refine s_call cf100 [vl, I n] rfl (index_int n _ (hl.to K1)) ?_
 rintro _ w2 ⟨rfl, x3⟩
 replace E := E.trans x3
 replace K1 := K1.ext x3
 clear x3
 refine sC _ _ (decide ((0 : Int) <= (idxI l n))) rfl rfl rfl <| sA (B (decide ((0 : Int) <= (idxI l n)))) rfl <| s_nil ?_
 refine W.ret ?_
 exact ⟨_, resE_tmp rfl, (eqB (idxI_any _ _)), E⟩

theorem right1 {sv : Value} (x : Work) (w : World) (hs : Sl w.cell? sv x.of) : Ret Try.prog 162 #[.agg #[sv, I x.base, I x.minutes]] w fun v w' => v = B (decide ((x.of.length : Int) <= 5)) /\ Ext w w' := by
 refine ret_of_W Try.func162 rfl rfl rfl ?_
 have E := Ext.refl w
 have K1 := KF.refl 0 w
 have ac := hs.len_le
 have hs := hs.par
 refine sQ rfl ?_
 refine s_box (v := .agg #[sv, I x.base, I x.minutes]) (cs := [sv, I x.base, I x.minutes]) rfl rfl ?_
 intro b2 w3 Nb2
 have o_K1_b2 := Nat.le_trans K1.size Nb2.ge
 have o_b2 := Nat.le_trans E.size Nb2.ge
 replace E := E.trans Nb2.ext
 replace K1 := K1.ext Nb2.ext
 have aa := Nb2.same
 clear Nb2
 refine sA (B false) rfl <| s_nil <| sQ rfl <| s_val (x_fa (v := Pz b2) rfl (fa_blk (o := 0) Fd60_0 Sz34)) <| s_val (x_ld (v := sv) rfl (ldb_sc Sc34 aa rfl)) <| s_val (x_lenS T34.und rfl (hs.to K1)) <| sC _ _ (decide ((x.of.length : Int) <= 5)) rfl rfl rfl <| sA (B (decide ((x.of.length : Int) <= 5))) rfl <| s_nil ?_
 refine W.ret ?_
 exact ⟨_, resE_tmp rfl, rfl, E⟩

theorem right2 {b1 b2 : Nat} {vw : Value} {ws : List Work} (i x : Int) (w : World) (aa : w.heap[b1]? = some (.cells #[vw] 22 (0, 0))) (ac : w.heap[b2]? = some (.cells #[I i] 3 (0, 0))) (hw : Sl w.cell? vw ws) : Ret Try.prog 163 #[I x, Pz b1, Pz b2] w fun v w' => v = B (inB x 0 ((ws.length : Int) - 1) && (x != i)) /\ Ext w w' := by
 refine ret_of_W Try.func163 rfl rfl rfl ?_
 have E := Ext.refl w
 have K1 := KF.refl 0 w
 have ae := hw.len_le
 have hw := hw.par
 refine sQ rfl <| sA (B false) rfl <| s_nil <| sQ rfl <| sM (I x) rfl <| s_val (x_ld (v := vw) rfl (ldb_sc Sc22 aa rfl)) <| s_val (x_lenS T22.und rfl (hw.to K1)) <| sR _ _ (ws.length - 1) rfl rfl rfl (by omega) ?_
 refine s_call cf84 [I x, I 0, I (ws.length - 1)] rfl (in_any _ _ _ _) ?_
 rintro _ w2 ⟨rfl, x3⟩
 replace E := E.trans x3
 replace K1 := K1.ext x3
 replace aa := x3.get aa
 replace ac := x3.get ac
 clear x3
 refine sM (B (inB x 0 (ws.length - 1))) rfl <| g_val (inB x 0 (ws.length - 1)) (gy_t rfl) (fun hg => x_mv (v := I x) rfl) <| g_val (inB x 0 (ws.length - 1)) (gy_t rfl) (fun hg => x_ld (v := I i) rfl (ldb_sc Sc3 ac rfl)) <| g_val (inB x 0 (ws.length - 1)) (gy_t rfl) (fun hg => x_cmp (kd := .i64) (r := (x : Int) != i) (gd_of hg (I x)) (gd_of hg (I i)) rfl) <| s_val (x_pand (b := inB x 0 (ws.length - 1)) (r := (x : Int) != i) rfl (fun hb => gd_of (c := inB x 0 (ws.length - 1)) (by simp_all) (B ((x : Int) != i))) rfl) <| sA (B (((inB x 0 (ws.length - 1)) && ((x : Int) != i)))) rfl <| s_nil ?_
 refine W.ret ?_
 exact ⟨_, resE_tmp rfl, rfl, E⟩

theorem right_any {vw : Value} {ws : List Work} (w : World) (hw : Sl w.cell? vw ws) : Ret Try.prog 130 #[vw] w fun v w' => v = I (rightE ws) /\ Ext w w' := by
 refine ret_of_W Try.func130 rfl rfl rfl ?_
 have E := Ext.refl w
 have K1 := KF.refl 0 w
 have aF := hw.len_le
 have hw := hw.par
 refine sQ rfl ?_
 refine s_box (v := vw) (cs := [vw]) rfl (Sl.cells (hw.to K1)) ?_
 intro b2 w3 Nb2
 have o_K1_b2 := Nat.le_trans K1.size Nb2.ge
 have o_b2 := Nat.le_trans E.size Nb2.ge
 replace E := E.trans Nb2.ext
 replace K1 := K1.ext Nb2.ext
 have aa := Nb2.same
 clear Nb2
 refine sA (I 0) rfl <| s_nil <| W.seq <| sQ rfl <| s_val (x_ld (v := vw) rfl (ldb_sc Sc22 aa rfl)) <| s_val (x_lenS T22.und rfl (hw.to K1)) ?_
 refine s_call cf84 [I ws.length, I 1, I 30] rfl (in_any _ _ _ _) ?_
 rintro _ w4 ⟨rfl, x5⟩
 replace E := E.trans x5
 replace K1 := K1.ext x5
 replace aa := x5.get aa
 clear x5
 refine s_val (x_not (b := inB ws.length 1 30) rfl) <| sM (B (!(inB ws.length 1 30))) rfl <| g_val (!(!(inB ws.length 1 30))) (gy_f rfl) (fun hg => x_ld (v := vw) rfl (ldb_sc Sc22 aa rfl)) ?_
 refine g_call (!(!(inB ws.length 1 30))) (gy_f rfl) cf161 (B (ws.all (fun x : Work => decide ((x.of.length : Int) <= 5)))) (fun _ => [.func (.func 162) #[] #[], vw]) (fun hg => lst2 rfl (gd_of hg (vw))) (fun hg => (every_Work _ (hw.to K1) ⟨162, [], rfl, cf162, fun w' v x hE hD hA => by obtain ⟨sv, rfl, hs⟩ := Work_arg hA; exact (right1 _ _ hs)⟩)) ?_
 intro w6 x7
 replace E := E.trans x7
 replace K1 := K1.ext x7
 replace aa := x7.get aa
 clear x7
 refine g_val (!(!(inB ws.length 1 30))) (gy_f rfl) (fun hg => x_not (b := ws.all (fun x : Work => decide ((x.of.length : Int) <= 5))) (gd_of hg (B (ws.all (fun x : Work => decide ((x.of.length : Int) <= 5)))))) <| s_val (x_por (b := !(inB ws.length 1 30)) (r := !(ws.all (fun x : Work => decide ((x.of.length : Int) <= 5)))) rfl rfl (fun hb => gd_of (c := !(!(inB ws.length 1 30))) (by simp_all) (B (!(ws.all (fun x : Work => decide ((x.of.length : Int) <= 5))))))) <| s_nil ?_
 refine W.cond (((!(inB ws.length 1 30)) || (!(ws.all (fun x : Work => decide ((x.of.length : Int) <= 5)))))) rfl (fun c8 => ?_) (fun c8 => ?_)
 ·skip
  refine sQ rfl <| sA (I 3) rfl <| s_nil ?_
  refine W.ret ?_
  exact ⟨_, resE_tmp rfl, (eqI (right_many c8)), E⟩
 skip
 refine W.skip <| sQ rfl <| sA (B false) rfl <| s_nil <| W.seq <| sQ rfl <| s_val (x_ld (v := vw) rfl (ldb_sc Sc22 aa rfl)) <| s_val (x_lenS T22.und rfl (hw.to K1)) <| sM (I 0) rfl <| s_nil ?_
 refine W.block ?_
 refine W.loop (fun m σ W => ∃ (i : Nat) (ρ : Env), σ = upds ρ [(1, Pz b2), (3, B ((ws.take i).any (fun x => dupL x.of))), (17, vw), (18, I ws.length), (19, I i)] /\ m = ws.length - i /\ Ext w W /\ KF 0 w W /\ W.heap[b2]? = some (.cells #[vw] 22 (0, 0)) /\ i <= ws.length /\ (List.range i).any (badAt ws) = false) ?_ ?_
 ·exact ⟨_, 0, _, upds_of _ _ ⟨rfl, (eqB (by first | rfl | simp)), rfl, rfl, (eqI (by omega)), trivial⟩, rfl, E, K1, aa, Nat.zero_le _, rfl⟩
 rintro m σ w9 ⟨i, ρ, rfl, rfl, E, K1, aa, aB, ax⟩
 refine sQ rfl <| sC _ _ (decide ((i : Int) < ws.length)) rfl rfl rfl <| s_nil <| W.seq ?_
 refine W.cond (decide ((i : Int) < ws.length)) rfl (fun aj => ?_) (fun aj => ?_)
 ·simp only [qz1, qz2, qz3, qz4, qz5, qz6, ne_eq, qz7] at aj
  refine W.skip <| W.seq <| W.block <| sQ rfl <| sM (I i) rfl <| s_val (x_ix (v := vat vw 3 (Int.toNat i)) rfl rfl (Sl.ix (α := Work) T22.und T22.size (hw.to K1) (by omega) (by omega))) ?_
  obtain ⟨ag, aC, ai⟩ := Work_atA hw (i := i) (by omega) (by omega)
  replace ai : Sl _ ag (ws.getD i default).of := ai
  have aG := ai.len_le
  refine s_val (x_ld (v := .agg #[ag, I ((ws.getD i default).base), I ((ws.getD i default).minutes)]) rfl (ld_ag Ag60 Sz60 (At.to aC K1))) ?_
  refine s_alloc (cs := [I 0]) Al3 rfl ?_
  intro ak aH Nb14
  have o_K1_b14 := Nat.le_trans K1.size Nb14.ge
  have o_b14 := Nat.le_trans E.size Nb14.ge
  have o_b2_b14 := Nat.lt_of_lt_of_le (heap_lt aa) Nb14.ge
  replace E := E.trans Nb14.ext
  replace K1 := K1.ext Nb14.ext
  replace aa := Nb14.ext.get aa
  have ae := Nb14.same
  clear Nb14
  refine s_alloc (cs := [.slice none 0 0, I 0, I 0]) Al60 rfl ?_
  intro ah aI Nb16
  have o_K1_b16 := Nat.le_trans K1.size Nb16.ge
  have o_b16 := Nat.le_trans E.size Nb16.ge
  have o_b2_b16 := Nat.lt_of_lt_of_le (heap_lt aa) Nb16.ge
  have o_b14_b16 := Nat.lt_of_lt_of_le (heap_lt ae) Nb16.ge
  replace E := E.trans Nb16.ext
  replace K1 := K1.ext Nb16.ext
  replace aa := Nb16.ext.get aa
  replace ae := Nb16.ext.get ae
  have ac := Nb16.same
  clear Nb16
  refine s_st (b := ak) (off := 0) (vs := [I i]) (cs' := [I i]) (v := I i) rfl rfl Sz3 ae rfl rfl rfl rfl rfl ?_
  intro aJ al
  replace E := E.put (by omega) al
  replace K1 := K1.put al (by omega)
  replace aa := al.get (by omega) aa
  replace ac := al.get (by omega) ac
  replace ae := al.same
  clear al
  refine s_st (b := ah) (off := 0) (vs := [ag, I ((ws.getD i default).base), I ((ws.getD i default).minutes)]) (cs' := [ag, I ((ws.getD i default).base), I ((ws.getD i default).minutes)]) (v := .agg #[ag, I ((ws.getD i default).base), I ((ws.getD i default).minutes)]) rfl rfl Sz60 ac rfl rfl rfl (by simp only [List.all_cons, List.all_nil, Bool.true_and, Bool.and_true, Sl.oc (ai.to K1)]; try rfl) rfl ?_
  intro aK am
  replace E := E.put (by omega) am
  replace K1 := K1.put am (by omega)
  replace aa := am.get (by omega) aa
  replace ae := am.get (by omega) ae
  replace ac := am.same
  clear am
  refine s_nil <| W.seq <| sQ rfl <| s_val (x_fa (v := Oz ah 1) rfl (fa_blk (o := 0) Fd60_1 Sz3)) <| s_val (x_ld (v := I ((ws.getD i default).base)) rfl (ldb_sc Sc3 ac rfl)) ?_
  refine s_call cf84 [I ((ws.getD i default).base), I 0, I 1000002] rfl (in_any _ _ _ _) ?_
  rintro _ aL ⟨rfl, ao⟩
  replace E := E.trans ao
  replace K1 := K1.ext ao
  replace aa := ao.get aa
  replace ae := ao.get ae
  replace ac := ao.get ac
  clear ao
  refine s_val (x_not (b := inB ((ws.getD i default).base) 0 1000002) rfl) <| sM (B (!(inB ((ws.getD i default).base) 0 1000002))) rfl <| g_val (!(!(inB ((ws.getD i default).base) 0 1000002))) (gy_f rfl) (fun hg => x_fa (v := Oz ah 2) rfl (fa_blk (o := 0) Fd60_2 Sz3)) <| g_val (!(!(inB ((ws.getD i default).base) 0 1000002))) (gy_f rfl) (fun hg => x_ld (v := I ((ws.getD i default).minutes)) (gd_of hg (Oz ah 2)) (ldb_sc Sc3 ac rfl)) ?_
  refine g_call (!(!(inB ((ws.getD i default).base) 0 1000002))) (gy_f rfl) cf84 (B (inB ((ws.getD i default).minutes) 0 10000)) (fun _ => [I ((ws.getD i default).minutes), I 0, I 10000]) (fun hg => lst3 (gd_of hg (I ((ws.getD i default).minutes))) rfl rfl) (fun hg => (in_any _ _ _ _)) ?_
  intro aM ap
  replace E := E.trans ap
  replace K1 := K1.ext ap
  replace aa := ap.get aa
  replace ae := ap.get ae
  replace ac := ap.get ac
  clear ap
  refine g_val (!(!(inB ((ws.getD i default).base) 0 1000002))) (gy_f rfl) (fun hg => x_not (b := inB ((ws.getD i default).minutes) 0 10000) (gd_of hg (B (inB ((ws.getD i default).minutes) 0 10000)))) <| s_val (x_por (b := !(inB ((ws.getD i default).base) 0 1000002)) (r := !(inB ((ws.getD i default).minutes) 0 10000)) rfl rfl (fun hb => gd_of (c := !(!(inB ((ws.getD i default).base) 0 1000002))) (by simp_all) (B (!(inB ((ws.getD i default).minutes) 0 10000))))) <| sM (B (((!(inB ((ws.getD i default).base) 0 1000002)) || (!(inB ((ws.getD i default).minutes) 0 10000))))) rfl <| g_val (!(((!(inB ((ws.getD i default).base) 0 1000002)) || (!(inB ((ws.getD i default).minutes) 0 10000))))) (gy_f rfl) (fun hg => x_mf (fs := []) (cs := [Pz b2, Pz ak]) rfl rfl) <| g_val (!(((!(inB ((ws.getD i default).base) 0 1000002)) || (!(inB ((ws.getD i default).minutes) 0 10000))))) (gy_f rfl) (fun hg => x_fa (v := Pz ah) rfl (fa_blk (o := 0) Fd60_0 Sz34)) <| g_val (!(((!(inB ((ws.getD i default).base) 0 1000002)) || (!(inB ((ws.getD i default).minutes) 0 10000))))) (gy_f rfl) (fun hg => x_ld (v := ag) (gd_of hg (Pz ah)) (ldb_sc Sc34 ac rfl)) ?_
  refine g_call (!(((!(inB ((ws.getD i default).base) 0 1000002)) || (!(inB ((ws.getD i default).minutes) 0 10000))))) (gy_f rfl) cf87 (B (((ws.getD i default).of).all (fun x : Int => inB x 0 ((ws.length : Int) - 1) && (x != i)))) (fun _ => [.func (.func 163) #[] #[Pz b2, Pz ak], ag]) (fun hg => lst2 (gd_of hg (.func (.func 163) #[] #[Pz b2, Pz ak])) (gd_of hg (ag))) (fun hg => (every_int _ (ai.to K1) ⟨163, [Pz b2, Pz ak], rfl, cf163, fun w' v x hE hD hA => by obtain rfl := Arg.int hA; exact (right2 _ _ _ (hE.get aa) (hE.get ae) ((hw.to K1).mono hE.le))⟩)) ?_
  intro aN aq
  replace E := E.trans aq
  replace K1 := K1.ext aq
  replace aa := aq.get aa
  replace ae := aq.get ae
  replace ac := aq.get ac
  clear aq
  refine g_val (!(((!(inB ((ws.getD i default).base) 0 1000002)) || (!(inB ((ws.getD i default).minutes) 0 10000))))) (gy_f rfl) (fun hg => x_not (b := ((ws.getD i default).of).all (fun x : Int => inB x 0 ((ws.length : Int) - 1) && (x != i))) (gd_of hg (B (((ws.getD i default).of).all (fun x : Int => inB x 0 ((ws.length : Int) - 1) && (x != i)))))) <| s_val (x_por (b := ((!(inB ((ws.getD i default).base) 0 1000002)) || (!(inB ((ws.getD i default).minutes) 0 10000)))) (r := !(((ws.getD i default).of).all (fun x : Int => inB x 0 ((ws.length : Int) - 1) && (x != i)))) rfl rfl (fun hb => gd_of (c := !(((!(inB ((ws.getD i default).base) 0 1000002)) || (!(inB ((ws.getD i default).minutes) 0 10000))))) (by simp_all) (B (!(((ws.getD i default).of).all (fun x : Int => inB x 0 ((ws.length : Int) - 1) && (x != i))))))) <| s_nil ?_
  refine W.cond (((((!(inB ((ws.getD i default).base) 0 1000002)) || (!(inB ((ws.getD i default).minutes) 0 10000)))) || (!(((ws.getD i default).of).all (fun x : Int => inB x 0 ((ws.length : Int) - 1) && (x != i)))))) rfl (fun ay => ?_) (fun ay => ?_)
  ·skip
   refine sQ rfl <| sA (I 140) rfl <| s_nil ?_
   refine W.ret ?_
   exact ⟨_, resE_tmp rfl, (eqI (right_bad c8 aj ay)), E⟩
  skip
  refine W.skip <| sQ rfl <| s_val (x_fa (v := Pz ah) rfl (fa_blk (o := 0) Fd60_0 Sz34)) <| s_val (x_ld (v := ag) rfl (ldb_sc Sc34 ac rfl)) <| s_val (x_lenS T34.und rfl (ai.to K1)) <| sM (I 0) rfl <| s_nil <| W.block ?_
  refine W.loop (fun m σ W => ∃ (j : Nat) (ρ : Env), σ = upds ρ [(1, Pz b2), (3, B ((ws.take i).any (fun x => dupL x.of) || (List.range j).any (dupAt (ws.getD i default).of))), (5, Pz ah), (17, vw), (18, I ws.length), (19, I i), (29, gd (!(!(inB ((ws.getD i default).base) 0 1000002))) (Oz ah 2)), (30, gd (!(!(inB ((ws.getD i default).base) 0 1000002))) (I ((ws.getD i default).minutes))), (31, gd (!(!(inB ((ws.getD i default).base) 0 1000002))) (B (inB ((ws.getD i default).minutes) 0 10000))), (32, gd (!(!(inB ((ws.getD i default).base) 0 1000002))) (B (!(inB ((ws.getD i default).minutes) 0 10000)))), (35, gd (!(((!(inB ((ws.getD i default).base) 0 1000002)) || (!(inB ((ws.getD i default).minutes) 0 10000))))) (.func (.func 163) #[] #[Pz b2, Pz ak])), (36, gd (!(((!(inB ((ws.getD i default).base) 0 1000002)) || (!(inB ((ws.getD i default).minutes) 0 10000))))) (Pz ah)), (37, gd (!(((!(inB ((ws.getD i default).base) 0 1000002)) || (!(inB ((ws.getD i default).minutes) 0 10000))))) ag), (38, gd (!(((!(inB ((ws.getD i default).base) 0 1000002)) || (!(inB ((ws.getD i default).minutes) 0 10000))))) (B (((ws.getD i default).of).all (fun x : Int => inB x 0 ((ws.length : Int) - 1) && (x != i))))), (39, gd (!(((!(inB ((ws.getD i default).base) 0 1000002)) || (!(inB ((ws.getD i default).minutes) 0 10000))))) (B (!(((ws.getD i default).of).all (fun x : Int => inB x 0 ((ws.length : Int) - 1) && (x != i)))))), (42, ag), (43, I (((ws.getD i default).of).length)), (44, I j)] /\ m = (ws.getD i default).of.length - j /\ Ext w W /\ KF 0 w W /\ W.heap[b2]? = some (.cells #[vw] 22 (0, 0)) /\ W.heap[ak]? = some (.cells #[I i] 3 (0, 0)) /\ W.heap[ah]? = some (.cells #[ag, I ((ws.getD i default).base), I ((ws.getD i default).minutes)] 60 (0, 0)) /\ j <= (ws.getD i default).of.length) ?_ ?_
  ·exact ⟨_, 0, _, upds_of _ _ ⟨rfl, (eqB (by first | rfl | simp)), rfl, rfl, rfl, rfl, rfl, rfl, rfl, rfl, rfl, rfl, rfl, rfl, rfl, rfl, rfl, (eqI (by omega)), trivial⟩, rfl, E, K1, aa, ae, ac, Nat.zero_le _⟩
  rintro m σ aO ⟨j, ρ, rfl, rfl, E, K1, aa, ae, ac, aD⟩
  refine sQ rfl <| sC _ _ (decide ((j : Int) < (((ws.getD i default).of).length))) rfl rfl rfl <| s_nil <| W.seq ?_
  refine W.cond (decide ((j : Int) < (((ws.getD i default).of).length))) rfl (fun av => ?_) (fun av => ?_)
  ·simp only [qz1, qz2, qz3, qz4, qz5, qz6, ne_eq, qz7] at av
   refine W.skip <| W.seq <| W.block <| sQ rfl <| sM (I j) rfl <| s_val (x_ix (v := vat ag 1 (Int.toNat j)) rfl rfl (Sl.ix (α := Int) T34.und T34.size (ai.to K1) (by omega) (by omega))) <| s_val (x_ld (v := I (((ws.getD i default).of).getD j 0)) rfl (ld_sc Sc3 (At.to (Int_at ai (i := j) (by omega) (by omega)) K1))) <| sA (I j) rfl <| sA (I (((ws.getD i default).of).getD j 0)) rfl <| s_nil <| W.region rfl ?_
   refine sM (B ((ws.take i).any (fun x => dupL x.of) || (List.range j).any (dupAt (ws.getD i default).of))) rfl <| sM (B ((ws.take i).any (fun x => dupL x.of) || (List.range j).any (dupAt (ws.getD i default).of))) rfl <| g_val (!((ws.take i).any (fun x => dupL x.of) || (List.range j).any (dupAt (ws.getD i default).of))) (gy_f rfl) (fun hg => x_fa (v := Pz ah) rfl (fa_blk (o := 0) Fd60_0 Sz34)) <| g_val (!((ws.take i).any (fun x => dupL x.of) || (List.range j).any (dupAt (ws.getD i default).of))) (gy_f rfl) (fun hg => x_ld (v := ag) (gd_of hg (Pz ah)) (ldb_sc Sc34 ac rfl)) <| g_val (!((ws.take i).any (fun x => dupL x.of) || (List.range j).any (dupAt (ws.getD i default).of))) (gy_f rfl) (fun hg => x_mv (v := I j) rfl) ?_
   obtain ⟨aw, aE, az⟩ := sl_hi T34.und T34.size ai (j := j) (by omega) (by omega)
   replace az : Sl _ aw (((ws.getD i default).of).take j) := az
   refine g_val (!((ws.take i).any (fun x => dupL x.of) || (List.range j).any (dupAt (ws.getD i default).of))) (gy_f rfl) (fun hg => x_sl (v := ag) (u := aw) (lo' := none) (hi' := some (I j)) (mx' := none) (gd_of hg (ag)) rfl (congrArg some (gd_of hg (I j))) rfl (aE _)) <| g_val (!((ws.take i).any (fun x => dupL x.of) || (List.range j).any (dupAt (ws.getD i default).of))) (gy_f rfl) (fun hg => x_mv (v := I (((ws.getD i default).of).getD j 0)) rfl) ?_
   refine g_call (!((ws.take i).any (fun x => dupL x.of) || (List.range j).any (dupAt (ws.getD i default).of))) (gy_f rfl) cf45 (B ((((ws.getD i default).of).take j).contains (((ws.getD i default).of).getD j 0))) (fun _ => [aw, I (((ws.getD i default).of).getD j 0)]) (fun hg => lst2 (gd_of hg (aw)) (gd_of hg (I (((ws.getD i default).of).getD j 0)))) (fun hg => (contains_int (((ws.getD i default).of).getD j 0) _ (az.to K1))) ?_
   intro aP au
   replace E := E.trans au
   replace K1 := K1.ext au
   replace aa := au.get aa
   replace ae := au.get ae
   replace ac := au.get ac
   clear au
   refine s_val (x_por (b := (ws.take i).any (fun x => dupL x.of) || (List.range j).any (dupAt (ws.getD i default).of)) (r := (((ws.getD i default).of).take j).contains (((ws.getD i default).of).getD j 0)) rfl rfl (fun hb => gd_of (c := !((ws.take i).any (fun x => dupL x.of) || (List.range j).any (dupAt (ws.getD i default).of))) (by simp_all) (B ((((ws.getD i default).of).take j).contains (((ws.getD i default).of).getD j 0))))) <| sA (B ((((ws.take i).any (fun x => dupL x.of) || (List.range j).any (dupAt (ws.getD i default).of)) || ((((ws.getD i default).of).take j).contains (((ws.getD i default).of).getD j 0))))) rfl <| s_nil <| W.region rfl <| sR _ _ (j + 1) rfl rfl rfl (by omega) <| sM (I (j + 1)) rfl <| s_nil ?_
   exact ⟨_, (by omega), j+1, _, upds_of _ _ ⟨rfl, (eqB right_twice1), rfl, rfl, rfl, rfl, rfl, rfl, rfl, rfl, rfl, rfl, rfl, rfl, rfl, rfl, rfl, (eqI (by omega)), trivial⟩, rfl, E, K1, aa, ae, ac, (by omega)⟩
  simp only [qz1, qz2, qz3, qz4, qz5, qz6, ne_eq, qz7] at av
  refine W.exit ?_
  refine W.region rfl <| sR _ _ (i + 1) rfl rfl rfl (by omega) <| sM (I (i + 1)) rfl <| s_nil ?_
  exact ⟨_, (by omega), i+1, _, upds_of _ _ ⟨rfl, (eqB (right_twice aj av aD)), rfl, rfl, (eqI (by omega)), trivial⟩, rfl, E, K1, aa, (by omega), (right_next ax ay)⟩
 simp only [qz1, qz2, qz3, qz4, qz5, qz6, ne_eq, qz7] at aj
 refine W.exit ?_
 refine W.seq <| sQ rfl <| sM (B ((ws.take i).any (fun x => dupL x.of))) rfl <| s_nil ?_
 refine W.cond ((ws.take i).any (fun x => dupL x.of)) rfl (fun aA => ?_) (fun aA => ?_)
 ·skip
  refine sQ rfl <| sA (I 10) rfl <| s_nil ?_
  refine W.ret ?_
  exact ⟨_, resE_tmp rfl, (eqI (right_dup c8 aj aB ax aA)), E⟩
 skip
 refine W.skip <| sQ rfl <| sA (I 0) rfl <| s_nil ?_
 refine W.ret ?_
 exact ⟨_, resE_tmp rfl, (eqI (right_ok c8 aj aB ax aA)), E⟩

theorem order1 {b : Nat} {vo : Value} {out : List Int} (n : Int) (w : World) (aa : w.heap[b]? = some (.cells #[vo] 34 (0, 0))) (ho : Sl w.cell? vo out) : Ret Try.prog 164 #[I n, Pz b] w fun v w' => v = B (out.contains n) /\ Ext w w' := by
 refine ret_of_W Try.func164 rfl rfl rfl ?_
 have E := Ext.refl w
 have K1 := KF.refl 0 w
 have ac := ho.len_le
 have ho := ho.par
 refine sQ rfl <| sA (B false) rfl <| s_nil <| sQ rfl <| s_val (x_ld (v := vo) rfl (ldb_sc Sc34 aa rfl)) <| sM (I n) rfl ?_
 refine s_call cf45 [vo, I n] rfl (contains_int n _ (ho.to K1)) ?_
 rintro _ w2 ⟨rfl, x3⟩
 replace E := E.trans x3
 replace K1 := K1.ext x3
 replace aa := x3.get aa
 clear x3
 refine sA (B (out.contains n)) rfl <| s_nil ?_
 refine W.ret ?_
 exact ⟨_, resE_tmp rfl, rfl, E⟩

theorem order_any {b : Nat} {vw : Value} {ws : List Work} (w : World) (aa : w.heap[b]? = some (.cells #[vw] 187 (0, 0))) (hw : Sl w.cell? vw ws) (aB : ws.length <= 30) : Ret Try.prog 131 #[Pz b] w fun v w' => Sl (frm w' w.heap.size) v (orderP ws) /\ Ext w w' := by
 refine ret_of_W Try.func131 rfl rfl rfl ?_
 have E := Ext.refl w
 have K1 := KF.refl 0 w
 have aC := hw.len_le
 have hw := hw.par
 refine sQ rfl <| sA (.slice none 0 0) rfl <| s_nil <| sQ rfl ?_
 refine s_alloc (cs := [.slice none 0 0]) Al34 rfl ?_
 intro b2 w3 Nb2
 have o_K1_b2 := Nat.le_trans K1.size Nb2.ge
 have o_b2 := Nat.le_trans E.size Nb2.ge
 have o_b_b2 := Nat.lt_of_lt_of_le (heap_lt aa) Nb2.ge
 replace E := E.trans Nb2.ext
 replace K1 := K1.ext Nb2.ext
 replace aa := Nb2.ext.get aa
 have ac := Nb2.same
 clear Nb2
 refine s_nil <| sQ rfl <| s_val (x_mf (fs := []) (cs := [Pz b2]) rfl rfl) <| sA (.func (.func 164) #[] #[Pz b2]) rfl <| s_nil <| W.seq <| sQ rfl <| sA (I 0) rfl <| s_nil <| W.block ?_
 have z4 := Nat.le_refl w3.heap.size
 have B_vo := E.size
 have B_vo_K1 := K1.size
 have B_vo_b := heap_lt aa
 have B_vo_b2 := heap_lt ac
 refine W.loop (fun m σ W => ∃ (i : Nat) (out : List Int) (vo : Value) (ρ : Env), σ = upds ρ [(0, Pz b), (3, Pz b2), (4, .func (.func 164) #[] #[Pz b2]), (5, I i)] /\ m = (ws.length - out.length) * (ws.length + 2) + (ws.length + 1 - i) /\ Ext w W /\ KF 0 w W /\ W.heap[b]? = some (.cells #[vw] 187 (0, 0)) /\ W.heap[b2]? = some (.cells #[vo] 34 (0, 0)) /\ w3.heap.size <= W.heap.size /\ OwnF w3.heap.size 3 W vo out /\ vo.ownBlock ≠ some b /\ vo.ownBlock ≠ some b2 /\ OrdInv ws out /\ i <= ws.length /\ (∀ j < i, readyAt ws out j = false)) ?_ ?_
 ·exact ⟨_, 0, [], .slice none 0 0, _, upds_of _ _ ⟨rfl, rfl, rfl, (eqI (by omega)), trivial⟩, rfl, E, K1, aa, ac, z4, OwnF.nil _ _ _, by simp [Value.ownBlock], by simp [Value.ownBlock], (OrdInv.nil ws), (Nat.zero_le _), (fun j hj => by omega)⟩
 rintro m σ w5 ⟨i, out, vo, ρ, rfl, rfl, E, K1, aa, ac, z4, ae, n_vo_b, n_vo_b2, al, aw, ap⟩
 have hol := al.le
 refine W.seq <| sQ rfl <| sM (I i) rfl <| sM (Pz b) rfl <| s_val (x_nc (a := ⟨b, 0, none⟩) rfl) <| s_val (x_fa (v := Pz b) rfl (fa_blk (o := 0) Fd187_0 Sz185)) <| s_val (x_fa (v := Pz b) rfl (fa_blk (o := 0) Fd185_0 Sz22)) <| s_val (x_ld (v := vw) rfl (ldb_sc Sc22 aa rfl)) <| s_val (x_lenS T22.und rfl (hw.to K1)) <| sC _ _ (decide ((i : Int) < ws.length)) rfl rfl rfl <| s_nil ?_
 refine W.cond (decide ((i : Int) < ws.length)) rfl (fun c6 => ?_) (fun c6 => ?_)
 ·simp only [qz1, qz2, qz3, qz4, qz5, qz6, ne_eq, qz7] at c6
  refine W.skip <| W.seq <| W.block <| sQ rfl <| sM (.func (.func 164) #[] #[Pz b2]) rfl <| sM (I i) rfl ?_
  refine s_callv rfl cf164 [I i] rfl (order1 i _ ac (ae.sl.mono (frm_le _ _))) ?_
  rintro _ w7 ⟨rfl, x8⟩
  replace E := E.trans x8
  replace z4 := Nat.le_trans z4 x8.size
  replace K1 := K1.ext x8
  replace aa := x8.get aa
  replace ac := x8.get ac
  replace ae := ae.ext x8
  clear x8
  refine s_val (x_not (b := out.contains i) rfl) <| sM (B (!(out.contains i))) rfl <| g_val (!(out.contains i)) (gy_t rfl) (fun hg => x_mv (v := .func (.func 164) #[] #[Pz b2]) rfl) <| g_val (!(out.contains i)) (gy_t rfl) (fun hg => x_mv (v := Pz b) rfl) <| g_val (!(out.contains i)) (gy_t rfl) (fun hg => x_nc (a := ⟨b, 0, none⟩) (gd_of hg (Pz b))) <| g_val (!(out.contains i)) (gy_t rfl) (fun hg => x_fa (v := Pz b) (gd_of hg (Pz b)) (fa_blk (o := 0) Fd187_0 Sz185)) <| g_val (!(out.contains i)) (gy_t rfl) (fun hg => x_fa (v := Pz b) (gd_of hg (Pz b)) (fa_blk (o := 0) Fd185_0 Sz22)) <| g_val (!(out.contains i)) (gy_t rfl) (fun hg => x_ld (v := vw) (gd_of hg (Pz b)) (ldb_sc Sc22 aa rfl)) <| g_val (!(out.contains i)) (gy_t rfl) (fun hg => x_mv (v := I i) rfl) <| g_val (!(out.contains i)) (gy_t rfl) (fun hg => x_ix (v := vat vw 3 (Int.toNat i)) (gd_of hg (vw)) (gd_of hg (I i)) (Sl.ix (α := Work) T22.und T22.size (hw.to K1) (by first | omega | (simp at hg; omega) | (simp [inB] at hg; omega)) (by first | omega | (simp at hg; omega) | (simp [inB] at hg; omega)))) <| g_val (!(out.contains i)) (gy_t rfl) (fun hg => x_fa (v := fat (vat vw 3 (Int.toNat i)) 0) (gd_of hg (vat vw 3 (Int.toNat i))) (fa_pl Fd60_0 Sz34 (Sl.pl (i := i) hw (by first | omega | (simp at hg; omega) | (simp [inB] at hg; omega)) (by first | omega | (simp at hg; omega) | (simp [inB] at hg; omega))))) ?_
  obtain ⟨u9, ax, aq⟩ := gd_ex (c := !(out.contains i)) fun hg => Work_at0 hw (i := i) (by first | omega | (simp at hg; omega) | (simp [inB] at hg; omega)) (by first | omega | (simp at hg; omega) | (simp [inB] at hg; omega))
  replace aq : (!(out.contains i)) = true -> Sl _ u9 (ws.getD i default).of := aq
  refine g_val (!(out.contains i)) (gy_t rfl) (fun hg => x_ld (v := u9) (gd_of hg (fat (vat vw 3 (Int.toNat i)) 0)) (ld_sc Sc34 (At.to (ax hg) K1))) ?_
  refine g_call (!(out.contains i)) (gy_t rfl) cf87 (B (((ws.getD i default).of).all (fun x : Int => out.contains x))) (fun _ => [.func (.func 164) #[] #[Pz b2], u9]) (fun hg => lst2 (gd_of hg (.func (.func 164) #[] #[Pz b2])) (gd_of hg (u9))) (fun hg => (every_int _ ((aq hg).to K1) ⟨164, [Pz b2], rfl, cf164, fun w' v x hE hD hA => by obtain rfl := Arg.int hA; exact (order1 _ _ (hE.get ac) ((ae.sl.mono (frm_le _ _)).mono hE.le))⟩)) ?_
  intro av ag
  replace E := E.trans ag
  replace z4 := Nat.le_trans z4 ag.size
  replace K1 := K1.ext ag
  replace aa := ag.get aa
  replace ac := ag.get ac
  replace ae := ae.ext ag
  clear ag
  refine s_val (x_pand (b := !(out.contains i)) (r := ((ws.getD i default).of).all (fun x : Int => out.contains x)) rfl (fun hb => gd_of (c := !(out.contains i)) (by simp_all) (B (((ws.getD i default).of).all (fun x : Int => out.contains x)))) rfl) <| s_nil ?_
  refine W.cond (((!(out.contains i)) && (((ws.getD i default).of).all (fun x : Int => out.contains x)))) rfl (fun am => ?_) (fun am => ?_)
  ·skip
   refine sQ rfl <| s_val (x_ld (v := vo) rfl (ldb_sc Sc34 ac rfl)) <| sM (I i) rfl ?_
   refine s_bsl (α := Int) T34 av.heap.size [I i] [(i : Int)] rfl (.cons rfl (Flat.rep_enc _ _) <| .nil) (Nat.le_refl _) rfl (by decide) (by decide) ?_
   intro ay az aA ah nn_u14
   replace E := E.trans ah
   replace z4 := Nat.le_trans z4 ah.size
   replace K1 := K1.ext ah
   replace aa := ah.get aa
   replace ac := ah.get ac
   replace ae := ae.ext ah
   clear ah
   have K18 := KF.refl av.heap.size az
   refine s_app (α := Int) (v := vo) (vy := ay) (l := out) (l2 := [(i : Int)]) T34 rfl rfl ae (aA.to K18) (Cells.Le.refl _) z4 (by first | omega | (simp only [List.length_append, List.length_cons, List.length_nil, List.length_set]; omega)) (by first | omega | (simp only [List.length_append, List.length_cons, List.length_nil, List.length_set]; omega)) ?_
   intro ao aD aj ak au
   have n_v19_b := au b (heap_lt aa) n_vo_b
   have n_v19_b2 := au b2 (heap_lt ac) n_vo_b2
   replace E := E.grow ak (by omega)
   replace z4 := Nat.le_trans z4 ak.size
   replace K1 := K1.grow ak (by omega)
   replace aa := ak.get n_vo_b aa
   replace ac := ak.get n_vo_b2 ac
   clear ak au
   refine s_st (b := b2) (off := 0) (vs := [ao]) (cs' := [ao]) (v := ao) rfl rfl Sz34 ac (Sl.cells (aj.sl.mono (frm_le _ _))) rfl rfl (by simp only [List.all_cons, List.all_nil, Bool.true_and, Bool.and_true, Sl.oc (aj.sl.mono (frm_le _ _))]; try rfl) rfl ?_
   intro aE ai
   replace E := E.put (by omega) ai
   replace z4 := Nat.le_trans z4 (Nat.le_of_eq ai.size.symm)
   replace K1 := K1.put ai (by omega)
   replace aa := ai.get (by omega) aa
   replace aj := aj.put ai n_v19_b2
   replace ac := ai.same
   clear ai
   refine s_nil <| W.region rfl <| sA (I (-1)) rfl <| s_nil <| W.region rfl <| sM (I (-1)) rfl <| sR _ _ ((-1) + 1) rfl rfl rfl (by omega) <| sA (I ((-1) + 1)) rfl <| s_nil ?_
   exact ⟨_, (by simp only [List.length_append, List.length_singleton]; exact order_dec (al.lt c6 am) aw), 0, (out ++ [(i : Int)]), ao, _, upds_of _ _ ⟨rfl, rfl, rfl, (eqI (by omega)), trivial⟩, rfl, E, K1, aa, ac, z4, (by first | exact aj | simpa using aj), n_v19_b, n_v19_b2, (al.step c6 am ap), (Nat.zero_le _), (fun j hj => by omega)⟩
  skip
  refine W.skip <| W.region rfl <| sM (I i) rfl <| sR _ _ (i + 1) rfl rfl rfl (by omega) <| sA (I (i + 1)) rfl <| s_nil ?_
  exact ⟨_, (by omega), (i + 1), out, vo, _, upds_of _ _ ⟨rfl, rfl, rfl, (eqI (by omega)), trivial⟩, rfl, E, K1, aa, ac, z4, ae, n_vo_b, n_vo_b2, al, (by omega), (notReady_next ap am)⟩
 simp only [qz1, qz2, qz3, qz4, qz5, qz6, ne_eq, qz7] at c6
 refine W.exit ?_
 refine sQ rfl <| s_val (x_ld (v := vo) rfl (ldb_sc Sc34 ac rfl)) <| sA vo rfl <| s_nil ?_
 refine W.ret ?_
 exact ⟨_, resE_tmp rfl, (al.done c6 ap ▸ ae.sl.mono (frm_mono _ (by omega))), E⟩

theorem opened_any {vw : Value} {ws : List Work} (w : World) (hw : Sl w.cell? vw ws) : Ret Try.prog 81 #[vw] w fun v w' => (openedE ws ≠ 0 /\ v = .tuple #[.pointer none, .slice none 0 0, I (openedE ws)] /\ Ext w w') ∨ (openedE ws = 0 /\ ∃ b so, v = .tuple #[Pz b, so, I 0] /\ New w b (.cells #[vw] 187 (0, 0)) w' /\ Sl (frm w' w.heap.size) so (orderP ws)) := by
 refine ret_of_W Try.func81 rfl rfl rfl ?_
 have E := Ext.refl w
 have K1 := KF.refl 0 w
 have ag := hw.len_le
 have hw := hw.par
 refine sQ rfl <| sA (.pointer none) rfl <| sA (.slice none 0 0) rfl <| sA (I 0) rfl <| s_nil <| W.seq <| sQ rfl <| sM vw rfl ?_
 refine s_call cf130 [vw] rfl (right_any _ (hw.to K1)) ?_
 rintro _ w2 ⟨rfl, x3⟩
 replace E := E.trans x3
 replace K1 := K1.ext x3
 clear x3
 refine sA (I (rightE ws)) rfl <| s_nil <| sQ rfl <| sM (I (rightE ws)) rfl <| sC _ _ ((rightE ws : Int) != 0) rfl rfl rfl <| s_nil ?_
 refine W.cond ((rightE ws : Int) != 0) rfl (fun c4 => ?_) (fun c4 => ?_)
 ·simp only [qz1, qz2, qz3, qz4, qz5, qz6, ne_eq, qz7] at c4
  refine sQ rfl <| sM (I (rightE ws)) rfl <| sA (.pointer none) rfl <| sA (.slice none 0 0) rfl <| sA (I (rightE ws)) rfl <| s_nil ?_
  refine W.ret ?_
  exact ⟨_, resE_tmp3 rfl, .inl ⟨(by rw [opened_wrong c4]; exact c4), (by rw [opened_wrong c4]; rfl), E⟩⟩
 simp only [qz1, qz2, qz3, qz4, qz5, qz6, ne_eq, qz7] at c4
 refine W.skip <| sQ rfl <| sM vw rfl <| s_val (x_bld (ps := [(0, vw)]) (zs := [.slice none 0 0]) (L' := [vw]) rfl Try.underlying185 Al185 rfl (Bd185 Try.underlying185) (.cons (cs := [vw]) (Sl.cells (hw.to K1)) rfl rfl rfl rfl <| .nil)) <| s_val (x_bld (ps := [(0, .agg #[vw])]) (zs := [.slice none 0 0]) (L' := [vw]) rfl Try.underlying187 Al187 rfl (Bd187 Try.underlying187) (.cons (cs := [vw]) rfl rfl rfl rfl rfl <| .nil)) ?_
 refine s_box (v := .agg #[vw]) (cs := [vw]) rfl rfl ?_
 intro b5 w6 Nb5
 have o_K1_b5 := Nat.le_trans K1.size Nb5.ge
 have o_b5 := Nat.le_trans E.size Nb5.ge
 replace E := E.trans Nb5.ext
 replace K1 := K1.ext Nb5.ext
 have ac := Nb5.same
 clear Nb5
 refine sA (Pz b5) rfl <| s_nil <| sQ rfl <| sM (Pz b5) rfl ?_
 refine s_call cf131 [Pz b5] rfl (order_any _ ac (hw.to K1) (right_len (by assumption)).2) ?_
 have sz_w7 := E.size
 have lt_b5_w7 := heap_lt ac
 rintro u9 w7 ⟨ae, x8⟩
 replace E := E.trans x8
 replace K1 := K1.ext x8
 replace ac := x8.get ac
 clear x8
 have ah := ae.len_le
 have K11 := KF.refl w6.heap.size w7
 refine sA u9 rfl <| s_nil <| W.seq <| sQ rfl <| sM u9 rfl <| s_val (x_lenS T34.und rfl (ae.to K11)) <| sM vw rfl <| s_val (x_lenS T22.und rfl (hw.to K1)) <| sC _ _ (decide ((((orderP ws).length) : Int) < ws.length)) rfl rfl rfl <| s_nil ?_
 refine W.cond (decide ((((orderP ws).length) : Int) < ws.length)) rfl (fun aa => ?_) (fun aa => ?_)
 ·simp only [qz1, qz2, qz3, qz4, qz5, qz6, ne_eq, qz7] at aa
  refine sQ rfl <| sA (.pointer none) rfl <| sA (.slice none 0 0) rfl <| sA (I 9) rfl <| s_nil ?_
  refine W.ret ?_
  exact ⟨_, resE_tmp3 rfl, .inl ⟨(by rw [opened_circle c4 aa]; decide), (by rw [opened_circle c4 aa]; rfl), E⟩⟩
 simp only [qz1, qz2, qz3, qz4, qz5, qz6, ne_eq, qz7] at aa
 refine W.skip <| sQ rfl <| sM (Pz b5) rfl <| sM u9 rfl <| sA (Pz b5) rfl <| sA u9 rfl <| sA (I 0) rfl <| s_nil ?_
 refine W.ret ?_
 exact ⟨_, resE_tmp3 rfl, .inr ⟨opened_ok c4 aa, b5, _, rfl, ⟨E, o_b5, ac⟩, (ae.kf K11).mono (frm_mono _ (by omega))⟩⟩

end Go.Proofs.Ytndobgodeicloaa
end
section
set_option maxRecDepth 100000
set_option maxHeartbeats 16000000
namespace Go.Proofs.Ytndobgodeicloaa
open Go Go.Nm
theorem listed1 {b : Nat} {vw : Value} {ws : List Work} (x : Int) (w : World) (aa : w.heap[b]? = some (.cells #[vw] 22 (0, 0))) (hw : Sl w.cell? vw ws) : Ret Try.prog 147 #[I x, Pz b] w fun v w' => v = B (inB x 0 ((ws.length : Int) - 1)) /\ Ext w w' := by
 refine ret_of_W Try.func147 rfl rfl rfl ?_
 have E := Ext.refl w
 have K1 := KF.refl 0 w
 have ac := hw.len_le
 have hw := hw.par
 refine sQ rfl <| sA (B false) rfl <| s_nil <| sQ rfl <| sM (I x) rfl <| s_val (x_ld (v := vw) rfl (ldb_sc Sc22 aa rfl)) <| s_val (x_lenS T22.und rfl (hw.to K1)) <| sR _ _ (ws.length - 1) rfl rfl rfl (by omega) ?_
 refine s_call cf84 [I x, I 0, I (ws.length - 1)] rfl (in_any _ _ _ _) ?_
 rintro _ w2 ⟨rfl, x3⟩
 replace E := E.trans x3
 replace K1 := K1.ext x3
 replace aa := x3.get aa
 clear x3
 refine sA (B (inB x 0 (ws.length - 1))) rfl <| s_nil ?_
 refine W.ret ?_
 exact ⟨_, resE_tmp rfl, rfl, E⟩

theorem listed_any {vw vl : Value} {ws : List Work} {l : List Int} (w : World) (hw : Sl w.cell? vw ws) (hl : Sl w.cell? vl l) : Ret Try.prog 96 #[vw, vl] w fun v w' => v = I (listedE ws.length l) /\ Ext w w' := by
 refine ret_of_W Try.func96 rfl rfl rfl ?_
 have E := Ext.refl w
 have K1 := KF.refl 0 w
 have ai := hw.len_le
 have hw := hw.par
 have aj := hl.len_le
 have hl := hl.par
 refine sQ rfl ?_
 refine s_box (v := vw) (cs := [vw]) rfl (Sl.cells (hw.to K1)) ?_
 intro b2 w3 Nb2
 have o_K1_b2 := Nat.le_trans K1.size Nb2.ge
 have o_b2 := Nat.le_trans E.size Nb2.ge
 replace E := E.trans Nb2.ext
 replace K1 := K1.ext Nb2.ext
 have aa := Nb2.same
 clear Nb2
 refine sA (I 0) rfl <| s_nil <| W.seq <| sQ rfl <| s_val (x_mf (fs := []) (cs := [Pz b2]) rfl rfl) <| sM vl rfl ?_
 refine s_call cf87 [.func (.func 147) #[] #[Pz b2], vl] rfl (every_int _ (hl.to K1) ⟨147, [Pz b2], rfl, cf147, fun w' v x hE hD hA => by obtain rfl := Arg.int hA; exact (listed1 _ _ (hE.get aa) ((hw.to K1).mono hE.le))⟩) ?_
 rintro _ w4 ⟨rfl, x5⟩
 replace E := E.trans x5
 replace K1 := K1.ext x5
 replace aa := x5.get aa
 clear x5
 refine s_val (x_not (b := l.all (fun x : Int => inB x 0 ((ws.length : Int) - 1))) rfl) <| s_nil ?_
 refine W.cond (!(l.all (fun x : Int => inB x 0 ((ws.length : Int) - 1)))) rfl (fun c6 => ?_) (fun c6 => ?_)
 ·skip
  refine sQ rfl <| sA (I 2) rfl <| s_nil ?_
  refine W.ret ?_
  exact ⟨_, resE_tmp rfl, (eqI (listed_arg c6)), E⟩
 skip
 refine W.skip <| W.seq <| sQ rfl <| sA (I 1) rfl <| s_nil <| W.block ?_
 refine W.loop (fun m σ W => ∃ (i : Nat) (ρ : Env), σ = upds ρ [(1, vl), (5, I i)] /\ m = l.length + 1 - i /\ Ext w W /\ KF 0 w W /\ W.heap[b2]? = some (.cells #[vw] 22 (0, 0)) /\ 1 <= i /\ i <= l.length + 1 /\ AscTo l i) ?_ ?_
 ·exact ⟨_, 1, _, upds_of _ _ ⟨rfl, (eqI (by omega)), trivial⟩, rfl, E, K1, aa, (Nat.le_refl _), (by omega), (fun j h1 h2 => by omega)⟩
 rintro m σ w7 ⟨i, ρ, rfl, rfl, E, K1, aa, ah, ak, ag⟩
 refine W.seq <| sQ rfl <| sM (I i) rfl <| sM vl rfl <| s_val (x_lenS T34.und rfl (hl.to K1)) <| sC _ _ (decide ((i : Int) < l.length)) rfl rfl rfl <| s_nil ?_
 refine W.cond (decide ((i : Int) < l.length)) rfl (fun c8 => ?_) (fun c8 => ?_)
 ·simp only [qz1, qz2, qz3, qz4, qz5, qz6, ne_eq, qz7] at c8
  refine W.skip <| W.seq <| W.block <| W.seq ?_
  refine W.draw (fun W => Ext w W /\ KF 0 w W /\ W.heap[b2]? = some (.cells #[vw] 22 (0, 0))) [(0, true), (1, true), (2, true), (3, true), (4, true), (5, true), (6, true), (7, true), (8, true), (9, true)] mixed (by decide +kernel) rfl ?_
  intro w9 ae
  replace E := E.trans ae
  replace K1 := K1.ext ae
  replace aa := ae.get aa
  clear ae
  refine ⟨⟨E, K1, aa⟩, ?_⟩
  refine d_q rfl (fun w' hC => by obtain ⟨E, K1, aa⟩ := hC; exact x_mv (v := vl) rfl) ?_
  refine d_q rfl (fun w' hC => by obtain ⟨E, K1, aa⟩ := hC; exact x_mv (v := I i) rfl) ?_
  refine d_q rfl (fun w' hC => by obtain ⟨E, K1, aa⟩ := hC; exact x_ix (v := vat vl 1 (Int.toNat i)) rfl rfl (Sl.ix (α := Int) T34.und T34.size (hl.to K1) (by omega) (by omega))) ?_
  refine d_q rfl (fun w' hC => by obtain ⟨E, K1, aa⟩ := hC; exact x_ld (v := I (l.getD i 0)) rfl (ld_sc Sc3 (At.to (Int_at hl (i := i) (by omega) (by omega)) K1))) ?_
  refine d_q rfl (fun w' hC => by obtain ⟨E, K1, aa⟩ := hC; exact x_mv (v := vl) rfl) ?_
  refine d_q rfl (fun w' hC => by obtain ⟨E, K1, aa⟩ := hC; exact x_mv (v := I i) rfl) ?_
  refine d_q rfl (fun w' hC => by obtain ⟨E, K1, aa⟩ := hC; exact x_ari (r := i - 1) rfl rfl rfl (by omega)) ?_
  refine d_q rfl (fun w' hC => by obtain ⟨E, K1, aa⟩ := hC; exact x_ix (v := vat vl 1 (Int.toNat (i - 1))) rfl rfl (Sl.ix (α := Int) T34.und T34.size (hl.to K1) (by omega) (by omega))) ?_
  refine d_q rfl (fun w' hC => by obtain ⟨E, K1, aa⟩ := hC; exact x_ld (v := I (l.getD (Int.toNat (i - 1)) 0)) rfl (ld_sc Sc3 (At.to (Int_at hl (i := i - 1) (by omega) (by omega)) K1))) ?_
  refine d_q rfl (fun w' hC => by obtain ⟨E, K1, aa⟩ := hC; exact x_cmp (kd := .i64) (r := decide ((l.getD i 0 : Int) <= (l.getD (Int.toNat (i - 1)) 0))) rfl rfl rfl) ?_
  refine d_nil ?_
  refine W.cond (decide ((l.getD i 0 : Int) <= (l.getD (Int.toNat (i - 1)) 0))) rfl (fun ac => ?_) (fun ac => ?_)
  ·simp only [qz1, qz2, qz3, qz4, qz5, qz6, ne_eq, qz7] at ac
   refine sQ rfl <| sA (I 9) rfl <| s_nil ?_
   refine W.ret ?_
   exact ⟨_, resE_tmp rfl, (eqI (listed_bad c6 c8 ah ac)), E⟩
  simp only [qz1, qz2, qz3, qz4, qz5, qz6, ne_eq, qz7] at ac
  refine W.skip <| W.region rfl <| sM (I i) rfl <| sR _ _ (i + 1) rfl rfl rfl (by omega) <| sA (I (i + 1)) rfl <| s_nil ?_
  exact ⟨_, (by omega), i+1, _, upds_of _ _ ⟨rfl, (eqI (by omega)), trivial⟩, rfl, E, K1, aa, (by omega), (by omega), (asc_next ag ac)⟩
 simp only [qz1, qz2, qz3, qz4, qz5, qz6, ne_eq, qz7] at c8
 refine W.exit ?_
 refine sQ rfl <| sA (I 0) rfl <| s_nil ?_
 refine W.ret ?_
 exact ⟨_, resE_tmp rfl, (eqI (listed_ok c6 c8 ag)), E⟩

theorem asked1 {b : Nat} {st : List Bool} (x : Int) (w : World) (aa : w.heap[b]? = some (.cells (encB st).toArray 141 (0, 0))) (ac : st.length = 30) (h0 : 0 <= x) (h1 : x < 30) : Ret Try.prog 146 #[I x, Pz b] w fun v w' => v = B (st.getD x.toNat false) /\ Ext w w' := by
 refine ret_of_W Try.func146 rfl rfl rfl ?_
 have E := Ext.refl w
 have K1 := KF.refl 0 w
 refine sQ rfl <| sA (B false) rfl <| s_nil <| sQ rfl <| sM (I x) rfl <| s_val (x_ix (v := .pointer (some ⟨b, 0 + Int.toNat x, none⟩)) rfl rfl (run_indexArr Try.underlying141 Sz4 (by omega) (by omega))) <| s_val (x_ld (v := B (st.getD (Int.toNat x) false)) rfl (ldArr Sc4 aa (by omega) (by omega))) <| sA (B (st.getD (Int.toNat x) false)) rfl <| s_nil ?_
 refine W.ret ?_
 exact ⟨_, resE_tmp rfl, rfl, E⟩

theorem asked_any {vw vr : Value} {ws : List Work} {rev : List Int} (w : World) (hw : Sl w.cell? vw ws) (hr : Sl w.cell? vr rev) : Ret Try.prog 92 #[vw, vr] w fun v w' => (askedE ws rev ≠ 0 /\ v = .tuple #[.pointer none, .slice none 0 0, .agg (encB (List.replicate 30 false)).toArray, I (askedE ws rev)] /\ Ext w w') ∨ (askedE ws rev = 0 /\ ∃ b so, v = .tuple #[Pz b, so, .agg (encB (staleL ws rev)).toArray, I 0] /\ New w b (.cells #[vw] 187 (0, 0)) w' /\ Sl (frm w' w.heap.size) so (orderP ws)) := by
 refine ret_of_W Try.func92 rfl rfl rfl ?_
 have E := Ext.refl w
 have K1 := KF.refl 0 w
 have aM := hw.len_le
 have hw := hw.par
 have aN := hr.len_le
 have hr := hr.par
 refine sQ rfl <| sA (.pointer none) rfl <| sA (.slice none 0 0) rfl ?_
 refine s_alloc (cs := encB (List.replicate 30 false)) Al141 rfl ?_
 intro b2 w3 Nb2
 have o_K1_b2 := Nat.le_trans K1.size Nb2.ge
 have o_b2 := Nat.le_trans E.size Nb2.ge
 replace E := E.trans Nb2.ext
 replace K1 := K1.ext Nb2.ext
 have ac := Nb2.same
 clear Nb2
 have aH : (List.replicate 30 false).length = 30 := by simp
 refine sA (I 0) rfl <| s_nil <| sQ rfl ?_
 refine s_alloc (cs := encB (List.replicate 30 false)) Al141 rfl ?_
 intro b4 w5 Nb4
 have o_K1_b4 := Nat.le_trans K1.size Nb4.ge
 have o_b4 := Nat.le_trans E.size Nb4.ge
 have o_b2_b4 := Nat.lt_of_lt_of_le (heap_lt ac) Nb4.ge
 replace E := E.trans Nb4.ext
 replace K1 := K1.ext Nb4.ext
 replace ac := Nb4.ext.get ac
 have aa := Nb4.same
 clear Nb4
 have aj : (List.replicate 30 false).length = 30 := by simp
 refine s_nil <| sQ rfl <| sM vw rfl ?_
 refine s_call cf81 [vw] rfl (opened_any _ (hw.to K1)) ?_
 rintro _ w6 (⟨h8, rfl, x9⟩ | ⟨aC, ag, ah, rfl, ai, ax⟩)
 ·replace E := E.trans x9
  replace K1 := K1.ext x9
  replace ac := x9.get ac
  replace aa := x9.get aa
  refine sM (.tuple #[.pointer none, .slice none 0 0, I (openedE ws)]) rfl <| sX [.pointer none, .slice none 0 0, I (openedE ws)] (.pointer none) rfl rfl <| sX [.pointer none, .slice none 0 0, I (openedE ws)] (.slice none 0 0) rfl rfl <| sX [.pointer none, .slice none 0 0, I (openedE ws)] (I (openedE ws)) rfl rfl <| sA (.pointer none) rfl <| sA (.slice none 0 0) rfl <| sA (I (openedE ws)) rfl <| s_nil <| W.seq <| sQ rfl <| sM (I (openedE ws)) rfl ?_
  refine sC _ _ ((openedE ws : Int) == 0) rfl rfl rfl <| s_nil ?_
  refine W.cond ((openedE ws : Int) == 0) rfl (fun aD => ?_) (fun aD => ?_)
  ·simp only [qz1, qz2, qz3, qz4, qz5, qz6, ne_eq, qz7] at aD
   exact absurd aD h8
  simp only [qz1, qz2, qz3, qz4, qz5, qz6, ne_eq, qz7] at aD
  refine W.skip <| W.seq <| sQ rfl <| sM (I (openedE ws)) rfl <| sC _ _ ((openedE ws : Int) != 0) rfl rfl rfl <| s_nil ?_
  refine W.cond ((openedE ws : Int) != 0) rfl (fun aE => ?_) (fun aE => ?_)
  ·simp only [qz1, qz2, qz3, qz4, qz5, qz6, ne_eq, qz7] at aE
   refine W.seq ?_
   refine W.draw (fun W => Ext w W /\ KF 0 w W /\ W.heap[b4]? = some (.cells (encB (List.replicate 30 false)).toArray 141 (0, 0))) [(0, true), (1, true), (2, true), (3, true), (4, false), (5, true)] mixed (by decide +kernel) rfl ?_
   intro aO ay
   replace E := E.trans ay
   replace K1 := K1.ext ay
   replace ac := ay.get ac
   replace aa := ay.get aa
   clear ay
   refine ⟨⟨E, K1, aa⟩, ?_⟩
   refine d_q rfl (fun w' hC => by obtain ⟨E, K1, aa⟩ := hC; exact x_ld (v := .agg (encB (List.replicate 30 false)).toArray) rfl (ldArrA Ag141 Sz141 aj aa)) ?_
   refine d_q rfl (fun w' hC => by obtain ⟨E, K1, aa⟩ := hC; exact x_mv (v := I (openedE ws)) rfl) ?_
   refine d_q rfl (fun w' hC => by obtain ⟨E, K1, aa⟩ := hC; exact x_as (v := .pointer none) rfl) ?_
   refine d_q rfl (fun w' hC => by obtain ⟨E, K1, aa⟩ := hC; exact x_as (v := .slice none 0 0) rfl) ?_
   refine d_l rfl ?_
   refine s_stArrA (b := b2) (l := List.replicate 30 false) (l' := List.replicate 30 false) rfl rfl Sz141 ac aH aj ?_
   intro aP az
   replace E := E.put (by omega) az
   replace K1 := K1.put az (by omega)
   replace aa := az.get (by omega) aa
   replace ac := az.same
   clear az
   refine s_nil ⟨⟨E, K1, aa⟩, ?_⟩
   refine d_q rfl (fun w' hC => by obtain ⟨E, K1, aa⟩ := hC; exact x_as (v := I (openedE ws)) rfl) ?_
   refine d_nil ?_
   refine W.ret ?_
   exact ⟨_, (resE_ofn (vs := [.pointer none, .slice none 0 0, .agg (encB (List.replicate 30 false)).toArray, I (openedE ws)]) rfl rfl (.tmp (v := .pointer none) rfl <| .tmp (v := .slice none 0 0) rfl <| .cell (v := .agg (encB (List.replicate 30 false)).toArray) rfl (run_loadVar_arr Ag141 Sz141 aj ac) <| .tmp (v := I (openedE ws)) rfl <| .nil)), .inl ⟨(by rw [asked_wrong h8]; exact h8), (by rw [asked_wrong h8]), E⟩⟩
  simp only [qz1, qz2, qz3, qz4, qz5, qz6, ne_eq, qz7] at aE
  exact absurd aE h8
 have sz_w6 := E.size
 have lt_b2_w6 := heap_lt ac
 have lt_b4_w6 := heap_lt aa
 have o_K1_b11 := Nat.le_trans K1.size ai.ge
 have o_b11 := Nat.le_trans E.size ai.ge
 have o_b2_b11 := Nat.lt_of_lt_of_le (heap_lt ac) ai.ge
 have o_b4_b11 := Nat.lt_of_lt_of_le (heap_lt aa) ai.ge
 replace E := E.trans ai.ext
 replace K1 := K1.ext ai.ext
 replace ac := ai.ext.get ac
 replace aa := ai.ext.get aa
 have ae := ai.same
 clear ai
 have aQ := ax.len_le
 have K21 := KF.refl w5.heap.size w6
 refine sM (.tuple #[Pz ag, ah, I 0]) rfl <| sX [Pz ag, ah, I 0] (Pz ag) rfl rfl <| sX [Pz ag, ah, I 0] ah rfl rfl <| sX [Pz ag, ah, I 0] (I 0) rfl rfl <| sA (Pz ag) rfl <| sA ah rfl <| sA (I 0) rfl <| s_nil <| W.seq <| sQ rfl <| sM (I 0) rfl ?_
 refine sC _ _ ((0 : Int) == 0) rfl rfl rfl <| s_nil ?_
 refine W.cond ((0 : Int) == 0) rfl (fun aF => ?_) (fun aF => ?_)
 ·simp only [qz1, qz2, qz3, qz4, qz5, qz6, ne_eq, qz7] at aF
  refine W.region rfl <| sM vw rfl <| sM vr rfl ?_
  refine s_call cf96 [vw, vr] rfl (listed_any _ (hw.to K1) (hr.to K1)) ?_
  rintro _ aR ⟨rfl, ak⟩
  replace E := E.trans ak
  replace K1 := K1.ext ak
  replace K21 := K21.ext ak
  replace ac := ak.get ac
  replace aa := ak.get aa
  replace ae := ak.get ae
  clear ak
  refine sA (I (listedE ws.length rev)) rfl <| s_nil <| W.seq <| sQ rfl <| sM (I (listedE ws.length rev)) rfl <| sC _ _ ((listedE ws.length rev : Int) != 0) rfl rfl rfl <| s_nil ?_
  refine W.cond ((listedE ws.length rev : Int) != 0) rfl (fun aA => ?_) (fun aA => ?_)
  ·simp only [qz1, qz2, qz3, qz4, qz5, qz6, ne_eq, qz7] at aA
   refine W.seq ?_
   refine W.draw (fun W => Ext w W /\ KF 0 w W /\ KF w5.heap.size w6 W /\ W.heap[b4]? = some (.cells (encB (List.replicate 30 false)).toArray 141 (0, 0)) /\ W.heap[ag]? = some (.cells #[vw] 187 (0, 0))) [(0, true), (1, true), (2, true), (3, true), (4, false), (5, true)] mixed (by decide +kernel) rfl ?_
   intro aS al
   replace E := E.trans al
   replace K1 := K1.ext al
   replace K21 := K21.ext al
   replace ac := al.get ac
   replace aa := al.get aa
   replace ae := al.get ae
   clear al
   refine ⟨⟨E, K1, K21, aa, ae⟩, ?_⟩
   refine d_q rfl (fun w' hC => by obtain ⟨E, K1, K21, aa, ae⟩ := hC; exact x_ld (v := .agg (encB (List.replicate 30 false)).toArray) rfl (ldArrA Ag141 Sz141 aj aa)) ?_
   refine d_q rfl (fun w' hC => by obtain ⟨E, K1, K21, aa, ae⟩ := hC; exact x_mv (v := I (listedE ws.length rev)) rfl) ?_
   refine d_q rfl (fun w' hC => by obtain ⟨E, K1, K21, aa, ae⟩ := hC; exact x_as (v := .pointer none) rfl) ?_
   refine d_q rfl (fun w' hC => by obtain ⟨E, K1, K21, aa, ae⟩ := hC; exact x_as (v := .slice none 0 0) rfl) ?_
   refine d_l rfl ?_
   refine s_stArrA (b := b2) (l := List.replicate 30 false) (l' := List.replicate 30 false) rfl rfl Sz141 ac aH aj ?_
   intro aT am
   replace E := E.put (by omega) am
   replace K1 := K1.put am (by omega)
   replace K21 := K21.put am (by omega)
   replace aa := am.get (by omega) aa
   replace ae := am.get (by omega) ae
   replace ac := am.same
   clear am
   refine s_nil ⟨⟨E, K1, K21, aa, ae⟩, ?_⟩
   refine d_q rfl (fun w' hC => by obtain ⟨E, K1, K21, aa, ae⟩ := hC; exact x_as (v := I (listedE ws.length rev)) rfl) ?_
   refine d_nil ?_
   refine W.ret ?_
   exact ⟨_, (resE_ofn (vs := [.pointer none, .slice none 0 0, .agg (encB (List.replicate 30 false)).toArray, I (listedE ws.length rev)]) rfl rfl (.tmp (v := .pointer none) rfl <| .tmp (v := .slice none 0 0) rfl <| .cell (v := .agg (encB (List.replicate 30 false)).toArray) rfl (run_loadVar_arr Ag141 Sz141 aj ac) <| .tmp (v := I (listedE ws.length rev)) rfl <| .nil)), .inl ⟨(by rw [asked_list aC]; exact aA), (by rw [asked_list aC]), E⟩⟩
  simp only [qz1, qz2, qz3, qz4, qz5, qz6, ne_eq, qz7] at aA
  refine W.skip <| W.seq <| sQ rfl <| sM ah rfl <| s_val (x_lenS T34.und rfl (ax.to K21)) <| sM (I 0) rfl <| s_nil <| W.block ?_
  have aI := opened_right aC
  have aU := (right_len aI).2
  refine W.loop (fun m σ W => ∃ (k : Nat) (ρ : Env), σ = upds ρ [(0, vw), (1, vr), (6, Pz b2), (8, Pz b4), (9, Pz ag), (10, ah), (29, ah), (30, I ((orderP ws).length)), (31, I k)] /\ m = (orderP ws).length - k /\ Ext w W /\ KF 0 w W /\ KF w5.heap.size w6 W /\ W.heap[b2]? = some (.cells (encB (List.replicate 30 false)).toArray 141 (0, 0)) /\ W.heap[b4]? = some (.cells (encB (staleF ws rev ((orderP ws).take k) (List.replicate 30 false))).toArray 141 (0, 0)) /\ (staleF ws rev ((orderP ws).take k) (List.replicate 30 false)).length = 30 /\ W.heap[ag]? = some (.cells #[vw] 187 (0, 0)) /\ k <= (orderP ws).length) ?_ ?_
  ·exact ⟨_, 0, _, upds_of _ _ ⟨rfl, rfl, rfl, rfl, rfl, rfl, rfl, rfl, (eqI (by omega)), trivial⟩, rfl, E, K1, K21, ac, (by first | exact aa | simpa using aa), (by first | exact aj | simpa using aj), ae, (Nat.zero_le _)⟩
  rintro m σ aV ⟨k, ρ, rfl, rfl, E, K1, K21, ac, aa, aB, ae, aK⟩
  refine sQ rfl <| sC _ _ (decide ((k : Int) < ((orderP ws).length))) rfl rfl rfl <| s_nil <| W.seq ?_
  refine W.cond (decide ((k : Int) < ((orderP ws).length))) rfl (fun aw => ?_) (fun aw => ?_)
  ·simp only [qz1, qz2, qz3, qz4, qz5, qz6, ne_eq, qz7] at aw
   have hik := order_at ws aw
   refine W.skip <| W.seq <| W.block <| sQ rfl <| s_val (x_ix (v := vat ah 1 (Int.toNat k)) rfl rfl (Sl.ix (α := Int) T34.und T34.size (ax.to K21) (by omega) (by omega))) <| s_val (x_ld (v := I ((orderP ws).getD k 0)) rfl (ld_sc Sc3 (At.to (Int_at ax (i := k) (by omega) (by omega)) K21))) <| sA (I ((orderP ws).getD k 0)) rfl <| s_nil <| W.region rfl <| sM (I ((orderP ws).getD k 0)) rfl <| sM vr rfl ?_
   refine sM (I ((orderP ws).getD k 0)) rfl ?_
   refine s_call cf45 [vr, I ((orderP ws).getD k 0)] rfl (contains_int ((orderP ws).getD k 0) _ (hr.to K1)) ?_
   rintro _ aW ⟨rfl, ao⟩
   replace E := E.trans ao
   replace K1 := K1.ext ao
   replace K21 := K21.ext ao
   replace ac := ao.get ac
   replace aa := ao.get aa
   replace ae := ao.get ae
   clear ao
   refine sM (B (rev.contains ((orderP ws).getD k 0))) rfl <| g_val (!(rev.contains ((orderP ws).getD k 0))) (gy_f rfl) (fun hg => x_mv (v := vw) rfl) <| g_val (!(rev.contains ((orderP ws).getD k 0))) (gy_f rfl) (fun hg => x_mv (v := I ((orderP ws).getD k 0)) rfl) <| g_val (!(rev.contains ((orderP ws).getD k 0))) (gy_f rfl) (fun hg => x_ix (v := vat vw 3 (Int.toNat ((orderP ws).getD k 0))) (gd_of hg (vw)) (gd_of hg (I ((orderP ws).getD k 0))) (Sl.ix (α := Work) T22.und T22.size (hw.to K1) (by first | omega | (simp at hg; omega) | (simp [inB] at hg; omega)) (by first | omega | (simp at hg; omega) | (simp [inB] at hg; omega)))) <| g_val (!(rev.contains ((orderP ws).getD k 0))) (gy_f rfl) (fun hg => x_fa (v := fat (vat vw 3 (Int.toNat ((orderP ws).getD k 0))) 0) (gd_of hg (vat vw 3 (Int.toNat ((orderP ws).getD k 0)))) (fa_pl Fd60_0 Sz34 (Sl.pl (i := (orderP ws).getD k 0) hw (by first | omega | (simp at hg; omega) | (simp [inB] at hg; omega)) (by first | omega | (simp at hg; omega) | (simp [inB] at hg; omega))))) ?_
   obtain ⟨aG, aL, aJ⟩ := gd_ex (c := !(rev.contains ((orderP ws).getD k 0))) fun hg => Work_at0 hw (i := (orderP ws).getD k 0) (by first | omega | (simp at hg; omega) | (simp [inB] at hg; omega)) (by first | omega | (simp at hg; omega) | (simp [inB] at hg; omega))
   replace aJ : (!(rev.contains ((orderP ws).getD k 0))) = true -> Sl _ aG (ws.getD (Int.toNat ((orderP ws).getD k 0)) default).of := aJ
   refine g_val (!(rev.contains ((orderP ws).getD k 0))) (gy_f rfl) (fun hg => x_ld (v := aG) (gd_of hg (fat (vat vw 3 (Int.toNat ((orderP ws).getD k 0))) 0)) (ld_sc Sc34 (At.to (aL hg) K1))) <| g_val (!(rev.contains ((orderP ws).getD k 0))) (gy_f rfl) (fun hg => x_mf (fs := []) (cs := [Pz b4]) rfl rfl) ?_
   refine g_call (!(rev.contains ((orderP ws).getD k 0))) (gy_f rfl) cf48 (B (((ws.getD (Int.toNat ((orderP ws).getD k 0)) default).of).any (fun x : Int => (staleF ws rev ((orderP ws).take k) (List.replicate 30 false)).getD x.toNat false))) (fun _ => [aG, .func (.func 146) #[] #[Pz b4]]) (fun hg => lst2 (gd_of hg (aG)) (gd_of hg (.func (.func 146) #[] #[Pz b4]))) (fun hg => (containsFunc_int _ ((aJ hg).to K1) ⟨146, [Pz b4], rfl, cf146, fun w' v x hE hD hA => by obtain rfl := Arg.int hA; exact (asked1 _ _ (hE.get aa) aB (right_of aI (by omega) _ hD).1 (by have := (right_of aI (by omega) _ hD).2.1; omega))⟩)) ?_
   intro aX ap
   replace E := E.trans ap
   replace K1 := K1.ext ap
   replace K21 := K21.ext ap
   replace ac := ap.get ac
   replace aa := ap.get aa
   replace ae := ap.get ae
   clear ap
   refine s_val (x_por (b := rev.contains ((orderP ws).getD k 0)) (r := ((ws.getD (Int.toNat ((orderP ws).getD k 0)) default).of).any (fun x : Int => (staleF ws rev ((orderP ws).take k) (List.replicate 30 false)).getD x.toNat false)) rfl rfl (fun hb => gd_of (c := !(rev.contains ((orderP ws).getD k 0))) (by simp_all) (B (((ws.getD (Int.toNat ((orderP ws).getD k 0)) default).of).any (fun x : Int => (staleF ws rev ((orderP ws).take k) (List.replicate 30 false)).getD x.toNat false))))) <| s_val (x_ix (v := .pointer (some ⟨b4, 0 + Int.toNat ((orderP ws).getD k 0), none⟩)) rfl rfl (run_indexArr Try.underlying141 Sz4 (by omega) (by omega))) ?_
   refine s_stArr (b := b4) (l := staleF ws rev ((orderP ws).take k) (List.replicate 30 false)) (i := (orderP ws).getD k 0) (v := ((rev.contains ((orderP ws).getD k 0)) || (((ws.getD (Int.toNat ((orderP ws).getD k 0)) default).of).any (fun x : Int => (staleF ws rev ((orderP ws).take k) (List.replicate 30 false)).getD x.toNat false)))) rfl rfl Sz4 aa (by omega) (by omega) ?_
   intro aY aq
   replace E := E.put (by omega) aq
   replace K1 := K1.put aq (by omega)
   replace K21 := K21.put aq (by omega)
   replace ac := aq.get (by omega) ac
   replace ae := aq.get (by omega) ae
   replace aa := aq.same
   clear aq
   have aZ : ((staleF ws rev ((orderP ws).take k) (List.replicate 30 false)).set (Int.toNat ((orderP ws).getD k 0)) (((rev.contains ((orderP ws).getD k 0)) || (((ws.getD (Int.toNat ((orderP ws).getD k 0)) default).of).any (fun x : Int => (staleF ws rev ((orderP ws).take k) (List.replicate 30 false)).getD x.toNat false))))).length = 30 := List.length_set.trans aB
   refine s_nil <| W.region rfl <| sR _ _ (k + 1) rfl rfl rfl (by omega) <| sM (I (k + 1)) rfl <| s_nil ?_
   exact ⟨_, (by omega), k+1, _, upds_of _ _ ⟨rfl, rfl, rfl, rfl, rfl, rfl, rfl, rfl, (eqI (by omega)), trivial⟩, rfl, E, K1, K21, ac, (by rw [staleF_next ws rev (orderP ws) aw]; exact aa), (by rw [staleF_len]; simp), ae, (by omega)⟩
  simp only [qz1, qz2, qz3, qz4, qz5, qz6, ne_eq, qz7] at aw
  refine W.exit ?_
  refine W.seq ?_
  refine W.draw (fun W => Ext w W /\ KF 0 w W /\ KF w5.heap.size w6 W /\ W.heap[b4]? = some (.cells (encB (staleF ws rev ((orderP ws).take k) (List.replicate 30 false))).toArray 141 (0, 0)) /\ W.heap[ag]? = some (.cells #[vw] 187 (0, 0))) [(0, true), (1, true), (2, true), (3, true), (4, true), (5, false), (6, true)] mixed (by decide +kernel) rfl ?_
  intro a5 au
  replace E := E.trans au
  replace K1 := K1.ext au
  replace K21 := K21.ext au
  replace ac := au.get ac
  replace aa := au.get aa
  replace ae := au.get ae
  clear au
  refine ⟨⟨E, K1, K21, aa, ae⟩, ?_⟩
  refine d_q rfl (fun w' hC => by obtain ⟨E, K1, K21, aa, ae⟩ := hC; exact x_mv (v := Pz ag) rfl) ?_
  refine d_q rfl (fun w' hC => by obtain ⟨E, K1, K21, aa, ae⟩ := hC; exact x_mv (v := ah) rfl) ?_
  refine d_q rfl (fun w' hC => by obtain ⟨E, K1, K21, aa, ae⟩ := hC; exact x_ld (v := .agg (encB (staleF ws rev ((orderP ws).take k) (List.replicate 30 false))).toArray) rfl (ldArrA Ag141 Sz141 aB aa)) ?_
  refine d_q rfl (fun w' hC => by obtain ⟨E, K1, K21, aa, ae⟩ := hC; exact x_as (v := Pz ag) rfl) ?_
  refine d_q rfl (fun w' hC => by obtain ⟨E, K1, K21, aa, ae⟩ := hC; exact x_as (v := ah) rfl) ?_
  refine d_l rfl ?_
  refine s_stArrA (b := b2) (l := List.replicate 30 false) (l' := staleF ws rev ((orderP ws).take k) (List.replicate 30 false)) rfl rfl Sz141 ac aH aB ?_
  intro a6 av
  replace E := E.put (by omega) av
  replace K1 := K1.put av (by omega)
  replace K21 := K21.put av (by omega)
  replace aa := av.get (by omega) aa
  replace ae := av.get (by omega) ae
  replace ac := av.same
  clear av
  refine s_nil ⟨⟨E, K1, K21, aa, ae⟩, ?_⟩
  refine d_q rfl (fun w' hC => by obtain ⟨E, K1, K21, aa, ae⟩ := hC; exact x_as (v := I 0) rfl) ?_
  refine d_nil ?_
  refine W.ret ?_
  exact ⟨_, (resE_ofn (vs := [Pz ag, ah, .agg (encB (staleF ws rev ((orderP ws).take k) (List.replicate 30 false))).toArray, I 0]) rfl rfl (.tmp (v := Pz ag) rfl <| .tmp (v := ah) rfl <| .cell (v := .agg (encB (staleF ws rev ((orderP ws).take k) (List.replicate 30 false))).toArray) rfl (run_loadVar_arr Ag141 Sz141 aB ac) <| .tmp (v := I 0) rfl <| .nil)), .inr ⟨(by rw [asked_list aC]; exact aA), ag, _, (by rw [staleL_done aw aK]), ⟨E, o_b11, ae⟩, (ax.kf K21).mono (frm_mono _ (by omega))⟩⟩
 simp only [qz1, qz2, qz3, qz4, qz5, qz6, ne_eq, qz7] at aF
 exact absurd aF (by decide)

end Go.Proofs.Ytndobgodeicloaa
end
section
set_option maxRecDepth 100000
set_option maxHeartbeats 16000000
namespace Go.Proofs.Ytndobgodeicloaa
open Go Go.Nm
theorem repeat_int {vx : Value} {x n : Int} (w : World) (hx : Sl w.cell? vx [x]) (h1 : 1 <= n) (h2 : n <= 1000) : Ret Try.prog 86 #[vx, I n] w fun v w' => OwnF w.heap.size 3 w' v (List.replicate (Int.toNat n) x) /\ Ext w w' := by
 refine ret_of_W Try.func86 rfl rfl rfl ?_
 have E := Ext.refl w
 have K1 := KF.refl 0 w
 have au := hx.len_le
 have hx := hx.par
 refine sQ rfl <| sA (.slice none 0 0) rfl <| s_nil <| W.seq <| sQ rfl <| sM (I n) rfl <| sC _ _ (decide ((n : Int) < 0)) rfl rfl rfl <| s_nil ?_
 refine W.cond (decide ((n : Int) < 0)) rfl (fun c2 => ?_) (fun c2 => ?_)
 ·simp only [qz1, qz2, qz3, qz4, qz5, qz6, ne_eq, qz7] at c2
  exfalso; omega
 simp only [qz1, qz2, qz3, qz4, qz5, qz6, ne_eq, qz7] at c2
 refine W.skip <| sQ rfl <| sM vx rfl <| s_val (x_lenS T34.und rfl (hx.to K1)) <| s_val (x_convU (kd := .i64) (a := ([x]).length) Try.underlying3 Try.underlying205 rfl (by omega)) <| sM (I n) rfl <| s_val (x_convU (kd := .i64) (a := n) Try.underlying3 Try.underlying205 rfl (by omega)) ?_
 refine s_call cf142 [.int .u64 (([x]).length), .int .u64 n] rfl (mul_any (by omega) (by omega) _) ?_
 rintro _ w3 ⟨rfl, x4⟩
 replace E := E.trans x4
 replace K1 := K1.ext x4
 clear x4
 refine sM (.tuple #[.int .u64 0, .int .u64 n]) rfl <| sX [.int .u64 0, .int .u64 n] (.int .u64 0) rfl rfl <| sX [.int .u64 0, .int .u64 n] (.int .u64 n) rfl rfl <| sA (.int .u64 0) rfl <| sA (.int .u64 n) rfl <| s_nil <| W.seq <| sQ rfl <| sM (.int .u64 0) rfl <| s_val (x_cmp (kd := .u64) (r := decide ((0 : Int) < 0)) rfl rfl rfl) <| sM (B (decide ((0 : Int) < 0))) rfl ?_
 refine g_val (!(decide ((0 : Int) < 0))) (gy_f rfl) (fun hg => x_mv (v := .int .u64 n) rfl) <| g_val (!(decide ((0 : Int) < 0))) (gy_f rfl) (fun hg => x_cmp (kd := .u64) (r := decide ((9223372036854775807 : Int) < n)) (gd_of hg (.int .u64 n)) rfl rfl) <| s_val (x_por (b := decide ((0 : Int) < 0)) (r := decide ((9223372036854775807 : Int) < n)) rfl rfl (fun hb => gd_of (c := !(decide ((0 : Int) < 0))) (by simp_all) (B (decide ((9223372036854775807 : Int) < n))))) <| s_nil ?_
 refine W.cond (((decide ((0 : Int) < 0)) || (decide ((9223372036854775807 : Int) < n)))) rfl (fun c5 => ?_) (fun c5 => ?_)
 ·skip
  exfalso; simp at c5; omega
 skip
 refine W.skip <| sQ rfl <| sM (.int .u64 n) rfl <| s_val (x_conv64 (kd := .u64) (a := n) Try.underlying205 Try.underlying3 rfl (by omega)) ?_
 refine s_mk (α := Int) T34 0 rfl (n := n) rfl rfl (by omega) (by omega) (by omega) ?_
 intro v6 w7 ho8 x9
 have aa := Nat.le_refl w3.heap.size
 have B_v6 := E.size
 have B_v6_K1 := K1.size
 replace E := E.trans x9
 replace aa := Nat.le_trans aa x9.size
 replace K1 := K1.ext x9
 refine sA v6 rfl <| s_nil <| sQ rfl <| sM v6 rfl <| sM vx rfl ?_
 refine s_copy (v := v6) (l := List.replicate (Int.toNat n) 0) (l2 := [x]) (o := 0) (vy := vx) T34 ((sufV_zero ho8 1).symm) rfl ho8 (by first | omega | (simp; done) | (simp; omega)) (hx.to K1) (Cells.Le.refl _) (by first | omega | (simp; done) | (simp; omega)) ?_
 intro av am ag
 replace E := E.grow ag (by omega)
 replace aa := Nat.le_trans aa ag.size
 replace K1 := K1.grow ag (by omega)
 replace ho8 := am
 clear ag
 refine sA (I ((min ([x]).length ((List.replicate (Int.toNat n) 0).length - 0) : Nat))) rfl <| s_nil <| W.seq <| W.block ?_
 refine W.loop (fun m σ W => ∃ (k : Nat) (l : List Int) (vo : Value) (ρ : Env), σ = upds ρ [(7, vo), (8, I k)] /\ m = Int.toNat n - k /\ Ext w W /\ w3.heap.size <= W.heap.size /\ OwnF w3.heap.size 3 W vo l /\ l.length = Int.toNat n /\ 1 <= k /\ k <= Int.toNat n /\ (∀ y ∈ l.take k, y = x)) ?_ ?_
 ·exact ⟨_, 1, ([x] ++ List.replicate (Int.toNat n - 1) 0), v6, _, upds_of _ _ ⟨rfl, (eqI (by simp; omega)), trivial⟩, rfl, E, aa, (by have hq := ho8; rw [rep_init (n := Int.toNat n) x (by omega)] at hq; exact hq), (by simp; omega), (Nat.le_refl _), (by omega), (by simp)⟩
 rintro m σ aw ⟨k, l, vo, ρ, rfl, rfl, E, aa, ac, ao, ax, ay, al⟩
 refine W.seq <| sQ rfl <| sM (I k) rfl <| sM vo rfl <| s_val (x_lenS T34.und rfl (ac.sl.mono (frm_le _ _))) <| sC _ _ (decide ((k : Int) < l.length)) rfl rfl rfl <| s_nil ?_
 refine W.cond (decide ((k : Int) < l.length)) rfl (fun ai => ?_) (fun ai => ?_)
 ·simp only [qz1, qz2, qz3, qz4, qz5, qz6, ne_eq, qz7] at ai
  refine W.skip <| W.block ?_
  refine W.draw (fun W => Ext w W) [(0, true), (1, true), (2, true), (3, true), (4, true), (5, true), (6, true), (7, false), (8, true), (9, true)] mixed (by decide +kernel) rfl ?_
  intro az ah
  replace E := E.trans ah
  replace aa := Nat.le_trans aa ah.size
  replace ac := ac.ext ah
  clear ah
  refine ⟨E, ?_⟩
  refine d_q rfl (fun w' hC => by have E := hC; exact x_mv (v := I k) rfl) ?_
  refine d_q rfl (fun w' hC => by have E := hC; exact x_mv (v := vo) rfl) ?_
  refine d_q rfl (fun w' hC => by have E := hC; exact x_mv (v := I k) rfl) ?_
  refine d_q rfl (fun w' hC => by have E := hC; exact x_sl (v := vo) (u := sufV 1 vo (Int.toNat k)) (lo' := some (I k)) (hi' := none) (mx' := none) rfl rfl rfl rfl (OwnF.suf (i := k) T34.und T34.size ac (by omega) (by omega) _)) ?_
  refine d_q rfl (fun w' hC => by have E := hC; exact x_mv (v := vo) rfl) ?_
  refine d_q rfl (fun w' hC => by have E := hC; exact x_mv (v := I k) rfl) ?_
  obtain ⟨aj, ap, ae⟩ := sl_hi T34.und T34.size ac.sl (j := k) (by omega) (by omega)
  replace ae := ae.mono (frm_le _ _)
  replace ae : Sl _ aj (l.take k) := ae
  refine d_q rfl (fun w' hC => by have E := hC; exact x_sl (v := vo) (u := aj) (lo' := none) (hi' := some (I k)) (mx' := none) rfl rfl rfl rfl (ap _)) ?_
  refine d_l rfl ?_
  refine s_copy (v := vo) (l := l) (l2 := l.take k) (o := (Int.toNat k)) (vy := aj) T34 rfl rfl ac (by first | omega | (simp; done) | (simp; omega)) ae (Cells.Le.refl _) (by first | omega | (simp; done) | (simp; omega)) ?_
  intro aA aq ak
  replace E := E.grow ak (by omega)
  replace aa := Nat.le_trans aa ak.size
  replace ac := aq
  clear ak
  refine s_nil ⟨E, ?_⟩
  refine d_q rfl (fun w' hC => by have E := hC; exact x_ari (r := k + ((min (l.take k).length ((l).length - (Int.toNat k)) : Nat))) rfl rfl rfl (by omega)) ?_
  refine d_q rfl (fun w' hC => by have E := hC; exact x_as (v := I (k + ((min (l.take k).length ((l).length - (Int.toNat k)) : Nat)))) rfl) ?_
  refine d_nil ?_
  have aB : (l.take k).length = k := by simp; omega
  exact ⟨_, (by omega), (k + min (l.take k).length (l.length - Int.toNat k)), _, vo, _, upds_of _ _ ⟨rfl, (eqI (by omega)), trivial⟩, rfl, E, aa, (by first | exact ac | simpa using ac), (by simp only [List.length_append, List.length_take, List.length_drop]; omega), (by omega), (by omega), (rep_step al (by omega))⟩
 simp only [qz1, qz2, qz3, qz4, qz5, qz6, ne_eq, qz7] at ai
 refine W.exit ?_
 refine sQ rfl <| sM vo rfl <| sA vo rfl <| s_nil ?_
 refine W.ret ?_
 exact ⟨_, resE_tmp rfl, ((rep_done ao al (by omega)) ▸ ac.dn (by omega)), E⟩

theorem ready_any {vw vd : Value} {ws : List Work} {ord : List Int} {st : List Bool} (w : World) (hw : Sl w.cell? vw ws) (hd : Sl w.cell? vd ord) (ax : st.length = 30) (hR : rightE ws = 0) (ao : ∀ x ∈ ord, 0 <= x /\ x < (ws.length : Int)) (hol : ord.length <= 30) : Ret Try.prog 99 #[vw, vd, .agg (encB st).toArray] w fun v w' => Sl (frm w' w.heap.size) v (readyL ws ord st) /\ Ext w w' := by
 refine ret_of_W Try.func99 rfl rfl rfl ?_
 have E := Ext.refl w
 have K1 := KF.refl 0 w
 have ay := hw.len_le
 have hw := hw.par
 have az := hd.len_le
 have hd := hd.par
 have aA := right_len hR
 refine sQ rfl ?_
 refine s_box (v := .agg (encB st).toArray) (cs := encB st) rfl rfl ?_
 intro b2 w3 Nb2
 have o_K1_b2 := Nat.le_trans K1.size Nb2.ge
 have o_b2 := Nat.le_trans E.size Nb2.ge
 replace E := E.trans Nb2.ext
 replace K1 := K1.ext Nb2.ext
 have aa := Nb2.same
 clear Nb2
 refine sA (.slice none 0 0) rfl <| s_nil <| sQ rfl ?_
 refine s_bsl (α := Int) T34 w3.heap.size [I (-1)] [(-1 : Int)] rfl (.cons rfl (Flat.rep_enc _ _) <| .nil) (Nat.le_refl _) rfl (by decide) (by decide) ?_
 intro u4 w5 au x7 nn_u4
 replace E := E.trans x7
 replace K1 := K1.ext x7
 replace aa := x7.get aa
 clear x7
 have K8 := KF.refl w3.heap.size w5
 refine sM vw rfl <| s_val (x_lenS T22.und rfl (hw.to K1)) ?_
 refine s_call cf86 [u4, I ws.length] rfl (repeat_int _ (au.to K8) (by omega) (by omega)) ?_
 rintro ap w9 ⟨aq, ah⟩
 have n_v11_b2 := aq.ne' (heap_lt aa)
 have ac := Nat.le_refl w5.heap.size
 have B_v11 := E.size
 have B_v11_K1 := K1.size
 have B_v11_K8 := K8.size
 replace E := E.trans ah
 replace ac := Nat.le_trans ac ah.size
 replace K1 := K1.ext ah
 replace K8 := K8.ext ah
 replace aa := ah.get aa
 clear ah
 refine sA ap rfl <| s_nil <| W.seq <| sQ rfl <| sM vd rfl <| s_val (x_lenS T34.und rfl (hd.to K1)) <| sM (I 0) rfl <| s_nil <| W.block ?_
 refine W.loop (fun m σ W => ∃ (k : Nat) (vo : Value) (ρ : Env), σ = upds ρ [(0, vw), (5, Pz b2), (7, vo), (17, vd), (18, I ord.length), (19, I k)] /\ m = ord.length - k /\ Ext w W /\ KF 0 w W /\ W.heap[b2]? = some (.cells (encB st).toArray 141 (0, 0)) /\ w5.heap.size <= W.heap.size /\ OwnF w5.heap.size 3 W vo (readyF ws st (ord.take k) (List.replicate ws.length (-1))) /\ vo.ownBlock ≠ some b2 /\ k <= ord.length) ?_ ?_
 ·exact ⟨_, 0, ap, _, upds_of _ _ ⟨rfl, rfl, rfl, rfl, rfl, (eqI (by omega)), trivial⟩, rfl, E, K1, aa, ac, aq, n_v11_b2, (Nat.zero_le _)⟩
 rintro m σ aB ⟨k, vo, ρ, rfl, rfl, E, K1, aa, ac, ae, n_vo_b2, av⟩
 have hbd := readyF_bound hR st (List.replicate ws.length (-1)) ord ao (fun y hy => by have := List.eq_of_mem_replicate hy; omega) k av
 have aC : (readyF ws st (ord.take k) (List.replicate ws.length (-1))).length = ws.length := by rw [readyF_len]; simp
 refine sQ rfl <| sC _ _ (decide ((k : Int) < ord.length)) rfl rfl rfl <| s_nil <| W.seq ?_
 refine W.cond (decide ((k : Int) < ord.length)) rfl (fun ag => ?_) (fun ag => ?_)
 ·simp only [qz1, qz2, qz3, qz4, qz5, qz6, ne_eq, qz7] at ag
  have hik := ao _ (getD_memN ord ag 0)
  have hof := right_of hR (i := (ord.getD k 0).toNat) (by omega)
  refine W.skip <| W.seq <| W.block <| sQ rfl <| s_val (x_ix (v := vat vd 1 (Int.toNat k)) rfl rfl (Sl.ix (α := Int) T34.und T34.size (hd.to K1) (by omega) (by omega))) <| s_val (x_ld (v := I (ord.getD k 0)) rfl (ld_sc Sc3 (At.to (Int_at hd (i := k) (by omega) (by omega)) K1))) <| sA (I (ord.getD k 0)) rfl <| s_nil <| W.seq <| sQ rfl ?_
  refine sM (I (ord.getD k 0)) rfl <| s_val (x_ix (v := .pointer (some ⟨b2, 0 + Int.toNat (ord.getD k 0), none⟩)) rfl rfl (run_indexArr Try.underlying141 Sz4 (by omega) (by omega))) <| s_val (x_ld (v := B (st.getD (Int.toNat (ord.getD k 0)) false)) rfl (ldArr Sc4 aa (by omega) (by omega))) <| s_val (x_not (b := st.getD (Int.toNat (ord.getD k 0)) false) rfl) <| s_nil ?_
  refine W.cond (!(st.getD (Int.toNat (ord.getD k 0)) false)) rfl (fun am => ?_) (fun am => ?_)
  ·skip
   refine W.exit ?_
   refine W.region rfl <| sR _ _ (k + 1) rfl rfl rfl (by omega) <| sM (I (k + 1)) rfl <| s_nil ?_
   exact ⟨_, (by omega), k+1, vo, _, upds_of _ _ ⟨rfl, rfl, rfl, rfl, rfl, (eqI (by omega)), trivial⟩, rfl, E, K1, aa, ac, (by rw [readyF_next ws st ord _ ag]; unfold readyStep; rw [if_neg (by simpa using am)]; exact ae), n_vo_b2, (by omega)⟩
  skip
  refine W.skip <| sQ rfl <| sA (I 0) rfl <| s_nil <| W.seq <| sQ rfl <| sM vw rfl <| sM (I (ord.getD k 0)) rfl <| s_val (x_ix (v := vat vw 3 (Int.toNat (ord.getD k 0))) rfl rfl (Sl.ix (α := Work) T22.und T22.size (hw.to K1) (by omega) (by omega))) <| s_val (x_fa (v := fat (vat vw 3 (Int.toNat (ord.getD k 0))) 0) rfl (fa_pl Fd60_0 Sz34 (Sl.pl (i := ord.getD k 0) hw (by omega) (by omega)))) ?_
  obtain ⟨al, aw, ai⟩ := Work_at0 hw (i := ord.getD k 0) (by omega) (by omega)
  replace ai : Sl _ al (ws.getD (Int.toNat (ord.getD k 0)) default).of := ai
  have aD := ai.len_le
  refine s_val (x_ld (v := al) rfl (ld_sc Sc34 (At.to aw K1))) <| s_val (x_lenS T34.und rfl (ai.to K1)) <| sM (I 0) rfl <| s_nil <| W.block ?_
  refine W.loop (fun m σ W => ∃ (j : Nat) (ρ : Env), σ = upds ρ [(0, vw), (5, Pz b2), (7, vo), (9, I (ord.getD k 0)), (10, I (begF (readyF ws st (ord.take k) (List.replicate ws.length (-1))) ((ws.getD (ord.getD k 0).toNat default).of.take j))), (17, vd), (18, I ord.length), (19, I k), (31, al), (32, I (((ws.getD (Int.toNat (ord.getD k 0)) default).of).length)), (33, I j)] /\ m = (ws.getD (ord.getD k 0).toNat default).of.length - j /\ Ext w W /\ KF 0 w W /\ W.heap[b2]? = some (.cells (encB st).toArray 141 (0, 0)) /\ w5.heap.size <= W.heap.size /\ OwnF w5.heap.size 3 W vo (readyF ws st (ord.take k) (List.replicate ws.length (-1))) /\ j <= (ws.getD (ord.getD k 0).toNat default).of.length) ?_ ?_
  ·exact ⟨_, 0, _, upds_of _ _ ⟨rfl, rfl, rfl, rfl, rfl, rfl, rfl, rfl, rfl, rfl, (eqI (by omega)), trivial⟩, rfl, E, K1, aa, ac, ae, (Nat.zero_le _)⟩
  rintro m σ aE ⟨j, ρ, rfl, rfl, E, K1, aa, ac, ae, aF⟩
  refine sQ rfl <| sC _ _ (decide ((j : Int) < (((ws.getD (Int.toNat (ord.getD k 0)) default).of).length))) rfl rfl rfl <| s_nil <| W.seq ?_
  refine W.cond (decide ((j : Int) < (((ws.getD (Int.toNat (ord.getD k 0)) default).of).length))) rfl (fun aj => ?_) (fun aj => ?_)
  ·simp only [qz1, qz2, qz3, qz4, qz5, qz6, ne_eq, qz7] at aj
   have hj := hof _ (getD_memN _ aj 0)
   refine W.skip <| W.seq <| W.block <| sQ rfl <| s_val (x_ix (v := vat al 1 (Int.toNat j)) rfl rfl (Sl.ix (α := Int) T34.und T34.size (ai.to K1) (by omega) (by omega))) <| s_val (x_ld (v := I (((ws.getD (Int.toNat (ord.getD k 0)) default).of).getD j 0)) rfl (ld_sc Sc3 (At.to (Int_at ai (i := j) (by omega) (by omega)) K1))) <| sA (I (((ws.getD (Int.toNat (ord.getD k 0)) default).of).getD j 0)) rfl <| s_nil <| W.region rfl <| sM (I (begF (readyF ws st (ord.take k) (List.replicate ws.length (-1))) ((ws.getD (ord.getD k 0).toNat default).of.take j))) rfl <| sM vo rfl ?_
   refine sM (I (((ws.getD (Int.toNat (ord.getD k 0)) default).of).getD j 0)) rfl <| s_val (x_ix (v := vat vo 1 (Int.toNat (((ws.getD (Int.toNat (ord.getD k 0)) default).of).getD j 0))) rfl rfl (Sl.ix (α := Int) T34.und T34.size (ae.sl.mono (frm_le _ _)) (by omega) (by omega))) <| s_val (x_ld (v := I ((readyF ws st (ord.take k) (List.replicate ws.length (-1))).getD (Int.toNat (((ws.getD (Int.toNat (ord.getD k 0)) default).of).getD j 0)) 0)) rfl (ld_sc Sc3 (At.up (Int_at ae.sl (i := ((ws.getD (Int.toNat (ord.getD k 0)) default).of).getD j 0) (by omega) (by omega))))) <| s_val (x_max (kd := .i64) (a := begF (readyF ws st (ord.take k) (List.replicate ws.length (-1))) ((ws.getD (ord.getD k 0).toNat default).of.take j)) (b := (readyF ws st (ord.take k) (List.replicate ws.length (-1))).getD (Int.toNat (((ws.getD (Int.toNat (ord.getD k 0)) default).of).getD j 0)) 0) rfl rfl) <| sA (I (max (begF (readyF ws st (ord.take k) (List.replicate ws.length (-1))) ((ws.getD (ord.getD k 0).toNat default).of.take j)) ((readyF ws st (ord.take k) (List.replicate ws.length (-1))).getD (Int.toNat (((ws.getD (Int.toNat (ord.getD k 0)) default).of).getD j 0)) 0))) rfl <| s_nil <| W.region rfl <| sR _ _ (j + 1) rfl rfl rfl (by omega) <| sM (I (j + 1)) rfl <| s_nil ?_
   exact ⟨_, (by omega), j+1, _, upds_of _ _ ⟨rfl, rfl, rfl, rfl, (eqI (begF_next _ _ aj).symm), rfl, rfl, rfl, rfl, rfl, (eqI (by omega)), trivial⟩, rfl, E, K1, aa, ac, ae, (by omega)⟩
  simp only [qz1, qz2, qz3, qz4, qz5, qz6, ne_eq, qz7] at aj
  have hbg := begF_le (readyF ws st (ord.take k) (List.replicate ws.length (-1))) ((ws.getD (ord.getD k 0).toNat default).of.take j) (10000 * (k : Int)) (by omega) (fun y hy => (hbd y hy).2)
  have aG := right_nums hR (i := (ord.getD k 0).toNat) (by omega)
  refine W.exit ?_
  refine W.region rfl <| sM vo rfl <| sM (I (ord.getD k 0)) rfl <| sM (I (begF (readyF ws st (ord.take k) (List.replicate ws.length (-1))) ((ws.getD (ord.getD k 0).toNat default).of.take j))) rfl <| sM vw rfl <| sM (I (ord.getD k 0)) rfl <| s_val (x_ix (v := vat vw 3 (Int.toNat (ord.getD k 0))) rfl rfl (Sl.ix (α := Work) T22.und T22.size (hw.to K1) (by omega) (by omega))) <| s_val (x_fa (v := fat (vat vw 3 (Int.toNat (ord.getD k 0))) 2) rfl (fa_pl Fd60_2 Sz3 (Sl.pl (i := ord.getD k 0) hw (by omega) (by omega)))) <| s_val (x_ld (v := I ((ws.getD (Int.toNat (ord.getD k 0)) default).minutes)) rfl (ld_sc Sc3 (At.to (Work_at2 hw (i := ord.getD k 0) (by omega) (by omega)) K1))) <| sR _ _ ((begF (readyF ws st (ord.take k) (List.replicate ws.length (-1))) ((ws.getD (ord.getD k 0).toNat default).of.take j)) + ((ws.getD (Int.toNat (ord.getD k 0)) default).minutes)) rfl rfl rfl (by omega) <| s_val (x_ix (v := vat vo 1 (Int.toNat (ord.getD k 0))) rfl rfl (Sl.ix (α := Int) T34.und T34.size (ae.sl.mono (frm_le _ _)) (by omega) (by omega))) ?_
  refine s_ost ae Sz3 (i := ord.getD k 0) (by omega) (by omega) ((begF (readyF ws st (ord.take k) (List.replicate ws.length (-1))) ((ws.getD (ord.getD k 0).toNat default).of.take j)) + ((ws.getD (Int.toNat (ord.getD k 0)) default).minutes) : Int) (val := I ((begF (readyF ws st (ord.take k) (List.replicate ws.length (-1))) ((ws.getD (ord.getD k 0).toNat default).of.take j)) + ((ws.getD (Int.toNat (ord.getD k 0)) default).minutes))) rfl rfl rfl ?_
  intro aH ho2 ak
  replace E := E.grow ak (by omega)
  replace ac := Nat.le_trans ac ak.size
  replace K1 := K1.grow ak (by omega)
  replace aa := ak.get n_vo_b2 aa
  replace ae := ho2
  clear ak
  refine s_nil <| W.region rfl <| sR _ _ (k + 1) rfl rfl rfl (by omega) <| sM (I (k + 1)) rfl <| s_nil ?_
  exact ⟨_, (by omega), k+1, vo, _, upds_of _ _ ⟨rfl, rfl, rfl, rfl, rfl, (eqI (by omega)), trivial⟩, rfl, E, K1, aa, ac, (by rw [readyF_next ws st ord _ ag]; unfold readyStep; rw [if_pos (by simpa using am), ← begF_done _ _ aj]; exact ae), n_vo_b2, (by omega)⟩
 simp only [qz1, qz2, qz3, qz4, qz5, qz6, ne_eq, qz7] at ag
 refine W.exit ?_
 refine sQ rfl <| sM vo rfl <| sA vo rfl <| s_nil ?_
 refine W.ret ?_
 exact ⟨_, resE_tmp rfl, (by have hq := (ae.dn (B' := w.heap.size) (by omega)).sl; rw [readyF_done _ _ _ _ ag] at hq; exact hq), E⟩

theorem Stale_any {vw vr : Value} {ws : List Work} {rev : List Int} (w : World) (hw : Sl w.cell? vw ws) (hr : Sl w.cell? vr rev) : Ret Try.prog 32 #[vw, vr] w fun v w' => ∃ u, v = .tuple #[u, I (askedE ws rev)] /\ Sl (frm w' w.heap.size) u (staleR ws rev) /\ Ext w w' := by
 refine ret_of_W Try.func32 rfl rfl rfl ?_
 have E := Ext.refl w
 have K1 := KF.refl 0 w
 have aI := hw.len_le
 have hw := hw.par
 have aJ := hr.len_le
 have hr := hr.par
 refine sQ rfl <| sA (.slice none 0 0) rfl <| sA (I 0) rfl <| s_nil <| sQ rfl <| sM vw rfl <| sM vr rfl ?_
 refine s_call cf92 [vw, vr] rfl (asked_any _ (hw.to K1) (hr.to K1)) ?_
 rintro _ w2 (⟨h4, rfl, x5⟩ | ⟨h6, b7, so8, rfl, n9, aA⟩)
 ·replace E := E.trans x5
  replace K1 := K1.ext x5
  refine sM (.tuple #[.pointer none, .slice none 0 0, .agg (encB (List.replicate 30 false)).toArray, I (askedE ws rev)]) rfl <| sX [.pointer none, .slice none 0 0, .agg (encB (List.replicate 30 false)).toArray, I (askedE ws rev)] (.pointer none) rfl rfl <| sX [.pointer none, .slice none 0 0, .agg (encB (List.replicate 30 false)).toArray, I (askedE ws rev)] (.slice none 0 0) rfl rfl <| sX [.pointer none, .slice none 0 0, .agg (encB (List.replicate 30 false)).toArray, I (askedE ws rev)] (.agg (encB (List.replicate 30 false)).toArray) rfl rfl <| sX [.pointer none, .slice none 0 0, .agg (encB (List.replicate 30 false)).toArray, I (askedE ws rev)] (I (askedE ws rev)) rfl rfl ?_
  refine s_alloc (cs := encB (List.replicate 30 false)) Al141 rfl ?_
  intro al aK Nb11
  have o_K1_b11 := Nat.le_trans K1.size Nb11.ge
  have o_b11 := Nat.le_trans E.size Nb11.ge
  replace E := E.trans Nb11.ext
  replace K1 := K1.ext Nb11.ext
  have ai := Nb11.same
  clear Nb11
  have aB : (List.replicate 30 false).length = 30 := by simp
  refine sA (.pointer none) rfl <| sA (.slice none 0 0) rfl ?_
  refine s_stArrA (b := al) (l := List.replicate 30 false) (l' := List.replicate 30 false) rfl rfl Sz141 ai aB (List.length_replicate) ?_
  intro aL ao
  replace E := E.put (by omega) ao
  replace K1 := K1.put ao (by omega)
  replace ai := ao.same
  clear ao
  refine sA (I (askedE ws rev)) rfl <| s_nil <| sQ rfl <| sA (.slice none 0 0) rfl <| s_nil <| W.seq <| sQ rfl <| sM vw rfl <| s_val (x_lenS T22.und rfl (hw.to K1)) <| sM (I 0) rfl ?_
  refine s_nil <| W.block ?_
  refine W.loop (fun m σ W => ∃ (i : Nat) (ρ : Env), σ = upds ρ [(8, Pz al), (9, I (askedE ws rev)), (10, .slice none 0 0), (21, I ws.length), (22, I i)] /\ m = ws.length - i /\ Ext w W /\ W.heap[al]? = some (.cells (encB (List.replicate 30 false)).toArray 141 (0, 0)) /\ i <= ws.length) ?_ ?_
  ·exact ⟨_, 0, _, upds_of _ _ ⟨rfl, rfl, rfl, rfl, (eqI (by omega)), trivial⟩, rfl, E, ai, (Nat.zero_le _)⟩
  rintro m σ aM ⟨i, ρ, rfl, rfl, E, ai, aN⟩
  refine sQ rfl <| sC _ _ (decide ((i : Int) < ws.length)) rfl rfl rfl <| s_nil <| W.seq ?_
  refine W.cond (decide ((i : Int) < ws.length)) rfl (fun aq => ?_) (fun aq => ?_)
  ·simp only [qz1, qz2, qz3, qz4, qz5, qz6, ne_eq, qz7] at aq
   refine W.skip <| W.seq <| W.block <| sQ rfl <| sM (I i) rfl <| sA (I i) rfl <| s_nil <| sQ rfl <| sM (I (askedE ws rev)) rfl <| sC _ _ ((askedE ws rev : Int) == 0) rfl rfl rfl ?_
   refine sM (B ((askedE ws rev : Int) == 0)) rfl <| g_val ((askedE ws rev : Int) == 0) (gy_t rfl) (fun hg => x_mv (v := I i) rfl) <| g_val ((askedE ws rev : Int) == 0) (gy_t rfl) (fun hg => x_ix (v := .pointer (some ⟨al, 0 + Int.toNat i, none⟩)) rfl (gd_of hg (I i)) (run_indexArr Try.underlying141 Sz4 (by first | omega | (simp at hg; omega)) (by first | omega | (simp at hg; omega)))) <| g_val ((askedE ws rev : Int) == 0) (gy_t rfl) (fun hg => x_ld (v := B ((List.replicate 30 false).getD i false)) (gd_of hg (.pointer (some ⟨al, 0 + Int.toNat i, none⟩))) (ldArr Sc4 ai (by first | omega | (simp at hg; omega) | (simp [inB] at hg; omega)) (by first | omega | (simp at hg; omega) | (simp [inB] at hg; omega)))) <| s_val (x_pand (b := (askedE ws rev : Int) == 0) (r := (List.replicate 30 false).getD i false) rfl (fun hb => gd_of (c := (askedE ws rev : Int) == 0) (by simp_all) (B ((List.replicate 30 false).getD i false))) rfl) <| s_nil ?_
   refine W.cond ((((askedE ws rev : Int) == 0) && ((List.replicate 30 false).getD i false))) rfl (fun ax => ?_) (fun ax => ?_)
   ·skip
    simp [h4] at ax
   skip
   refine W.skip <| W.region rfl <| sR _ _ (i + 1) rfl rfl rfl (by omega) <| sM (I (i + 1)) rfl <| s_nil ?_
   exact ⟨_, (by omega), i+1, _, upds_of _ _ ⟨rfl, rfl, rfl, rfl, (eqI (by omega)), trivial⟩, rfl, E, ai, (by omega)⟩
  simp only [qz1, qz2, qz3, qz4, qz5, qz6, ne_eq, qz7] at aq
  refine W.exit ?_
  refine sQ rfl <| sM (.slice none 0 0) rfl <| sM (I (askedE ws rev)) rfl <| sA (.slice none 0 0) rfl <| sA (I (askedE ws rev)) rfl <| s_nil ?_
  refine W.ret ?_
  exact ⟨_, resE_tmp2 rfl, .slice none 0 0, rfl, (by rw [staleR_no h4]; exact Sl.nil _), E⟩
 have hO := (asked_ok h6).1
 have hR := opened_right hO
 have aO := (right_len hR).2
 have hn1 := (right_len hR).1
 have aP := staleL_len ws rev
 have sz_w2 := E.size
 have o_K1_b7 := Nat.le_trans K1.size n9.ge
 have o_b7 := Nat.le_trans E.size n9.ge
 replace E := E.trans n9.ext
 replace K1 := K1.ext n9.ext
 have aa := n9.same
 clear n9
 have aQ := aA.len_le
 have K18 := KF.refl w.heap.size w2
 refine sM (.tuple #[Pz b7, so8, .agg (encB (staleL ws rev)).toArray, I 0]) rfl <| sX [Pz b7, so8, .agg (encB (staleL ws rev)).toArray, I 0] (Pz b7) rfl rfl <| sX [Pz b7, so8, .agg (encB (staleL ws rev)).toArray, I 0] so8 rfl rfl <| sX [Pz b7, so8, .agg (encB (staleL ws rev)).toArray, I 0] (.agg (encB (staleL ws rev)).toArray) rfl rfl <| sX [Pz b7, so8, .agg (encB (staleL ws rev)).toArray, I 0] (I 0) rfl rfl ?_
 refine s_alloc (cs := encB (List.replicate 30 false)) Al141 rfl ?_
 intro ag aR Nb19
 have o_K1_b19 := Nat.le_trans K1.size Nb19.ge
 have o_K18_b19 := Nat.le_trans K18.size Nb19.ge
 have o_b19 := Nat.le_trans E.size Nb19.ge
 have o_b7_b19 := Nat.lt_of_lt_of_le (heap_lt aa) Nb19.ge
 replace E := E.trans Nb19.ext
 replace K1 := K1.ext Nb19.ext
 replace K18 := K18.ext Nb19.ext
 replace aa := Nb19.ext.get aa
 have ac := Nb19.same
 clear Nb19
 have aC : (List.replicate 30 false).length = 30 := by simp
 refine sA (Pz b7) rfl <| sA so8 rfl ?_
 refine s_stArrA (b := ag) (l := List.replicate 30 false) (l' := staleL ws rev) rfl rfl Sz141 ac aC (staleL_len ws rev) ?_
 intro au aj
 replace E := E.put (by omega) aj
 replace K1 := K1.put aj (by omega)
 replace K18 := K18.put aj (by omega)
 replace aa := aj.get (by omega) aa
 replace ac := aj.same
 clear aj
 refine sA (I 0) rfl <| s_nil <| sQ rfl <| sA (.slice none 0 0) rfl <| s_nil <| W.seq <| sQ rfl <| sM vw rfl <| s_val (x_lenS T22.und rfl (hw.to K1)) <| sM (I 0) rfl ?_
 refine s_nil <| W.block ?_
 have ae := Nat.le_refl au.heap.size
 have B_vo := E.size
 have B_vo_K1 := K1.size
 have B_vo_K18 := K18.size
 have B_vo_b7 := heap_lt aa
 have B_vo_b19 := heap_lt ac
 refine W.loop (fun m σ W => ∃ (i : Nat) (vo : Value) (ρ : Env), σ = upds ρ [(8, Pz ag), (9, I 0), (10, vo), (21, I ws.length), (22, I i)] /\ m = ws.length - i /\ Ext w W /\ KF 0 w W /\ W.heap[b7]? = some (.cells #[vw] 187 (0, 0)) /\ W.heap[ag]? = some (.cells (encB (staleL ws rev)).toArray 141 (0, 0)) /\ au.heap.size <= W.heap.size /\ OwnF au.heap.size 3 W vo (stT ws rev i) /\ vo.ownBlock ≠ some b7 /\ vo.ownBlock ≠ some ag /\ i <= ws.length) ?_ ?_
 ·exact ⟨_, 0, .slice none 0 0, _, upds_of _ _ ⟨rfl, rfl, rfl, rfl, (eqI (by omega)), trivial⟩, rfl, E, K1, aa, ac, ae, (OwnF.nil _ _ _), by simp [Value.ownBlock], by simp [Value.ownBlock], (Nat.zero_le _)⟩
 rintro m σ ay ⟨i, vo, ρ, rfl, rfl, E, K1, aa, ac, ae, am, n_vo_b7, n_vo_b19, aD⟩
 have aS := stT_len ws rev i
 refine sQ rfl <| sC _ _ (decide ((i : Int) < ws.length)) rfl rfl rfl <| s_nil <| W.seq ?_
 refine W.cond (decide ((i : Int) < ws.length)) rfl (fun ap => ?_) (fun ap => ?_)
 ·simp only [qz1, qz2, qz3, qz4, qz5, qz6, ne_eq, qz7] at ap
  refine W.skip <| W.seq <| W.block <| sQ rfl <| sM (I i) rfl <| sA (I i) rfl <| s_nil <| sQ rfl <| sM (I 0) rfl <| sC _ _ ((0 : Int) == 0) rfl rfl rfl ?_
  refine sM (B ((0 : Int) == 0)) rfl <| g_val ((0 : Int) == 0) (gy_t rfl) (fun hg => x_mv (v := I i) rfl) <| g_val ((0 : Int) == 0) (gy_t rfl) (fun hg => x_ix (v := .pointer (some ⟨ag, 0 + Int.toNat i, none⟩)) rfl (gd_of hg (I i)) (run_indexArr Try.underlying141 Sz4 (by first | omega | (simp at hg; omega)) (by first | omega | (simp at hg; omega)))) <| g_val ((0 : Int) == 0) (gy_t rfl) (fun hg => x_ld (v := B ((staleL ws rev).getD i false)) (gd_of hg (.pointer (some ⟨ag, 0 + Int.toNat i, none⟩))) (ldArr Sc4 ac (by first | omega | (simp at hg; omega) | (simp [inB] at hg; omega)) (by first | omega | (simp at hg; omega) | (simp [inB] at hg; omega)))) <| s_val (x_pand (b := (0 : Int) == 0) (r := (staleL ws rev).getD i false) rfl (fun hb => gd_of (c := (0 : Int) == 0) (by simp_all) (B ((staleL ws rev).getD i false))) rfl) <| s_nil ?_
  refine W.cond ((((0 : Int) == 0) && ((staleL ws rev).getD i false))) rfl (fun av => ?_) (fun av => ?_)
  ·skip
   refine W.region rfl <| sM vo rfl <| sM (I i) rfl ?_
   refine s_bsl (α := Int) T34 ay.heap.size [I i] [(i : Int)] rfl (.cons rfl (Flat.rep_enc _ _) <| .nil) (Nat.le_refl _) rfl (by decide) (by decide) ?_
   intro aE aF aG ah nn_u27
   replace E := E.trans ah
   replace ae := Nat.le_trans ae ah.size
   replace K1 := K1.ext ah
   replace aa := ah.get aa
   replace ac := ah.get ac
   replace am := am.ext ah
   clear ah
   have K31 := KF.refl ay.heap.size aF
   refine s_app (α := Int) (v := vo) (vy := aE) (l := stT ws rev i) (l2 := [(i : Int)]) T34 rfl rfl am (aG.to K31) (Cells.Le.refl _) ae (by first | omega | (simp only [List.length_append, List.length_cons, List.length_nil, List.length_set]; omega)) (by first | omega | (simp only [List.length_append, List.length_cons, List.length_nil, List.length_set]; omega)) ?_
   intro az aT aH ak aw
   have n_v32_b19 := aw ag (heap_lt ac) n_vo_b19
   have n_v32_b7 := aw b7 (heap_lt aa) n_vo_b7
   replace E := E.grow ak (by omega)
   replace ae := Nat.le_trans ae ak.size
   replace K1 := K1.grow ak (by omega)
   replace aa := ak.get n_vo_b7 aa
   replace ac := ak.get n_vo_b19 ac
   clear ak aw
   refine sA az rfl <| s_nil <| W.region rfl <| sR _ _ (i + 1) rfl rfl rfl (by omega) <| sM (I (i + 1)) rfl <| s_nil ?_
   exact ⟨_, (by omega), i+1, az, _, upds_of _ _ ⟨rfl, rfl, rfl, rfl, (eqI (by omega)), trivial⟩, rfl, E, K1, aa, ac, ae, (by rw [stT_next, if_pos (by simpa using av)]; exact aH), n_v32_b7, n_v32_b19, (by omega)⟩
  skip
  refine W.skip <| W.region rfl <| sR _ _ (i + 1) rfl rfl rfl (by omega) <| sM (I (i + 1)) rfl <| s_nil ?_
  exact ⟨_, (by omega), i+1, vo, _, upds_of _ _ ⟨rfl, rfl, rfl, rfl, (eqI (by omega)), trivial⟩, rfl, E, K1, aa, ac, ae, (by rw [stT_next, if_neg (by simpa using av)]; exact am), n_vo_b7, n_vo_b19, (by omega)⟩
 simp only [qz1, qz2, qz3, qz4, qz5, qz6, ne_eq, qz7] at ap
 refine W.exit ?_
 refine sQ rfl <| sM vo rfl <| sM (I 0) rfl <| sA vo rfl <| sA (I 0) rfl <| s_nil ?_
 refine W.ret ?_
 exact ⟨_, resE_tmp2 rfl, vo, (by rw [h6]; rfl), (by have hq := (am.dn (B' := w.heap.size) (by omega)).sl; rw [staleR_ok h6 ap aD] at hq; exact hq), E⟩

theorem Ready_any {vw vr : Value} {ws : List Work} {rev : List Int} (w : World) (hw : Sl w.cell? vw ws) (hr : Sl w.cell? vr rev) : Ret Try.prog 36 #[vw, vr] w fun v w' => ∃ u, v = .tuple #[u, I (askedE ws rev)] /\ Sl (frm w' w.heap.size) u (readyR ws rev) /\ Ext w w' := by
 refine ret_of_W Try.func36 rfl rfl rfl ?_
 have E := Ext.refl w
 have K1 := KF.refl 0 w
 have ay := hw.len_le
 have hw := hw.par
 have az := hr.len_le
 have hr := hr.par
 refine sQ rfl <| sA (.slice none 0 0) rfl <| sA (I 0) rfl <| s_nil <| sQ rfl <| sM vw rfl <| sM vr rfl ?_
 refine s_call cf92 [vw, vr] rfl (asked_any _ (hw.to K1) (hr.to K1)) ?_
 rintro _ w2 (⟨h4, rfl, x5⟩ | ⟨h6, b7, so8, rfl, n9, ak⟩)
 ·replace E := E.trans x5
  replace K1 := K1.ext x5
  refine sM (.tuple #[.pointer none, .slice none 0 0, .agg (encB (List.replicate 30 false)).toArray, I (askedE ws rev)]) rfl <| sX [.pointer none, .slice none 0 0, .agg (encB (List.replicate 30 false)).toArray, I (askedE ws rev)] (.pointer none) rfl rfl <| sX [.pointer none, .slice none 0 0, .agg (encB (List.replicate 30 false)).toArray, I (askedE ws rev)] (.slice none 0 0) rfl rfl <| sX [.pointer none, .slice none 0 0, .agg (encB (List.replicate 30 false)).toArray, I (askedE ws rev)] (.agg (encB (List.replicate 30 false)).toArray) rfl rfl <| sX [.pointer none, .slice none 0 0, .agg (encB (List.replicate 30 false)).toArray, I (askedE ws rev)] (I (askedE ws rev)) rfl rfl ?_
  refine s_alloc (cs := encB (List.replicate 30 false)) Al141 rfl ?_
  intro ap aA Nb11
  have o_K1_b11 := Nat.le_trans K1.size Nb11.ge
  have o_b11 := Nat.le_trans E.size Nb11.ge
  replace E := E.trans Nb11.ext
  replace K1 := K1.ext Nb11.ext
  have al := Nb11.same
  clear Nb11
  have aq : (List.replicate 30 false).length = 30 := by simp
  refine sA (.pointer none) rfl <| sA (.slice none 0 0) rfl ?_
  refine s_stArrA (b := ap) (l := List.replicate 30 false) (l' := List.replicate 30 false) rfl rfl Sz141 al aq (List.length_replicate) ?_
  intro aB ah
  replace E := E.put (by omega) ah
  replace K1 := K1.put ah (by omega)
  replace al := ah.same
  clear ah
  refine sA (I (askedE ws rev)) rfl <| s_nil <| W.seq <| sQ rfl <| sM (I (askedE ws rev)) rfl <| sC _ _ ((askedE ws rev : Int) != 0) rfl rfl rfl <| s_nil ?_
  refine W.cond ((askedE ws rev : Int) != 0) rfl (fun ai => ?_) (fun ai => ?_)
  ·simp only [qz1, qz2, qz3, qz4, qz5, qz6, ne_eq, qz7] at ai
   refine sQ rfl <| sM (I (askedE ws rev)) rfl <| sA (.slice none 0 0) rfl <| sA (I (askedE ws rev)) rfl <| s_nil ?_
   refine W.ret ?_
   exact ⟨_, resE_tmp2 rfl, .slice none 0 0, rfl, (by rw [readyR_no h4]; exact Sl.nil _), E⟩
  simp only [qz1, qz2, qz3, qz4, qz5, qz6, ne_eq, qz7] at ai
  exact absurd ai h4
 have hO := (asked_ok h6).1
 have hR := opened_right hO
 have aC := (right_len hR).2
 have hn1 := (right_len hR).1
 have aD := staleL_len ws rev
 have sz_w2 := E.size
 have o_K1_b7 := Nat.le_trans K1.size n9.ge
 have o_b7 := Nat.le_trans E.size n9.ge
 replace E := E.trans n9.ext
 replace K1 := K1.ext n9.ext
 have aa := n9.same
 clear n9
 have aE := ak.len_le
 have K16 := KF.refl w.heap.size w2
 refine sM (.tuple #[Pz b7, so8, .agg (encB (staleL ws rev)).toArray, I 0]) rfl <| sX [Pz b7, so8, .agg (encB (staleL ws rev)).toArray, I 0] (Pz b7) rfl rfl <| sX [Pz b7, so8, .agg (encB (staleL ws rev)).toArray, I 0] so8 rfl rfl <| sX [Pz b7, so8, .agg (encB (staleL ws rev)).toArray, I 0] (.agg (encB (staleL ws rev)).toArray) rfl rfl <| sX [Pz b7, so8, .agg (encB (staleL ws rev)).toArray, I 0] (I 0) rfl rfl ?_
 refine s_alloc (cs := encB (List.replicate 30 false)) Al141 rfl ?_
 intro au aF Nb17
 have o_K1_b17 := Nat.le_trans K1.size Nb17.ge
 have o_K16_b17 := Nat.le_trans K16.size Nb17.ge
 have o_b17 := Nat.le_trans E.size Nb17.ge
 have o_b7_b17 := Nat.lt_of_lt_of_le (heap_lt aa) Nb17.ge
 replace E := E.trans Nb17.ext
 replace K1 := K1.ext Nb17.ext
 replace K16 := K16.ext Nb17.ext
 replace aa := Nb17.ext.get aa
 have ac := Nb17.same
 clear Nb17
 have av : (List.replicate 30 false).length = 30 := by simp
 refine sA (Pz b7) rfl <| sA so8 rfl ?_
 refine s_stArrA (b := au) (l := List.replicate 30 false) (l' := staleL ws rev) rfl rfl Sz141 ac av (staleL_len ws rev) ?_
 intro aw ae
 replace E := E.put (by omega) ae
 replace K1 := K1.put ae (by omega)
 replace K16 := K16.put ae (by omega)
 replace aa := ae.get (by omega) aa
 replace ac := ae.same
 clear ae
 refine sA (I 0) rfl <| s_nil <| W.seq <| sQ rfl <| sM (I 0) rfl <| sC _ _ ((0 : Int) != 0) rfl rfl rfl <| s_nil ?_
 refine W.cond ((0 : Int) != 0) rfl (fun aj => ?_) (fun aj => ?_)
 ·simp only [qz1, qz2, qz3, qz4, qz5, qz6, ne_eq, qz7] at aj
  exact absurd aj (by decide)
 simp only [qz1, qz2, qz3, qz4, qz5, qz6, ne_eq, qz7] at aj
 refine W.skip <| sQ rfl <| sM vw rfl <| sM so8 rfl <| s_val (x_ld (v := .agg (encB (staleL ws rev)).toArray) rfl (ldArrA Ag141 Sz141 (staleL_len ws rev) ac)) ?_
 refine s_call cf99 [vw, so8, .agg (encB (staleL ws rev)).toArray] rfl (ready_any _ (hw.to K1) (ak.to K16) (staleL_len ws rev) hR (order_rng _) (by have := order_len ws; omega)) ?_
 have sz_w22 := E.size
 have lt_b7_w22 := heap_lt aa
 have lt_b17_w22 := heap_lt ac
 rintro am ax ⟨ao, ag⟩
 replace E := E.trans ag
 replace K1 := K1.ext ag
 replace K16 := K16.ext ag
 replace aa := ag.get aa
 replace ac := ag.get ac
 clear ag
 have aG := ao.len_le
 have K26 := KF.refl aw.heap.size ax
 refine sA am rfl <| sA (I 0) rfl <| s_nil ?_
 refine W.ret ?_
 exact ⟨_, resE_tmp2 rfl, am, (by rw [h6]; rfl), (by have hq := (ao.kf K26).mono (frm_mono _ (lo' := w.heap.size) (by omega)); rw [readyR_ok h6] at hq; exact hq), E⟩

end Go.Proofs.Ytndobgodeicloaa
end
section
set_option maxRecDepth 100000
set_option maxHeartbeats 16000000
namespace Go.Proofs.Ytndobgodeicloaa
open Go Go.Nm
end Go.Proofs.Ytndobgodeicloaa
end
section
set_option maxRecDepth 100000
set_option maxHeartbeats 16000000
namespace Go.Proofs.Ytndobgodeicloaa
open Go Go.Nm
end Go.Proofs.Ytndobgodeicloaa
end
section
set_option maxRecDepth 100000
set_option maxHeartbeats 16000000
namespace Go.Proofs.Ytndobgodeicloaa
open Go Go.Nm
end Go.Proofs.Ytndobgodeicloaa
end
section
set_option maxRecDepth 100000
set_option maxHeartbeats 16000000
namespace Go.Proofs.Ytndobgodeicloaa
open Go Go.Nm
theorem copy_int {vl : Value} {l : List Int} (w : World) (hl : Sl w.cell? vl l) (aa : l.length <= 1000000) : Ret Try.prog 31 #[vl] w fun v w' => OwnF w.heap.size 3 w' v l /\ Ext w w' := by
 refine ret_of_W Try.func31 rfl rfl rfl ?_
 have E := Ext.refl w
 have K1 := KF.refl 0 w
 have ac := hl.len_le
 have hl := hl.par
 refine sQ rfl <| sA (.slice none 0 0) rfl <| s_nil <| sQ rfl <| sA (.slice none 0 0) rfl <| s_nil <| sQ rfl <| sM (.slice none 0 0) rfl <| sM vl rfl ?_
 refine s_app (α := Int) (v := .slice none 0 0) (vy := vl) (l := []) (l2 := l) T34 rfl rfl (OwnF.nil w.heap.size 3 w) (hl.to K1) (Cells.Le.refl _) (Nat.le_refl _) (by first | omega | (simp only [List.length_append, List.length_cons, List.length_nil, List.length_set]; omega)) (by first | omega | (simp only [List.length_append, List.length_cons, List.length_nil, List.length_set]; omega)) ?_
 intro v2 w3 ho4 g5 ne6
 have g5x : Ext w w3 := (Ext.refl _).grow g5 (Nat.le_refl _)
 have z7 := Nat.le_refl w.heap.size
 have B_v2 := E.size
 have B_v2_K1 := K1.size
 replace E := E.trans g5x
 replace z7 := Nat.le_trans z7 g5x.size
 replace K1 := K1.ext g5x
 simp only [List.nil_append] at ho4
 refine sA v2 rfl <| s_nil ?_
 refine W.ret ?_
 exact ⟨_, resE_tmp rfl, (ho4.dn (by omega)), E⟩

end Go.Proofs.Ytndobgodeicloaa
end
section
set_option maxRecDepth 100000
set_option maxHeartbeats 16000000
namespace Go.Proofs.Ytndobgodeicloaa
open Go Go.Nm
theorem same_int {va vb : Value} {a b : List Int} (w : World) (ha : Sl w.cell? va a) (hb : Sl w.cell? vb b) : Ret Try.prog 25 #[va, vb] w fun v w' => v = B (decide (a = b)) /\ Ext w w' := by
 refine ret_of_W Try.func25 rfl rfl rfl ?_
 have E := Ext.refl w
 have K1 := KF.refl 0 w
 have ac := ha.len_le
 have ha := ha.par
 have ae := hb.len_le
 have hb := hb.par
 refine sQ rfl <| sA (B false) rfl <| s_nil <| W.seq <| sQ rfl <| sM va rfl <| s_val (x_lenS T34.und rfl (ha.to K1)) <| sM vb rfl <| s_val (x_lenS T34.und rfl (hb.to K1)) <| sC _ _ ((a.length : Int) != b.length) rfl rfl rfl ?_
 refine s_nil ?_
 refine W.cond ((a.length : Int) != b.length) rfl (fun c2 => ?_) (fun c2 => ?_)
 ·simp only [qz1, qz2, qz3, qz4, qz5, qz6, ne_eq, qz7] at c2
  refine sQ rfl <| sA (B false) rfl <| s_nil ?_
  refine W.ret ?_
  exact ⟨_, resE_tmp rfl, (eqB (same_len c2)), E⟩
 simp only [qz1, qz2, qz3, qz4, qz5, qz6, ne_eq, qz7] at c2
 refine W.skip <| W.seq <| sQ rfl <| sA (I 0) rfl <| s_nil <| W.block ?_
 refine W.loop (fun m σ W => ∃ (k : Nat) (ρ : Env), σ = upds ρ [(0, va), (1, vb), (5, I k)] /\ m = a.length - k /\ Ext w W /\ KF 0 w W /\ k <= a.length /\ a.take k = b.take k) ?_ ?_
 ·exact ⟨_, 0, _, upds_of _ _ ⟨rfl, rfl, (eqI (by omega)), trivial⟩, rfl, E, K1, (Nat.zero_le _), rfl⟩
 rintro m σ w3 ⟨k, ρ, rfl, rfl, E, K1, ag, aa⟩
 refine W.seq <| sQ rfl <| sM (I k) rfl <| sM va rfl <| s_val (x_lenS T34.und rfl (ha.to K1)) <| sC _ _ (decide ((k : Int) < a.length)) rfl rfl rfl <| s_nil ?_
 refine W.cond (decide ((k : Int) < a.length)) rfl (fun c4 => ?_) (fun c4 => ?_)
 ·simp only [qz1, qz2, qz3, qz4, qz5, qz6, ne_eq, qz7] at c4
  refine W.skip <| W.seq <| W.block <| W.seq ?_
  refine W.draw (fun W => Ext w W /\ KF 0 w W) [(0, true), (1, true), (2, true), (3, true), (4, true), (5, true), (6, true), (7, true), (8, true)] mixed (by decide +kernel) rfl ?_
  intro w5 x6
  replace E := E.trans x6
  replace K1 := K1.ext x6
  clear x6
  refine ⟨⟨E, K1⟩, ?_⟩
  refine d_q rfl (fun w' hC => by obtain ⟨E, K1⟩ := hC; exact x_mv (v := va) rfl) ?_
  refine d_q rfl (fun w' hC => by obtain ⟨E, K1⟩ := hC; exact x_mv (v := I k) rfl) ?_
  refine d_q rfl (fun w' hC => by obtain ⟨E, K1⟩ := hC; exact x_ix (v := vat va 1 (Int.toNat k)) rfl rfl (Sl.ix (α := Int) T34.und T34.size (ha.to K1) (by omega) (by omega))) ?_
  refine d_q rfl (fun w' hC => by obtain ⟨E, K1⟩ := hC; exact x_ld (v := I (a.getD k 0)) rfl (ld_sc Sc3 (At.to (Int_at ha (i := k) (by omega) (by omega)) K1))) ?_
  refine d_q rfl (fun w' hC => by obtain ⟨E, K1⟩ := hC; exact x_mv (v := vb) rfl) ?_
  refine d_q rfl (fun w' hC => by obtain ⟨E, K1⟩ := hC; exact x_mv (v := I k) rfl) ?_
  refine d_q rfl (fun w' hC => by obtain ⟨E, K1⟩ := hC; exact x_ix (v := vat vb 1 (Int.toNat k)) rfl rfl (Sl.ix (α := Int) T34.und T34.size (hb.to K1) (by omega) (by omega))) ?_
  refine d_q rfl (fun w' hC => by obtain ⟨E, K1⟩ := hC; exact x_ld (v := I (b.getD k 0)) rfl (ld_sc Sc3 (At.to (Int_at hb (i := k) (by omega) (by omega)) K1))) ?_
  refine d_q rfl (fun w' hC => by obtain ⟨E, K1⟩ := hC; exact x_cmp (kd := .i64) (r := (a.getD k 0 : Int) != (b.getD k 0)) rfl rfl rfl) ?_
  refine d_nil ?_
  refine W.cond ((a.getD k 0 : Int) != (b.getD k 0)) rfl (fun c7 => ?_) (fun c7 => ?_)
  ·simp only [qz1, qz2, qz3, qz4, qz5, qz6, ne_eq, qz7] at c7
   refine sQ rfl <| sA (B false) rfl <| s_nil ?_
   refine W.ret ?_
   exact ⟨_, resE_tmp rfl, (eqB (same_ne (k := k) (0 : Int) c7)), E⟩
  simp only [qz1, qz2, qz3, qz4, qz5, qz6, ne_eq, qz7] at c7
  refine W.skip <| W.region rfl <| sM (I k) rfl <| sR _ _ (k + 1) rfl rfl rfl (by omega) <| sA (I (k + 1)) rfl <| s_nil ?_
  exact ⟨_, (by omega), k+1, _, upds_of _ _ ⟨rfl, rfl, (eqI (by omega)), trivial⟩, rfl, E, K1, (by omega), (same_step (0 : Int) (by omega) c4 aa (by first | omega | (simpa using c7)))⟩
 simp only [qz1, qz2, qz3, qz4, qz5, qz6, ne_eq, qz7] at c4
 refine W.exit ?_
 refine sQ rfl <| sA (B true) rfl <| s_nil ?_
 refine W.ret ?_
 exact ⟨_, resE_tmp rfl, (eqB (same_done (by omega) c4 aa)), E⟩

end Go.Proofs.Ytndobgodeicloaa
end
section
set_option maxRecDepth 100000
set_option maxHeartbeats 16000000
namespace Go.Proofs.Ytndobgodeicloaa
open Go Go.Nm
theorem little_any {vw vl : Value} {ws : List Work} {ls : List (List Int)} (w : World) (hw : Sl w.cell? vw ws) (hl : Sl w.cell? vl ls) : Ret Try.prog 16 #[vw, vl] w fun v w' => v = B (littleB ws ls) /\ Ext w w' := by
 refine ret_of_W Try.func16 rfl rfl rfl ?_
 have E := Ext.refl w
 have K1 := KF.refl 0 w
 have ap := hw.len_le
 have hw := hw.par
 have aq := hl.len_le
 have hl := hl.par
 refine sQ rfl <| sA (B false) rfl <| s_nil <| W.seq <| sQ rfl <| sM vw rfl <| s_val (x_lenS T22.und rfl (hw.to K1)) <| sC _ _ (decide ((35 : Int) < ws.length)) rfl rfl rfl <| s_nil ?_
 refine W.cond (decide ((35 : Int) < ws.length)) rfl (fun c2 => ?_) (fun c2 => ?_)
 ·simp only [qz1, qz2, qz3, qz4, qz5, qz6, ne_eq, qz7] at c2
  refine sQ rfl <| sA (B false) rfl <| s_nil ?_
  refine W.ret ?_
  exact ⟨_, resE_tmp rfl, (eqB (little_many c2)), E⟩
 simp only [qz1, qz2, qz3, qz4, qz5, qz6, ne_eq, qz7] at c2
 refine W.skip <| W.seq <| sQ rfl <| sM vw rfl <| s_val (x_lenS T22.und rfl (hw.to K1)) <| sM (I 0) rfl <| s_nil <| W.block ?_
 refine W.loop (fun m σ W => ∃ (i : Nat) (ρ : Env), σ = upds ρ [(1, vl), (12, vw), (13, I ws.length), (14, I i)] /\ m = ws.length - i /\ Ext w W /\ KF 0 w W /\ i <= ws.length /\ (ws.take i).all (fun x => decide (x.of.length <= 10)) = true) ?_ ?_
 ·exact ⟨_, 0, _, upds_of _ _ ⟨rfl, rfl, rfl, (eqI (by omega)), trivial⟩, rfl, E, K1, (Nat.zero_le _), rfl⟩
 rintro m σ w3 ⟨i, ρ, rfl, rfl, E, K1, au, al⟩
 refine sQ rfl <| sC _ _ (decide ((i : Int) < ws.length)) rfl rfl rfl <| s_nil <| W.seq ?_
 refine W.cond (decide ((i : Int) < ws.length)) rfl (fun c4 => ?_) (fun c4 => ?_)
 ·simp only [qz1, qz2, qz3, qz4, qz5, qz6, ne_eq, qz7] at c4
  refine W.skip <| W.seq <| W.block <| sQ rfl <| s_val (x_ix (v := vat vw 3 (Int.toNat i)) rfl rfl (Sl.ix (α := Work) T22.und T22.size (hw.to K1) (by omega) (by omega))) ?_
  obtain ⟨u5, ha7, aa⟩ := Work_atA hw (i := i) (by omega) (by omega)
  replace aa : Sl _ u5 (ws.getD i default).of := aa
  have av := aa.len_le
  refine s_val (x_ld (v := .agg #[u5, I ((ws.getD i default).base), I ((ws.getD i default).minutes)]) rfl (ld_ag Ag60 Sz60 (At.to ha7 K1))) ?_
  refine s_alloc (cs := [.slice none 0 0, I 0, I 0]) Al60 rfl ?_
  intro b8 w9 Nb8
  have o_K1_b8 := Nat.le_trans K1.size Nb8.ge
  have o_b8 := Nat.le_trans E.size Nb8.ge
  replace E := E.trans Nb8.ext
  replace K1 := K1.ext Nb8.ext
  have ak := Nb8.same
  clear Nb8
  refine s_st (b := b8) (off := 0) (vs := [u5, I ((ws.getD i default).base), I ((ws.getD i default).minutes)]) (cs' := [u5, I ((ws.getD i default).base), I ((ws.getD i default).minutes)]) (v := .agg #[u5, I ((ws.getD i default).base), I ((ws.getD i default).minutes)]) rfl rfl Sz60 ak rfl rfl rfl (by simp only [List.all_cons, List.all_nil, Bool.true_and, Bool.and_true, Sl.oc (aa.to K1)]; try rfl) rfl ?_
  intro aw ae
  replace E := E.put (by omega) ae
  replace K1 := K1.put ae (by omega)
  replace ak := ae.same
  clear ae
  refine s_nil <| sQ rfl <| s_val (x_fa (v := Pz b8) rfl (fa_blk (o := 0) Fd60_0 Sz34)) <| s_val (x_ld (v := u5) rfl (ldb_sc Sc34 ak rfl)) <| s_val (x_lenS T34.und rfl (aa.to K1)) <| sC _ _ (decide ((10 : Int) < (((ws.getD i default).of).length))) rfl rfl rfl <| s_nil ?_
  refine W.cond (decide ((10 : Int) < (((ws.getD i default).of).length))) rfl (fun ag => ?_) (fun ag => ?_)
  ·simp only [qz1, qz2, qz3, qz4, qz5, qz6, ne_eq, qz7] at ag
   refine sQ rfl <| sA (B false) rfl <| s_nil ?_
   refine W.ret ?_
   exact ⟨_, resE_tmp rfl, (eqB (little_of c4 ag)), E⟩
  simp only [qz1, qz2, qz3, qz4, qz5, qz6, ne_eq, qz7] at ag
  refine W.skip <| W.region rfl <| sR _ _ (i + 1) rfl rfl rfl (by omega) <| sM (I (i + 1)) rfl <| s_nil ?_
  exact ⟨_, (by omega), i+1, _, upds_of _ _ ⟨rfl, rfl, rfl, (eqI (by omega)), trivial⟩, rfl, E, K1, (by omega), (by rw [all_take_succ _ ws (by omega) default, al]; simp [-List.getD_eq_getElem?_getD]; omega)⟩
 simp only [qz1, qz2, qz3, qz4, qz5, qz6, ne_eq, qz7] at c4
 refine W.exit ?_
 refine W.seq <| sQ rfl <| sM vl rfl <| s_val (x_lenS T73.und rfl (hl.to K1)) <| sM (I 0) rfl <| s_nil <| W.block ?_
 refine W.loop (fun m σ W => ∃ (j : Nat) (ρ : Env), σ = upds ρ [(23, vl), (24, I ls.length), (25, I j)] /\ m = ls.length - j /\ Ext w W /\ KF 0 w W /\ j <= ls.length /\ (ls.take j).all (fun l => decide (l.length <= 40)) = true) ?_ ?_
 ·exact ⟨_, 0, _, upds_of _ _ ⟨rfl, rfl, (eqI (by omega)), trivial⟩, rfl, E, K1, (Nat.zero_le _), rfl⟩
 rintro m σ ax ⟨j, ρ, rfl, rfl, E, K1, ay, am⟩
 refine sQ rfl <| sC _ _ (decide ((j : Int) < ls.length)) rfl rfl rfl <| s_nil <| W.seq ?_
 refine W.cond (decide ((j : Int) < ls.length)) rfl (fun ac => ?_) (fun ac => ?_)
 ·simp only [qz1, qz2, qz3, qz4, qz5, qz6, ne_eq, qz7] at ac
  refine W.skip <| W.seq <| W.block <| sQ rfl <| s_val (x_ix (v := vat vl 1 (Int.toNat j)) rfl rfl (Sl.ix (α := List Int) T73.und T73.size (hl.to K1) (by omega) (by omega))) ?_
  obtain ⟨ah, ao, ai⟩ := List_at hl (i := j) (by omega) (by omega)
  replace ai : Sl _ ah (ls.getD j ([])) := ai
  have az := ai.len_le
  refine s_val (x_ld (v := ah) rfl (ld_sc Sc34 (At.to ao K1))) <| sA ah rfl <| s_nil <| sQ rfl <| sM ah rfl <| s_val (x_lenS T34.und rfl (ai.to K1)) <| sC _ _ (decide ((40 : Int) < ((ls.getD j ([])).length))) rfl rfl rfl <| s_nil ?_
  refine W.cond (decide ((40 : Int) < ((ls.getD j ([])).length))) rfl (fun aj => ?_) (fun aj => ?_)
  ·simp only [qz1, qz2, qz3, qz4, qz5, qz6, ne_eq, qz7] at aj
   refine sQ rfl <| sA (B false) rfl <| s_nil ?_
   refine W.ret ?_
   exact ⟨_, resE_tmp rfl, (eqB (little_list ac aj)), E⟩
  simp only [qz1, qz2, qz3, qz4, qz5, qz6, ne_eq, qz7] at aj
  refine W.skip <| W.region rfl <| sR _ _ (j + 1) rfl rfl rfl (by omega) <| sM (I (j + 1)) rfl <| s_nil ?_
  exact ⟨_, (by omega), j+1, _, upds_of _ _ ⟨rfl, rfl, (eqI (by omega)), trivial⟩, rfl, E, K1, (by omega), (by rw [all_take_succ _ ls (by omega) [], am]; simp [-List.getD_eq_getElem?_getD]; omega)⟩
 simp only [qz1, qz2, qz3, qz4, qz5, qz6, ne_eq, qz7] at ac
 refine W.exit ?_
 refine sQ rfl <| sA (B true) rfl <| s_nil ?_
 refine W.ret ?_
 exact ⟨_, resE_tmp rfl, (eqB (little_ok c2 c4 al ac am)), E⟩

end Go.Proofs.Ytndobgodeicloaa
end
section
set_option maxRecDepth 100000
set_option maxHeartbeats 16000000
namespace Go.Proofs.Ytndobgodeicloaa
open Go Go.Nm
theorem refListed {vw vl : Value} {ws : List Work} {l : List Int} (w : World) (hw : Sl w.cell? vw ws) (hl : Sl w.cell? vl l) : Ret Try.prog 93 #[vw, vl] w fun v w' => v = I (listedE ws.length l) /\ Ext w w' := by
 refine ret_of_W Try.func93 rfl rfl rfl ?_
 have E := Ext.refl w
 have K1 := KF.refl 0 w
 have ai := hw.len_le
 have hw := hw.par
 have aj := hl.len_le
 have hl := hl.par
 refine sQ rfl <| sA (I 0) rfl <| s_nil <| W.seq <| sQ rfl <| sA (I 0) rfl <| s_nil <| W.block ?_
 refine W.loop (fun m σ W => ∃ (k : Nat) (ρ : Env), σ = upds ρ [(0, vw), (1, vl), (5, I k)] /\ m = l.length - k /\ Ext w W /\ KF 0 w W /\ k <= l.length /\ (l.take k).all (fun x => inB x 0 ((ws.length : Int) - 1)) = true) ?_ ?_
 ·exact ⟨_, 0, _, upds_of _ _ ⟨rfl, rfl, (eqI (by omega)), trivial⟩, rfl, E, K1, (Nat.zero_le _), rfl⟩
 rintro m σ w2 ⟨k, ρ, rfl, rfl, E, K1, ak, ac⟩
 refine W.seq <| sQ rfl <| sM (I k) rfl <| sM vl rfl <| s_val (x_lenS T34.und rfl (hl.to K1)) <| sC _ _ (decide ((k : Int) < l.length)) rfl rfl rfl <| s_nil ?_
 refine W.cond (decide ((k : Int) < l.length)) rfl (fun c3 => ?_) (fun c3 => ?_)
 ·simp only [qz1, qz2, qz3, qz4, qz5, qz6, ne_eq, qz7] at c3
  refine W.skip <| W.seq <| W.block <| sQ rfl <| sM vl rfl <| sM (I k) rfl <| s_val (x_ix (v := vat vl 1 (Int.toNat k)) rfl rfl (Sl.ix (α := Int) T34.und T34.size (hl.to K1) (by omega) (by omega))) <| s_val (x_ld (v := I (l.getD k 0)) rfl (ld_sc Sc3 (At.to (Int_at hl (i := k) (by omega) (by omega)) K1))) <| sM vw rfl <| s_val (x_lenS T39.und rfl (hw.to K1)) <| sR _ _ (ws.length - 1) rfl rfl rfl (by omega) ?_
  refine s_call cf89 [I (l.getD k 0), I 0, I (ws.length - 1)] rfl (outside_any _ _ _ _) ?_
  rintro _ w4 ⟨rfl, x5⟩
  replace E := E.trans x5
  replace K1 := K1.ext x5
  clear x5
  refine s_nil ?_
  refine W.cond (outB (l.getD k 0) 0 (ws.length - 1)) rfl (fun c6 => ?_) (fun c6 => ?_)
  ·skip
   refine sQ rfl <| sA (I 2) rfl <| s_nil ?_
   refine W.ret ?_
   exact ⟨_, resE_tmp rfl, (eqI (rl_bad c3 c6)), E⟩
  skip
  refine W.skip <| W.region rfl <| sM (I k) rfl <| sR _ _ (k + 1) rfl rfl rfl (by omega) <| sA (I (k + 1)) rfl <| s_nil ?_
  exact ⟨_, (by omega), k+1, _, upds_of _ _ ⟨rfl, rfl, (eqI (by omega)), trivial⟩, rfl, E, K1, (by omega), (rl_next ac c3 c6)⟩
 simp only [qz1, qz2, qz3, qz4, qz5, qz6, ne_eq, qz7] at c3
 refine W.exit ?_
 refine W.seq <| sQ rfl <| sA (I 1) rfl <| s_nil <| W.block ?_
 refine W.loop (fun m σ W => ∃ (i : Nat) (ρ : Env), σ = upds ρ [(1, vl), (6, I i)] /\ m = l.length + 1 - i /\ Ext w W /\ KF 0 w W /\ 1 <= i /\ i <= l.length + 1 /\ AscTo l i) ?_ ?_
 ·exact ⟨_, 1, _, upds_of _ _ ⟨rfl, (eqI (by omega)), trivial⟩, rfl, E, K1, (Nat.le_refl _), (by omega), (fun j h1 h2 => by omega)⟩
 rintro m σ w7 ⟨i, ρ, rfl, rfl, E, K1, ah, al, ag⟩
 refine W.seq <| sQ rfl <| sM (I i) rfl <| sM vl rfl <| s_val (x_lenS T34.und rfl (hl.to K1)) <| sC _ _ (decide ((i : Int) < l.length)) rfl rfl rfl <| s_nil ?_
 refine W.cond (decide ((i : Int) < l.length)) rfl (fun c8 => ?_) (fun c8 => ?_)
 ·simp only [qz1, qz2, qz3, qz4, qz5, qz6, ne_eq, qz7] at c8
  refine W.skip <| W.seq <| W.block <| W.seq ?_
  refine W.draw (fun W => Ext w W /\ KF 0 w W) [(0, true), (1, true), (2, true), (3, true), (4, true), (5, true), (6, true), (7, true), (8, true), (9, true)] mixed (by decide +kernel) rfl ?_
  intro w9 ae
  replace E := E.trans ae
  replace K1 := K1.ext ae
  clear ae
  refine ⟨⟨E, K1⟩, ?_⟩
  refine d_q rfl (fun w' hC => by obtain ⟨E, K1⟩ := hC; exact x_mv (v := vl) rfl) ?_
  refine d_q rfl (fun w' hC => by obtain ⟨E, K1⟩ := hC; exact x_mv (v := I i) rfl) ?_
  refine d_q rfl (fun w' hC => by obtain ⟨E, K1⟩ := hC; exact x_ix (v := vat vl 1 (Int.toNat i)) rfl rfl (Sl.ix (α := Int) T34.und T34.size (hl.to K1) (by omega) (by omega))) ?_
  refine d_q rfl (fun w' hC => by obtain ⟨E, K1⟩ := hC; exact x_ld (v := I (l.getD i 0)) rfl (ld_sc Sc3 (At.to (Int_at hl (i := i) (by omega) (by omega)) K1))) ?_
  refine d_q rfl (fun w' hC => by obtain ⟨E, K1⟩ := hC; exact x_mv (v := vl) rfl) ?_
  refine d_q rfl (fun w' hC => by obtain ⟨E, K1⟩ := hC; exact x_mv (v := I i) rfl) ?_
  refine d_q rfl (fun w' hC => by obtain ⟨E, K1⟩ := hC; exact x_ari (r := i - 1) rfl rfl rfl (by omega)) ?_
  refine d_q rfl (fun w' hC => by obtain ⟨E, K1⟩ := hC; exact x_ix (v := vat vl 1 (Int.toNat (i - 1))) rfl rfl (Sl.ix (α := Int) T34.und T34.size (hl.to K1) (by omega) (by omega))) ?_
  refine d_q rfl (fun w' hC => by obtain ⟨E, K1⟩ := hC; exact x_ld (v := I (l.getD (Int.toNat (i - 1)) 0)) rfl (ld_sc Sc3 (At.to (Int_at hl (i := i - 1) (by omega) (by omega)) K1))) ?_
  refine d_q rfl (fun w' hC => by obtain ⟨E, K1⟩ := hC; exact x_cmp (kd := .i64) (r := decide ((l.getD i 0 : Int) <= (l.getD (Int.toNat (i - 1)) 0))) rfl rfl rfl) ?_
  refine d_nil ?_
  refine W.cond (decide ((l.getD i 0 : Int) <= (l.getD (Int.toNat (i - 1)) 0))) rfl (fun aa => ?_) (fun aa => ?_)
  ·simp only [qz1, qz2, qz3, qz4, qz5, qz6, ne_eq, qz7] at aa
   refine sQ rfl <| sA (I 9) rfl <| s_nil ?_
   refine W.ret ?_
   exact ⟨_, resE_tmp rfl, (eqI (listed_bad (rl_in ac c3) c8 ah aa)), E⟩
  simp only [qz1, qz2, qz3, qz4, qz5, qz6, ne_eq, qz7] at aa
  refine W.skip <| W.region rfl <| sM (I i) rfl <| sR _ _ (i + 1) rfl rfl rfl (by omega) <| sA (I (i + 1)) rfl <| s_nil ?_
  exact ⟨_, (by omega), i+1, _, upds_of _ _ ⟨rfl, (eqI (by omega)), trivial⟩, rfl, E, K1, (by omega), (by omega), (asc_next ag aa)⟩
 simp only [qz1, qz2, qz3, qz4, qz5, qz6, ne_eq, qz7] at c8
 refine W.exit ?_
 refine sQ rfl <| sA (I 0) rfl <| s_nil ?_
 refine W.ret ?_
 exact ⟨_, resE_tmp rfl, (eqI (listed_ok (rl_in ac c3) c8 ag)), E⟩

theorem refRight {vw : Value} {ws : List Work} (w : World) (hw : Sl w.cell? vw ws) : Ret Try.prog 135 #[vw] w fun v w' => v = I (rightE ws) /\ Ext w w' := by
 refine ret_of_W Try.func135 rfl rfl rfl ?_
 have E := Ext.refl w
 have K1 := KF.refl 0 w
 have aW := hw.len_le
 have hw := hw.par
 refine sQ rfl <| sA (I 0) rfl <| s_nil <| W.seq <| sQ rfl <| sM vw rfl <| s_val (x_lenS T39.und rfl (hw.to K1)) <| sC _ _ (decide ((ws.length : Int) < 1)) rfl rfl rfl <| sM (B (decide ((ws.length : Int) < 1))) rfl <| g_val (!(decide ((ws.length : Int) < 1))) (gy_f rfl) (fun hg => x_mv (v := vw) rfl) ?_
 refine g_val (!(decide ((ws.length : Int) < 1))) (gy_f rfl) (fun hg => x_lenS T39.und (gd_of hg (vw)) (hw.to K1)) <| g_val (!(decide ((ws.length : Int) < 1))) (gy_f rfl) (fun hg => x_cmp (kd := .i64) (r := decide ((30 : Int) < ws.length)) (gd_of hg (I ws.length)) rfl rfl) <| s_val (x_por (b := decide ((ws.length : Int) < 1)) (r := decide ((30 : Int) < ws.length)) rfl rfl (fun hb => gd_of (c := !(decide ((ws.length : Int) < 1))) (by simp_all) (B (decide ((30 : Int) < ws.length))))) <| s_nil ?_
 refine W.cond (((decide ((ws.length : Int) < 1)) || (decide ((30 : Int) < ws.length)))) rfl (fun c2 => ?_) (fun c2 => ?_)
 ·skip
  refine sQ rfl <| sA (I 3) rfl <| s_nil ?_
  refine W.ret ?_
  exact ⟨_, resE_tmp rfl, (eqI (rr_len c2)), E⟩
 skip
 refine W.skip <| W.seq <| sQ rfl <| sA (I 0) rfl <| s_nil <| W.block ?_
 refine W.loop (fun m σ W => ∃ (i : Nat) (ρ : Env), σ = upds ρ [(0, vw), (3, I i)] /\ m = ws.length - i /\ Ext w W /\ KF 0 w W /\ i <= ws.length /\ (ws.take i).all ofOK = true) ?_ ?_
 ·exact ⟨_, 0, _, upds_of _ _ ⟨rfl, (eqI (by omega)), trivial⟩, rfl, E, K1, (Nat.zero_le _), rfl⟩
 rintro m σ w3 ⟨i, ρ, rfl, rfl, E, K1, aX, aG⟩
 refine W.seq <| sQ rfl <| sM (I i) rfl <| sM vw rfl <| s_val (x_lenS T39.und rfl (hw.to K1)) <| sC _ _ (decide ((i : Int) < ws.length)) rfl rfl rfl <| s_nil ?_
 refine W.cond (decide ((i : Int) < ws.length)) rfl (fun c4 => ?_) (fun c4 => ?_)
 ·simp only [qz1, qz2, qz3, qz4, qz5, qz6, ne_eq, qz7] at c4
  refine W.skip <| W.seq <| W.block <| sQ rfl <| sM vw rfl <| sM (I i) rfl <| s_val (x_ix (v := vat vw 3 (Int.toNat i)) rfl rfl (Sl.ix (α := Work) T39.und T39.size (hw.to K1) (by omega) (by omega))) <| s_val (x_fa (v := fat (vat vw 3 (Int.toNat i)) 0) rfl (fa_pl Fd138_0 Sz34 (Sl.pl (i := i) hw (by omega) (by omega)))) ?_
  obtain ⟨u5, aM, aj⟩ := Work_at0 hw (i := i) (by omega) (by omega)
  replace aj : Sl _ u5 (ws.getD i default).of := aj
  have aY := aj.len_le
  refine s_val (x_ld (v := u5) rfl (ld_sc Sc34 (At.to aM K1))) <| s_val (x_lenS T34.und rfl (aj.to K1)) <| sC _ _ (decide ((5 : Int) < (((ws.getD i default).of).length))) rfl rfl rfl <| s_nil ?_
  refine W.cond (decide ((5 : Int) < (((ws.getD i default).of).length))) rfl (fun c7 => ?_) (fun c7 => ?_)
  ·simp only [qz1, qz2, qz3, qz4, qz5, qz6, ne_eq, qz7] at c7
   refine sQ rfl <| sA (I 3) rfl <| s_nil ?_
   refine W.ret ?_
   exact ⟨_, resE_tmp rfl, (eqI (rr_of c4 c7)), E⟩
  simp only [qz1, qz2, qz3, qz4, qz5, qz6, ne_eq, qz7] at c7
  refine W.skip <| W.region rfl <| sM (I i) rfl <| sR _ _ (i + 1) rfl rfl rfl (by omega) <| sA (I (i + 1)) rfl <| s_nil ?_
  exact ⟨_, (by omega), i+1, _, upds_of _ _ ⟨rfl, (eqI (by omega)), trivial⟩, rfl, E, K1, (by omega), (rr_of_next aG c4 c7)⟩
 simp only [qz1, qz2, qz3, qz4, qz5, qz6, ne_eq, qz7] at c4
 refine W.exit ?_
 refine W.seq <| sQ rfl <| sA (I 0) rfl <| s_nil <| W.block ?_
 have hf1 := rr_first c2 c4 aG
 refine W.loop (fun m σ W => ∃ (i : Nat) (ρ : Env), σ = upds ρ [(0, vw), (4, I i)] /\ m = ws.length - i /\ Ext w W /\ KF 0 w W /\ i <= ws.length /\ (List.range i).any (badAt ws) = false) ?_ ?_
 ·exact ⟨_, 0, _, upds_of _ _ ⟨rfl, (eqI (by omega)), trivial⟩, rfl, E, K1, (Nat.zero_le _), rfl⟩
 rintro m σ w8 ⟨i, ρ, rfl, rfl, E, K1, aN, aH⟩
 refine W.seq <| sQ rfl <| sM (I i) rfl <| sM vw rfl <| s_val (x_lenS T39.und rfl (hw.to K1)) <| sC _ _ (decide ((i : Int) < ws.length)) rfl rfl rfl <| s_nil ?_
 refine W.cond (decide ((i : Int) < ws.length)) rfl (fun c9 => ?_) (fun c9 => ?_)
 ·simp only [qz1, qz2, qz3, qz4, qz5, qz6, ne_eq, qz7] at c9
  refine W.skip <| W.seq <| W.block <| W.seq <| sQ rfl <| sM vw rfl <| sM (I i) rfl <| s_val (x_ix (v := vat vw 3 (Int.toNat i)) rfl rfl (Sl.ix (α := Work) T39.und T39.size (hw.to K1) (by omega) (by omega))) <| s_val (x_fa (v := fat (vat vw 3 (Int.toNat i)) 1) rfl (fa_pl Fd138_1 Sz3 (Sl.pl (i := i) hw (by omega) (by omega)))) <| s_val (x_ld (v := I ((ws.getD i default).base)) rfl (ld_sc Sc3 (At.to (Work_at1 hw (i := i) (by omega) (by omega)) K1))) ?_
  refine s_call cf89 [I ((ws.getD i default).base), I 0, I 1000002] rfl (outside_any _ _ _ _) ?_
  rintro _ aZ ⟨rfl, ap⟩
  replace E := E.trans ap
  replace K1 := K1.ext ap
  clear ap
  refine sM (B (outB ((ws.getD i default).base) 0 1000002)) rfl <| g_val (!(outB ((ws.getD i default).base) 0 1000002)) (gy_f rfl) (fun hg => x_mv (v := vw) rfl) <| g_val (!(outB ((ws.getD i default).base) 0 1000002)) (gy_f rfl) (fun hg => x_mv (v := I i) rfl) <| g_val (!(outB ((ws.getD i default).base) 0 1000002)) (gy_f rfl) (fun hg => x_ix (v := vat vw 3 (Int.toNat i)) (gd_of hg (vw)) (gd_of hg (I i)) (Sl.ix (α := Work) T39.und T39.size (hw.to K1) (by first | omega | (simp at hg; omega) | (simp [inB] at hg; omega)) (by first | omega | (simp at hg; omega) | (simp [inB] at hg; omega)))) <| g_val (!(outB ((ws.getD i default).base) 0 1000002)) (gy_f rfl) (fun hg => x_fa (v := fat (vat vw 3 (Int.toNat i)) 2) (gd_of hg (vat vw 3 (Int.toNat i))) (fa_pl Fd138_2 Sz3 (Sl.pl (i := i) hw (by first | omega | (simp at hg; omega) | (simp [inB] at hg; omega)) (by first | omega | (simp at hg; omega) | (simp [inB] at hg; omega))))) <| g_val (!(outB ((ws.getD i default).base) 0 1000002)) (gy_f rfl) (fun hg => x_ld (v := I ((ws.getD i default).minutes)) (gd_of hg (fat (vat vw 3 (Int.toNat i)) 2)) (ld_sc Sc3 (At.to (Work_at2 hw (i := i) (by first | omega | (simp at hg; omega) | (simp [inB] at hg; omega)) (by first | omega | (simp at hg; omega) | (simp [inB] at hg; omega))) K1))) ?_
  refine g_call (!(outB ((ws.getD i default).base) 0 1000002)) (gy_f rfl) cf89 (B (outB ((ws.getD i default).minutes) 0 10000)) (fun _ => [I ((ws.getD i default).minutes), I 0, I 10000]) (fun hg => lst3 (gd_of hg (I ((ws.getD i default).minutes))) rfl rfl) (fun hg => (outside_any _ _ _ _)) ?_
  intro a5 aq
  replace E := E.trans aq
  replace K1 := K1.ext aq
  clear aq
  refine s_val (x_por (b := outB ((ws.getD i default).base) 0 1000002) (r := outB ((ws.getD i default).minutes) 0 10000) rfl rfl (fun hb => gd_of (c := !(outB ((ws.getD i default).base) 0 1000002)) (by simp_all) (B (outB ((ws.getD i default).minutes) 0 10000)))) <| s_nil ?_
  refine W.cond (((outB ((ws.getD i default).base) 0 1000002) || (outB ((ws.getD i default).minutes) 0 10000))) rfl (fun au => ?_) (fun au => ?_)
  ·skip
   refine sQ rfl <| sA (I 140) rfl <| s_nil ?_
   refine W.ret ?_
   exact ⟨_, resE_tmp rfl, (eqI (right_bad hf1 c9 (rr_num au))), E⟩
  skip
  refine W.skip <| sQ rfl <| sA (I 0) rfl <| s_nil <| W.block ?_
  refine W.loop (fun m σ W => ∃ (k : Nat) (ρ : Env), σ = upds ρ [(0, vw), (4, I i), (5, I k), (42, gd (!(outB ((ws.getD i default).base) 0 1000002)) vw), (43, gd (!(outB ((ws.getD i default).base) 0 1000002)) (I i)), (44, gd (!(outB ((ws.getD i default).base) 0 1000002)) (vat vw 3 (Int.toNat i))), (45, gd (!(outB ((ws.getD i default).base) 0 1000002)) (fat (vat vw 3 (Int.toNat i)) 2)), (46, gd (!(outB ((ws.getD i default).base) 0 1000002)) (I ((ws.getD i default).minutes))), (47, gd (!(outB ((ws.getD i default).base) 0 1000002)) (B (outB ((ws.getD i default).minutes) 0 10000)))] /\ m = (ws.getD i default).of.length - k /\ Ext w W /\ KF 0 w W /\ k <= (ws.getD i default).of.length /\ ((ws.getD i default).of.take k).all (kOK ws.length i) = true) ?_ ?_
  ·exact ⟨_, 0, _, upds_of _ _ ⟨rfl, rfl, (eqI (by omega)), rfl, rfl, rfl, rfl, rfl, rfl, trivial⟩, rfl, E, K1, (Nat.zero_le _), rfl⟩
  rintro m σ a6 ⟨k, ρ, rfl, rfl, E, K1, a7, aI⟩
  refine W.seq <| sQ rfl <| sM (I k) rfl <| sM vw rfl <| sM (I i) rfl <| s_val (x_ix (v := vat vw 3 (Int.toNat i)) rfl rfl (Sl.ix (α := Work) T39.und T39.size (hw.to K1) (by omega) (by omega))) <| s_val (x_fa (v := fat (vat vw 3 (Int.toNat i)) 0) rfl (fa_pl Fd138_0 Sz34 (Sl.pl (i := i) hw (by omega) (by omega)))) ?_
  obtain ⟨aJ, aO, ak⟩ := Work_at0 hw (i := i) (by omega) (by omega)
  replace ak : Sl _ aJ (ws.getD i default).of := ak
  have a8 := ak.len_le
  refine s_val (x_ld (v := aJ) rfl (ld_sc Sc34 (At.to aO K1))) <| s_val (x_lenS T34.und rfl (ak.to K1)) <| sC _ _ (decide ((k : Int) < (((ws.getD i default).of).length))) rfl rfl rfl <| s_nil ?_
  refine W.cond (decide ((k : Int) < (((ws.getD i default).of).length))) rfl (fun aa => ?_) (fun aa => ?_)
  ·simp only [qz1, qz2, qz3, qz4, qz5, qz6, ne_eq, qz7] at aa
   refine W.skip <| W.seq <| W.block <| sQ rfl <| sM vw rfl <| sM (I i) rfl <| s_val (x_ix (v := vat vw 3 (Int.toNat i)) rfl rfl (Sl.ix (α := Work) T39.und T39.size (hw.to K1) (by omega) (by omega))) <| s_val (x_fa (v := fat (vat vw 3 (Int.toNat i)) 0) rfl (fa_pl Fd138_0 Sz34 (Sl.pl (i := i) hw (by omega) (by omega)))) ?_
   obtain ⟨av, aP, ac⟩ := Work_at0 hw (i := i) (by omega) (by omega)
   replace ac : Sl _ av (ws.getD i default).of := ac
   have a9 := ac.len_le
   refine s_val (x_ld (v := av) rfl (ld_sc Sc34 (At.to aP K1))) <| sM (I k) rfl <| s_val (x_ix (v := vat av 1 (Int.toNat k)) rfl rfl (Sl.ix (α := Int) T34.und T34.size (ac.to K1) (by omega) (by omega))) <| s_val (x_ld (v := I (((ws.getD i default).of).getD k 0)) rfl (ld_sc Sc3 (At.to (Int_at ac (i := k) (by omega) (by omega)) K1))) <| sM vw rfl <| s_val (x_lenS T39.und rfl (hw.to K1)) <| sR _ _ (ws.length - 1) rfl rfl rfl (by omega) ?_
   refine s_call cf89 [I (((ws.getD i default).of).getD k 0), I 0, I (ws.length - 1)] rfl (outside_any _ _ _ _) ?_
   rintro _ ba ⟨rfl, aw⟩
   replace E := E.trans aw
   replace K1 := K1.ext aw
   clear aw
   refine sM (B (outB (((ws.getD i default).of).getD k 0) 0 (ws.length - 1))) rfl <| g_val (!(outB (((ws.getD i default).of).getD k 0) 0 (ws.length - 1))) (gy_f rfl) (fun hg => x_mv (v := vw) rfl) <| g_val (!(outB (((ws.getD i default).of).getD k 0) 0 (ws.length - 1))) (gy_f rfl) (fun hg => x_mv (v := I i) rfl) <| g_val (!(outB (((ws.getD i default).of).getD k 0) 0 (ws.length - 1))) (gy_f rfl) (fun hg => x_ix (v := vat vw 3 (Int.toNat i)) (gd_of hg (vw)) (gd_of hg (I i)) (Sl.ix (α := Work) T39.und T39.size (hw.to K1) (by first | omega | (simp at hg; omega) | (simp [inB] at hg; omega)) (by first | omega | (simp at hg; omega) | (simp [inB] at hg; omega)))) <| g_val (!(outB (((ws.getD i default).of).getD k 0) 0 (ws.length - 1))) (gy_f rfl) (fun hg => x_fa (v := fat (vat vw 3 (Int.toNat i)) 0) (gd_of hg (vat vw 3 (Int.toNat i))) (fa_pl Fd138_0 Sz34 (Sl.pl (i := i) hw (by first | omega | (simp at hg; omega) | (simp [inB] at hg; omega)) (by first | omega | (simp at hg; omega) | (simp [inB] at hg; omega))))) ?_
   obtain ⟨ae, aQ, al⟩ := gd_ex (c := !(outB (((ws.getD i default).of).getD k 0) 0 (ws.length - 1))) fun hg => Work_at0 hw (i := i) (by first | omega | (simp at hg; omega) | (simp [inB] at hg; omega)) (by first | omega | (simp at hg; omega) | (simp [inB] at hg; omega))
   replace al : (!(outB (((ws.getD i default).of).getD k 0) 0 (ws.length - 1))) = true -> Sl _ ae (ws.getD i default).of := al
   refine g_val (!(outB (((ws.getD i default).of).getD k 0) 0 (ws.length - 1))) (gy_f rfl) (fun hg => x_ld (v := ae) (gd_of hg (fat (vat vw 3 (Int.toNat i)) 0)) (ld_sc Sc34 (At.to (aQ hg) K1))) <| g_val (!(outB (((ws.getD i default).of).getD k 0) 0 (ws.length - 1))) (gy_f rfl) (fun hg => x_mv (v := I k) rfl) <| g_val (!(outB (((ws.getD i default).of).getD k 0) 0 (ws.length - 1))) (gy_f rfl) (fun hg => x_ix (v := vat ae 1 (Int.toNat k)) (gd_of hg (ae)) (gd_of hg (I k)) (Sl.ix (α := Int) T34.und T34.size ((al hg).to K1) (by first | omega | (simp at hg; omega) | (simp [inB] at hg; omega)) (by first | omega | (simp at hg; omega) | (simp [inB] at hg; omega)))) <| g_val (!(outB (((ws.getD i default).of).getD k 0) 0 (ws.length - 1))) (gy_f rfl) (fun hg => x_ld (v := I (((ws.getD i default).of).getD k 0)) (gd_of hg (vat ae 1 (Int.toNat k))) (ld_sc Sc3 (At.to (Int_at ((al hg)) (i := k) (by first | omega | (simp at hg; omega) | (simp [inB] at hg; omega)) (by first | omega | (simp at hg; omega) | (simp [inB] at hg; omega))) K1))) <| g_val (!(outB (((ws.getD i default).of).getD k 0) 0 (ws.length - 1))) (gy_f rfl) (fun hg => x_mv (v := I i) rfl) <| g_val (!(outB (((ws.getD i default).of).getD k 0) 0 (ws.length - 1))) (gy_f rfl) (fun hg => x_cmp (kd := .i64) (r := ((((ws.getD i default).of).getD k 0) : Int) == i) (gd_of hg (I (((ws.getD i default).of).getD k 0))) (gd_of hg (I i)) rfl) <| s_val (x_por (b := outB (((ws.getD i default).of).getD k 0) 0 (ws.length - 1)) (r := ((((ws.getD i default).of).getD k 0) : Int) == i) rfl rfl (fun hb => gd_of (c := !(outB (((ws.getD i default).of).getD k 0) 0 (ws.length - 1))) (by simp_all) (B (((((ws.getD i default).of).getD k 0) : Int) == i)))) <| s_nil ?_
   refine W.cond (((outB (((ws.getD i default).of).getD k 0) 0 (ws.length - 1)) || (((((ws.getD i default).of).getD k 0) : Int) == i))) rfl (fun ax => ?_) (fun ax => ?_)
   ·skip
    refine sQ rfl <| sA (I 140) rfl <| s_nil ?_
    refine W.ret ?_
    exact ⟨_, resE_tmp rfl, (eqI (right_bad hf1 c9 (rr_k aa ax))), E⟩
   skip
   refine W.skip <| W.region rfl <| sM (I k) rfl <| sR _ _ (k + 1) rfl rfl rfl (by omega) <| sA (I (k + 1)) rfl <| s_nil ?_
   exact ⟨_, (by omega), k+1, _, upds_of _ _ ⟨rfl, rfl, (eqI (by omega)), rfl, rfl, rfl, rfl, rfl, rfl, trivial⟩, rfl, E, K1, (by omega), (rr_k_next aI aa ax)⟩
  simp only [qz1, qz2, qz3, qz4, qz5, qz6, ne_eq, qz7] at aa
  refine W.exit ?_
  refine W.region rfl <| sM (I i) rfl <| sR _ _ (i + 1) rfl rfl rfl (by omega) <| sA (I (i + 1)) rfl <| s_nil ?_
  exact ⟨_, (by omega), i+1, _, upds_of _ _ ⟨rfl, (eqI (by omega)), trivial⟩, rfl, E, K1, (by omega), (right_next aH (rr_good au aI aa))⟩
 simp only [qz1, qz2, qz3, qz4, qz5, qz6, ne_eq, qz7] at c9
 refine W.exit ?_
 refine W.seq <| sQ rfl <| sA (I 0) rfl <| s_nil <| W.block ?_
 have hj3 := c9
 have hl3 := aN
 have hb3 := aH
 refine W.loop (fun m σ W => ∃ (i : Nat) (ρ : Env), σ = upds ρ [(0, vw), (6, I i)] /\ m = ws.length - i /\ Ext w W /\ KF 0 w W /\ i <= ws.length /\ (ws.take i).any (fun x => dupL x.of) = false) ?_ ?_
 ·exact ⟨_, 0, _, upds_of _ _ ⟨rfl, (eqI (by omega)), trivial⟩, rfl, E, K1, (Nat.zero_le _), rfl⟩
 rintro m σ bb ⟨i, ρ, rfl, rfl, E, K1, bc, ay⟩
 refine W.seq <| sQ rfl <| sM (I i) rfl <| sM vw rfl <| s_val (x_lenS T39.und rfl (hw.to K1)) <| sC _ _ (decide ((i : Int) < ws.length)) rfl rfl rfl <| s_nil ?_
 refine W.cond (decide ((i : Int) < ws.length)) rfl (fun ag => ?_) (fun ag => ?_)
 ·simp only [qz1, qz2, qz3, qz4, qz5, qz6, ne_eq, qz7] at ag
  refine W.skip <| W.seq <| W.block <| sQ rfl <| sA (I 0) rfl <| s_nil <| W.block ?_
  refine W.loop (fun m σ W => ∃ (k : Nat) (ρ : Env), σ = upds ρ [(0, vw), (6, I i), (7, I k)] /\ m = (ws.getD i default).of.length - k /\ Ext w W /\ KF 0 w W /\ k <= (ws.getD i default).of.length /\ (List.range k).any (dupAt (ws.getD i default).of) = false) ?_ ?_
  ·exact ⟨_, 0, _, upds_of _ _ ⟨rfl, rfl, (eqI (by omega)), trivial⟩, rfl, E, K1, (Nat.zero_le _), rfl⟩
  rintro m σ bf ⟨k, ρ, rfl, rfl, E, K1, aR, aK⟩
  refine W.seq <| sQ rfl <| sM (I k) rfl <| sM vw rfl <| sM (I i) rfl <| s_val (x_ix (v := vat vw 3 (Int.toNat i)) rfl rfl (Sl.ix (α := Work) T39.und T39.size (hw.to K1) (by omega) (by omega))) <| s_val (x_fa (v := fat (vat vw 3 (Int.toNat i)) 0) rfl (fa_pl Fd138_0 Sz34 (Sl.pl (i := i) hw (by omega) (by omega)))) ?_
  obtain ⟨aL, aS, am⟩ := Work_at0 hw (i := i) (by omega) (by omega)
  replace am : Sl _ aL (ws.getD i default).of := am
  have bg := am.len_le
  refine s_val (x_ld (v := aL) rfl (ld_sc Sc34 (At.to aS K1))) <| s_val (x_lenS T34.und rfl (am.to K1)) <| sC _ _ (decide ((k : Int) < (((ws.getD i default).of).length))) rfl rfl rfl <| s_nil ?_
  refine W.cond (decide ((k : Int) < (((ws.getD i default).of).length))) rfl (fun ah => ?_) (fun ah => ?_)
  ·simp only [qz1, qz2, qz3, qz4, qz5, qz6, ne_eq, qz7] at ah
   refine W.skip <| W.seq <| W.block <| W.seq ?_
   refine W.draw (fun W => Ext w W /\ KF 0 w W) [(0, true), (1, true), (2, true), (3, true), (4, true), (5, true), (6, true), (7, true), (8, true), (9, true), (10, true), (11, true), (12, true), (13, true), (14, true), (15, false)] mixed (by decide +kernel) rfl ?_
   intro bh az
   replace E := E.trans az
   replace K1 := K1.ext az
   clear az
   refine ⟨⟨E, K1⟩, ?_⟩
   refine d_q rfl (fun w' hC => by obtain ⟨E, K1⟩ := hC; exact x_mv (v := vw) rfl) ?_
   refine d_q rfl (fun w' hC => by obtain ⟨E, K1⟩ := hC; exact x_mv (v := I i) rfl) ?_
   refine d_q rfl (fun w' hC => by obtain ⟨E, K1⟩ := hC; exact x_ix (v := vat vw 3 (Int.toNat i)) rfl rfl (Sl.ix (α := Work) T39.und T39.size (hw.to K1) (by omega) (by omega))) ?_
   refine d_q rfl (fun w' hC => by obtain ⟨E, K1⟩ := hC; exact x_fa (v := fat (vat vw 3 (Int.toNat i)) 0) rfl (fa_pl Fd138_0 Sz34 (Sl.pl (i := i) hw (by omega) (by omega)))) ?_
   obtain ⟨aA, aT, ao⟩ := Work_at0 hw (i := i) (by omega) (by omega)
   replace ao : Sl _ aA (ws.getD i default).of := ao
   have bi := ao.len_le
   refine d_q rfl (fun w' hC => by obtain ⟨E, K1⟩ := hC; exact x_ld (v := aA) rfl (ld_sc Sc34 (At.to aT K1))) ?_
   refine d_q rfl (fun w' hC => by obtain ⟨E, K1⟩ := hC; exact x_mv (v := I k) rfl) ?_
   obtain ⟨aB, aU, aC⟩ := sl_hi T34.und T34.size ao (j := k) (by omega) (by omega)
   replace aC : Sl _ aB (((ws.getD i default).of).take k) := aC
   refine d_q rfl (fun w' hC => by obtain ⟨E, K1⟩ := hC; exact x_sl (v := aA) (u := aB) (lo' := none) (hi' := some (I k)) (mx' := none) rfl rfl rfl rfl (aU _)) ?_
   refine d_q rfl (fun w' hC => by obtain ⟨E, K1⟩ := hC; exact x_mv (v := vw) rfl) ?_
   refine d_q rfl (fun w' hC => by obtain ⟨E, K1⟩ := hC; exact x_mv (v := I i) rfl) ?_
   refine d_q rfl (fun w' hC => by obtain ⟨E, K1⟩ := hC; exact x_ix (v := vat vw 3 (Int.toNat i)) rfl rfl (Sl.ix (α := Work) T39.und T39.size (hw.to K1) (by omega) (by omega))) ?_
   refine d_q rfl (fun w' hC => by obtain ⟨E, K1⟩ := hC; exact x_fa (v := fat (vat vw 3 (Int.toNat i)) 0) rfl (fa_pl Fd138_0 Sz34 (Sl.pl (i := i) hw (by omega) (by omega)))) ?_
   obtain ⟨aD, aV, ai⟩ := Work_at0 hw (i := i) (by omega) (by omega)
   replace ai : Sl _ aD (ws.getD i default).of := ai
   have bj := ai.len_le
   refine d_q rfl (fun w' hC => by obtain ⟨E, K1⟩ := hC; exact x_ld (v := aD) rfl (ld_sc Sc34 (At.to aV K1))) ?_
   refine d_q rfl (fun w' hC => by obtain ⟨E, K1⟩ := hC; exact x_mv (v := I k) rfl) ?_
   refine d_q rfl (fun w' hC => by obtain ⟨E, K1⟩ := hC; exact x_ix (v := vat aD 1 (Int.toNat k)) rfl rfl (Sl.ix (α := Int) T34.und T34.size (ai.to K1) (by omega) (by omega))) ?_
   refine d_q rfl (fun w' hC => by obtain ⟨E, K1⟩ := hC; exact x_ld (v := I (((ws.getD i default).of).getD k 0)) rfl (ld_sc Sc3 (At.to (Int_at ai (i := k) (by omega) (by omega)) K1))) ?_
   refine d_l rfl ?_
   refine s_call cf95 [aB, I (((ws.getD i default).of).getD k 0)] rfl (has_any (((ws.getD i default).of).getD k 0) _ (aC.to K1)) ?_
   rintro _ bk ⟨rfl, aE⟩
   replace E := E.trans aE
   replace K1 := K1.ext aE
   clear aE
   refine s_nil ⟨⟨E, K1⟩, ?_⟩
   refine d_nil ?_
   refine W.cond ((((ws.getD i default).of).take k).contains (((ws.getD i default).of).getD k 0)) rfl (fun aF => ?_) (fun aF => ?_)
   ·skip
    refine sQ rfl <| sA (I 10) rfl <| s_nil ?_
    refine W.ret ?_
    exact ⟨_, resE_tmp rfl, (eqI (rr_dup hf1 hj3 hl3 hb3 ag ah aF)), E⟩
   skip
   refine W.skip <| W.region rfl <| sM (I k) rfl <| sR _ _ (k + 1) rfl rfl rfl (by omega) <| sA (I (k + 1)) rfl <| s_nil ?_
   exact ⟨_, (by omega), k+1, _, upds_of _ _ ⟨rfl, rfl, (eqI (by omega)), trivial⟩, rfl, E, K1, (by omega), (rr_dup1 aK aF)⟩
  simp only [qz1, qz2, qz3, qz4, qz5, qz6, ne_eq, qz7] at ah
  refine W.exit ?_
  refine W.region rfl <| sM (I i) rfl <| sR _ _ (i + 1) rfl rfl rfl (by omega) <| sA (I (i + 1)) rfl <| s_nil ?_
  exact ⟨_, (by omega), i+1, _, upds_of _ _ ⟨rfl, (eqI (by omega)), trivial⟩, rfl, E, K1, (by omega), (rr_dup_next ay ag aK ah aR)⟩
 simp only [qz1, qz2, qz3, qz4, qz5, qz6, ne_eq, qz7] at ag
 refine W.exit ?_
 refine sQ rfl <| sA (I 0) rfl <| s_nil ?_
 refine W.ret ?_
 exact ⟨_, resE_tmp rfl, (eqI (right_ok hf1 hj3 hl3 hb3 (by rw [List.take_of_length_le (by omega)]; rw [List.take_of_length_le (by omega)] at ay; exact ay))), E⟩

end Go.Proofs.Ytndobgodeicloaa
end
namespace Go.Nm
open Go
/-- A slice value, as a row's one cell. -/
structure SV where
  v : Value
  one : v.oneCell' = true
instance : Inhabited SV := ⟨⟨.bool false, rfl⟩⟩
instance : Flat SV where
  rep _ cs x := cs = [x.v]
  sz := 1
  agg := false
  sz_pos := by decide
  len := fun h => by subst h; rfl
  mono := fun _ h => h
  one := fun {_ _ x} h v hv => by subst h; simp at hv; subst hv; exact x.one
  enc x := [x.v]
  rep_iff := Iff.rfl
/-- All rows are the call's own, and no two share memory. -/
structure Mat (B : Nat) (e1 e2 : TypeId) (w : World) (v : Value) (M : List (List Bool)) : Prop where
  ex : ∃ vs : List SV, OwnF B e1 w v vs /\ vs.length = M.length /\ (∀ i, i < M.length -> OwnF B e2 w (vs.getD i default).v (M.getD i [])) ∧
    (∀ i j, i < M.length -> j < M.length -> i ≠ j -> ∀ g, (vs.getD i default).v.ownBlock = some g -> (vs.getD j default).v.ownBlock ≠ some g) ∧
    ∀ i, i < M.length -> ∀ g, (vs.getD i default).v.ownBlock = some g -> v.ownBlock ≠ some g
/-- Nothing below a block has changed. -/
structure MGrow (B : Nat) (w w' : World) : Prop where
  os : w'.os = w.os
  out : w'.output = w.output
  size : w.heap.size <= w'.heap.size
  blk : ∀ b, b < w.heap.size -> b < B -> w'.heap[b]? = w.heap[b]?
  fz : ∀ a, w'.frozen? a = w.frozen? a
theorem Grow.m {B : Nat} {v : Value} {w w' : World} (h : Grow B v w w') : MGrow B w w' := ⟨h.os, h.out, h.size, fun b hb hlt => h.blk b hb (h.ne hlt), h.fz⟩
theorem Ext.mgrow {w0 w w' : World} {B : Nat} (h : Ext w0 w) (k : MGrow B w w') (hB : w0.heap.size <= B) : Ext w0 w' :=
  ⟨k.os.trans h.os, k.out.trans h.out, Nat.le_trans h.size k.size, fun b hb => (k.blk b (Nat.lt_of_lt_of_le hb h.size) (by omega)).trans (h.blk b hb), fun a => (k.fz a).trans (h.fz a)⟩
theorem KF.mgrow {lo B : Nat} {a w c : World} (h : KF lo a w) (k : MGrow B w c) (hB : a.heap.size <= B) : KF lo a c :=
  ⟨Nat.le_trans h.size k.size, fun i hl hi => (k.blk i (Nat.lt_of_lt_of_le hi h.size) (by omega)).trans (h.blk i hl hi)⟩
section
variable {P : Program} {w : World} {B : Nat} {e1 e2 : TypeId} {v : Value} {M : List (List Bool)}
theorem Mat.nil (B : Nat) (e1 e2 : TypeId) (w : World) : Mat B e1 e2 w (.slice none 0 0) [] :=
  ⟨[], OwnF.nil _ _ _, rfl, fun i h => by simp at h, fun i j h => by simp at h, fun i h => by simp at h⟩
theorem Mat.ext {w' : World} (h : Mat B e1 e2 w v M) (k : Ext w w') : Mat B e1 e2 w' v M := by
  obtain ⟨vs, h1, h2, h3, h4, h5⟩ := h.ex
  exact ⟨vs, h1.ext k, h2, fun i hi => (h3 i hi).ext k, h4, h5⟩
theorem Mat.sl (h : Mat B e1 e2 w v M) : Sl (frm w B) v M := by
  obtain ⟨vs, h1, h2, h3, h4, h5⟩ := h.ex
  obtain ⟨a, c, hv, hc, hm, hh⟩ := h1.sl.ex
  refine ⟨a, c, by rw [hv, h2], by omega, hm, fun k x hx => ?_⟩
  have hk := (List.getElem?_eq_some_iff.1 hx).1
  obtain ⟨b, o, cs, ha, hr, hy⟩ := hh k (vs.getD k default) (getD_some vs (by omega) default)
  have hcs : cs = [(vs.getD k default).v] := hr
  have hx' : M.getD k [] = x := by simp [List.getD, hx]
  exact ⟨b, o, cs, ha, ⟨_, hcs, hx' ▸ (h3 k hk).sl⟩, hy⟩
/-- A row, when it is read. -/
theorem Mat.row (h : Mat B e1 e2 w v M) {i : Nat} (hi : i < M.length) : ∃ u, At (frm w B) (vat v 1 i) [u] /\ OwnF B e2 w u (M.getD i []) ∧
    ∀ {t : TypeId} (_ : (P.info? t).map (·.size) = some 1) {j : Nat} (_ : j < (M.getD i []).length) (b : Bool),
      ∃ w', (Instr.storeAt t (vat u 1 j) (.bool b)).run P w = .ok () w' /\ Mat B e1 e2 w' v (M.set i ((M.getD i []).set j b)) /\ MGrow B w w' := by
  obtain ⟨vs, h1, h2, h3, h4, h5⟩ := h.ex
  obtain ⟨cs, ha, hr⟩ := h1.sl.at (getD_some vs (k := i) (by omega) default)
  have hcs : cs = [(vs.getD i default).v] := hr
  subst hcs
  refine ⟨(vs.getD i default).v, ha, h3 i hi, fun {t} ht {j} hj b => ?_⟩
  obtain ⟨w', hs, ho, hg⟩ := (h3 i hi).store (P := P) (val := .bool b) ht hj b rfl
  refine ⟨w', hs, ⟨vs, ?_, by simpa using h2, fun k hk => ?_, fun k l hk hl => ?_, fun k hk => ?_⟩, hg.m⟩
  · refine h1.grow hg fun g hg' => ?_
    intro he
    exact h5 i hi g he hg'
  · simp only [List.length_set] at hk
    by_cases e : k = i
    · subst e
      rw [show (M.set k ((M.getD k []).set j b)).getD k [] = (M.getD k []).set j b from by simp [List.getD, hk]]
      exact ho
    · rw [show (M.set i ((M.getD i []).set j b)).getD k [] = M.getD k [] from by simp [List.getD, List.getElem?_set_ne (Ne.symm e)]]
      exact (h3 k hk).grow hg fun g hg' => h4 k i hk hi e g hg' |> fun h6 he => h6 he
  · simp only [List.length_set] at hk hl
    exact h4 k l hk hl
  · simp only [List.length_set] at hk
    exact h5 k hk
variable {all rest : List Oper} {Q : Post} {σ : Env} {d : Nat} {ty : TypeId} {pos : String} {af : Array Edge}
end
theorem oneCell_cells {v : Value} (h : v.oneCell' = true) : v.cells = #[v] := by
  cases v <;> simp_all [Value.cells, Value.oneCell']
end Go.Nm
namespace Go.Nm
open Go
theorem Sep.set {w w' : World} {c c' : Chunk} (hx : c.ex = true) (kp : w.heap.size <= w'.heap.size) (hs : ∀ b, b < w.heap.size -> ¬ c.D b -> w'.heap[b]? = w.heap[b]?)
    (hD : ∀ b, c'.D b -> c.D b ∨ w.heap.size <= b) (ho : c'.ok w') : ∀ (k : Nat) (L : List Chunk), Sep w L -> L[k]? = some c -> Sep w' (L.set k c') := by
  intro k L
  induction L generalizing k with
  | nil => intro _ h; simp at h
  | cons d L ih =>
    intro hS hk
    obtain ⟨h1, h2, h3⟩ := hS
    cases k with
    | zero =>
      simp only [List.getElem?_cons_zero, Option.some.injEq] at hk
      subst hk
      refine ⟨ho, fun e he _ b hb hb' => ?_, h3.old kp fun e he b hb => ?_⟩
      · rcases hD b hb with hb | hb
        · exact h2 e he (by simp [hx]) b hb hb'
        · have := e.bd w b (h3.get he) hb'
          omega
      · exact hs b (e.bd w b (h3.get he) hb) (fun hc => h2 e he (by simp [hx]) b hc hb)
    | succ k =>
      simp only [List.getElem?_cons_succ] at hk
      have hmem : c ∈ L := List.mem_of_getElem? hk
      have had := h2 c hmem
      refine ⟨d.st _ _ h1 kp fun b hb => hs b (d.bd w b h1 hb) (fun hc => had (by simp [hx]) b hb hc), fun e he => ?_, ih k h3 hk⟩
      rcases List.mem_or_eq_of_mem_set he with he | rfl
      · exact h2 e he
      · intro _ b hb hb'
        rcases hD b hb' with hb' | hb'
        · exact had (by simp [hx]) b hb hb'
        · have := d.bd w b h1 hb
          omega
/-- Parts as one. -/
def cAll (Ls : List Chunk) : Chunk where
  D b := ∃ c, c ∈ Ls /\ c.D b
  ex := true
  ok w := Sep w Ls
  st w w' h hs k := h.old hs fun c hc b hb => k b ⟨c, hc, hb⟩
  bd w b h hb := by
    obtain ⟨c, hc, hd⟩ := hb
    exact c.bd w b (h.get hc) hd
theorem St.merge {w0 w : World} {L R A : List Chunk} {c : Chunk} (hcx : c.ex = true) (H : St w0 w (cAll A :: c :: L) R) : St w0 w (cAll (A ++ [c]) :: L) R := by
  obtain ⟨h1, h2, h3, h4, h5⟩ := H.sep
  refine ⟨H.kp, ?_, fun d hd _ b hb hb' => ?_, h5⟩
  · show Sep w (A ++ [c])
    rw [Sep.iff] at *
    have hA : Sep w A := h1
    rw [Sep.iff] at hA
    refine ⟨fun d hd => ?_, List.pairwise_append.2 ⟨hA.2, by simp, fun a ha d hd _ b hb hb' => ?_⟩⟩
    · rcases List.mem_append.1 hd with hd | hd
      · exact hA.1 d hd
      · rw [List.mem_singleton] at hd; subst hd; exact h3
    · rw [List.mem_singleton] at hd
      subst hd
      exact h2 d (by simp) (by simp [cAll]) b ⟨a, ha, hb⟩ hb'
  · obtain ⟨a, ha, hab⟩ := hb
    rcases List.mem_append.1 ha with ha | ha
    · exact h2 d (List.mem_cons_of_mem _ hd) (by simp [cAll]) b ⟨a, ha, hab⟩ hb'
    · rw [List.mem_singleton] at ha
      subst ha
      exact h4 d hd (by simp [hcx]) b hab hb'
/-- A slice of slices, each row the call's own. -/
def matL {α : Type} [Flat α] (e1 e2 : TypeId) (v : Value) (us : List SV) (T : List (List α)) : List Chunk := cOwn e1 v us :: (us.zip T).map fun p => cOwn e2 p.1.v p.2
def cMat {α : Type} [Flat α] (e1 e2 : TypeId) (v : Value) (us : List SV) (T : List (List α)) : Chunk := cAll (matL e1 e2 v us T)
section
variable {α : Type} [Flat α] {e1 e2 : TypeId} {v : Value} {us : List SV} {T : List (List α)} {w0 w : World} {L L' R : List Chunk}
theorem St.nilMat (H : St w0 w L R) (e1 e2 : TypeId) : St w0 w (cMat (α := α) e1 e2 (.slice none 0 0) [] [] :: L) R :=
  H.push (.refl w) (show Sep w _ from ⟨OwnF.nil 0 e1 w, fun d hd => by simp at hd, trivial⟩) (fun b hb => by
    obtain ⟨c, hc, hd⟩ := hb
    simp only [matL, List.zip_nil_left, List.map_nil, List.mem_singleton] at hc
    subst hc
    cases hd)
theorem matOuter (h : (cMat e1 e2 v us T).ok w) : (cOwn e1 v us).ok w := (show Sep w (matL e1 e2 v us T) from h).1
theorem matGet (hl : us.length = T.length) {i : Nat} (hi : i < T.length) : (matL e1 e2 v us T)[i + 1]? = some (cOwn e2 (us.getD i default).v (T.getD i [])) := by
  have h1 : i < us.length := by omega
  simp only [matL, List.getElem?_cons_succ, List.getElem?_map]
  rw [List.getElem?_zip_eq_some (z := (us.getD i default, T.getD i [])) |>.2 ⟨getD_some us h1 _, getD_some T hi _⟩]
  rfl
theorem matRow (h : (cMat e1 e2 v us T).ok w) (hl : us.length = T.length) {i : Nat} (hi : i < T.length) : (cOwn e2 (us.getD i default).v (T.getD i [])).ok w :=
  (show Sep w (matL e1 e2 v us T) from h).get (List.mem_of_getElem? (matGet hl hi))
theorem matCells (h : (cMat e1 e2 v us T).ok w) (hl : us.length = T.length) {i : Int} (h0 : 0 <= i) (hi : i < T.length) : At (rowC v (us.flatMap Flat.enc)) (vat v 1 i.toNat) [(us.getD i.toNat default).v] := by
  have hs := ownSl (matOuter h)
  obtain ⟨cs, ha, hr⟩ := hs.at (getD_some us (k := i.toNat) (by omega) default)
  have : cs = [(us.getD i.toNat default).v] := hr
  subst this
  exact ha
theorem matSet {i : Nat} (hl : us.length = T.length) (hi : i < T.length) (row : List α) : (matL e1 e2 v us T).set (i + 1) (cOwn e2 (us.getD i default).v row) = matL e1 e2 v us (T.set i row) := by
  unfold matL
  rw [List.set_cons_succ]
  congr 1
  apply List.ext_getElem?
  intro j
  rw [List.getElem?_set, List.getElem?_map]
  by_cases hj : i = j
  · subst hj
    have h1 : i < us.length := by omega
    rw [if_pos rfl, if_pos (by simp; omega), List.getElem?_map, (List.getElem?_zip_eq_some (z := (us.getD i default, row))).2 ⟨getD_some us h1 _, by simp [hi]⟩]
    rfl
  · rw [if_neg hj, List.getElem?_map]
    congr 1
    cases h1 : us[j]? with
    | none =>
      rw [List.getElem?_eq_none_iff] at h1
      rw [List.getElem?_eq_none_iff.2 (by simp; omega), List.getElem?_eq_none_iff.2 (by simp; omega)]
    | some u =>
      cases h2 : T[j]? with
      | none =>
        rw [List.getElem?_eq_none_iff] at h2
        rw [List.getElem?_eq_none_iff.2 (by simp; omega), List.getElem?_eq_none_iff.2 (by simp; omega)]
      | some r =>
        rw [(List.getElem?_zip_eq_some (z := (u, r))).2 ⟨h1, h2⟩, (List.getElem?_zip_eq_some (z := (u, r))).2 ⟨h1, by rw [List.getElem?_set_ne hj]; exact h2⟩]
variable {P : Program} {all rest : List Oper} {Q : Post} {σ : Env} {d : Nat} {ty : TypeId} {pos : String} {af : Array Edge}
/-- A store into a row. -/
theorem t_matst {dst : Option Nat} {t k : Nat} {x y : Operand} {val : Value} (H : St w0 w L R) (hk : L[k]? = some (cMat e1 e2 v us T)) (hl : us.length = T.length) (hs : (P.info? t).map (·.size) = some (Elt.sz α)) {i : Nat} (hi : i < T.length) {j : Int} (h0 : 0 <= j) (h1 : j < (T.getD i []).length) (a : α)
    (hx : ev σ x = vat (us.getD i default).v (Elt.sz α) j.toNat) (hy : ev σ y = val) (hv : val.cells = (Flat.enc a : List Value).toArray) {T' : List (List α)} (hT : T.set i ((T.getD i []).set j.toNat a) = T') (hL : L.set k (cMat e1 e2 v us T') = L')
    (kk : ∀ w', St w0 w' L' R -> SL P all Q rest (updo σ dst undef) w') : SL P all Q (⟨dst, .store t x y, ty, pos, af, none⟩ :: rest) σ w := by
  subst hT
  have hok := H.get hk
  have hrow := matRow hok hl hi
  refine s_ost hrow hs h0 h1 a hx hy hv fun w' ho hg => kk w' ?_
  have hc := matGet (e1 := e1) (e2 := e2) (v := v) hl hi
  refine H.set (c' := cMat e1 e2 v us (T.set i ((T.getD i []).set j.toNat a))) hk rfl hg.keep (fun b hb hne => hg.blk b hb (fun hc' => hne ⟨_, List.mem_of_getElem? hc, hc'⟩)) (fun b hb => ?_) ?_ hL
  · rw [cMat, ← matSet hl hi] at hb
    obtain ⟨c, hc', hd⟩ := hb
    rcases List.mem_or_eq_of_mem_set hc' with hc' | rfl
    · exact .inl ⟨c, hc', hd⟩
    · exact .inl ⟨_, List.mem_of_getElem? hc, hd⟩
  · show Sep w' (matL e1 e2 v us (T.set i ((T.getD i []).set j.toNat a)))
    rw [← matSet hl hi]
    exact Sep.set (c := cOwn e2 (us.getD i default).v (T.getD i [])) (c' := cOwn e2 (us.getD i default).v ((T.getD i []).set j.toNat a)) rfl hg.size (fun b hb hne => hg.blk b hb hne) (fun b hb => .inl hb) ho (i + 1) _ hok hc
/-- One row more. -/
theorem t_matapp {t by' : Nat} {z : Value} {x y : Operand} (S : SlT P t e1 1 by' z) (hb : Nat.blt 0 by' = true) {rv vy : Value} {row : List α} {sv : SV} {C : Cells} (H : St w0 w (cMat e1 e2 v us T :: cOwn e2 rv row :: L) R) (hl : us.length = T.length) (hrv : sv.v = rv) (hx : ev σ x = v) (hy : ev σ y = vy)
    (hs : Sl C vy [sv]) (hle : C.Le w.cell?) (hn : (T.length + 1) * by' <= 140737488355328)
    (kk : ∀ v' w', St w0 w' (cMat e1 e2 v' (us ++ [sv]) (T ++ [row]) :: L) R -> SL P all Q rest (upd σ d v') w') :
    SL P all Q (⟨some d, .call ⟨.builtin .append, #[x, y], #[t, t]⟩, ty, pos, af, none⟩ :: rest) σ w := by
  have hok := H.get (k := 0) rfl
  refine s_app (α := SV) S hx hy (matOuter hok) hs hle (Nat.zero_le _) (by rw [hl]; exact hn) (by rw [hl]; exact len63 hb hn) fun v' w' ho hg hne => kk v' w' ?_
  have H1 : St w0 w' (cAll ((matL e1 e2 v us T).set 0 (cOwn e1 v' (us ++ [sv]))) :: cOwn e2 rv row :: L) R := by
    refine H.set (k := 0) (c := cMat e1 e2 v us T) rfl rfl hg.keep (fun b hb hne' => hg.blk b hb (fun hc => hne' ⟨cOwn e1 v us, by simp [matL], hc⟩)) (fun b hb => ?_) ?_ rfl
    · obtain ⟨c, hc, hd⟩ := hb
      simp only [matL, List.set_cons_zero, List.mem_cons] at hc
      rcases hc with rfl | hc
      · by_cases h : b < w.heap.size
        · by_cases h2 : v.ownBlock = some b
          · exact .inl ⟨cOwn e1 v us, by simp [matL], h2⟩
          · exact absurd hd (hne b h h2)
        · exact .inr (by omega)
      · exact .inl ⟨c, by simp only [matL, List.mem_cons]; exact .inr hc, hd⟩
    · exact Sep.set (c := cOwn e1 v us) (c' := cOwn e1 v' (us ++ [sv])) rfl hg.size (fun b hb hne' => hg.blk b hb hne') (fun b hb => by
        by_cases h : b < w.heap.size
        · by_cases h2 : v.ownBlock = some b
          · exact .inl h2
          · exact absurd hb (hne b h h2)
        · exact .inr (by omega)) ho 0 _ hok rfl
  have H2 := St.merge rfl H1
  have e : (matL e1 e2 v us T).set 0 (cOwn e1 v' (us ++ [sv])) ++ [cOwn e2 rv row] = matL e1 e2 v' (us ++ [sv]) (T ++ [row]) := by
    simp only [matL, List.set_cons_zero, List.cons_append]
    congr 1
    rw [List.zip_append (by omega)]
    simp [hrv]
  rw [e] at H2
  exact H2
/-- It is read on only. -/
theorem St.matE (H : St w0 w L R) {k : Nat} (hk : L[k]? = some (cMat e1 e2 v us T)) (hl : us.length = T.length) : ∃ B, St w0 w (L.set k (cRo B)) R /\ Sl B.cells v T := by
  have hok := H.get hk
  refine ⟨⟨w, fun b => (cMat e1 e2 v us T).D b⟩, H.set (c' := cRo ⟨w, fun b => (cMat e1 e2 v us T).D b⟩) hk rfl (.refl w) (fun _ _ _ => rfl) (fun b hb => .inl hb.1) ⟨Nat.le_refl _, fun _ _ _ => rfl⟩ rfl, ?_⟩
  have hD : ∀ (c : Chunk) (C : Cells), c ∈ matL e1 e2 v us T -> C.Le w.cell? -> (∀ a x, C a = some x -> c.D a.block) -> C.Le (Base.cells ⟨w, fun b => (cMat e1 e2 v us T).D b⟩) := by
    intro c C hc hle hd a x hx
    unfold Base.cells
    rw [if_pos (show (cMat e1 e2 v us T).D a.block from ⟨c, hc, hd a x hx⟩)]
    exact hle a x hx
  have rowD : ∀ {β : Type} [Flat β] (e : TypeId) (u : Value) (l : List β) (a : Addr) (x : Value), rowC u (l.flatMap Flat.enc) a = some x -> (cOwn e u l).D a.block := by
    intro β _ e u l a x hx
    unfold rowC at hx
    split at hx
    · rename_i p _ _
      split at hx
      · rename_i ha
        show Value.ownBlock _ = some a.block
        rw [ha]; rfl
      · cases hx
    · cases hx
  have ho := matOuter hok
  have hs := (ownSl ho).mono (hD _ _ (by simp [matL]) (ownLe w ho) (fun a x hx => rowD e1 v us a x hx))
  obtain ⟨a, c, hv, hc, hm, hh⟩ := hs.ex
  refine ⟨⟨a, c, by rw [hv, hl], by omega, hm, fun i r hr => ?_⟩⟩
  have hi : i < T.length := (List.getElem?_eq_some_iff.1 hr).1
  obtain ⟨b, o, cs, ha, hrep, hy⟩ := hh i _ (getD_some us (k := i) (by omega) default)
  have hcs : cs = [(us.getD i default).v] := hrep
  subst hcs
  have hrow := matRow hok hl hi
  have hget : T.getD i [] = r := by simp [List.getD, hr]
  rw [hget] at hrow
  refine ⟨b, o, [(us.getD i default).v], ha, ⟨_, rfl, (ownSl hrow).mono (hD _ _ (List.mem_of_getElem? (matGet hl hi)) ?_ ?_)⟩, hy⟩
  · exact ownLe w hrow
  · intro a' x hx
    have := rowD e2 (us.getD i default).v r a' x hx
    rw [hget]
    exact this
end
end Go.Nm
namespace Go.Nm
open Go
/-! ### Parts as one, and one object -/
def cObj (b : Nat) (o : Obj) : Chunk where
  D k := k = b
  ex := true
  ok w := w.heap[b]? = some o
  st w w' h _ k := (k b rfl).trans h
  bd w k h e := by rw [e]; exact heap_lt h
/-- Blocks for calls that are put off; none is. -/
def cMk (Ds : List Nat) : Chunk where
  D k := k ∈ Ds
  ex := true
  ok w := Ds.Nodup /\ ∀ D ∈ Ds, w.heap[D]? = some (.deferred (some []))
  st w w' h _ k := ⟨h.1, fun D hD => (k D hD).trans (h.2 D hD)⟩
  bd w k h e := heap_lt (h.2 k e)
section
variable {w0 w w' : World} {L L' R A T : List Chunk}
theorem Sep.bundle (hx : ∀ c ∈ A, c.ex = true) (h : Sep w (A ++ T)) : Sep w (cAll A :: T) := by
  rw [Sep.iff] at h
  obtain ⟨h1, h2⟩ := h
  rw [List.pairwise_append] at h2
  refine ⟨?_, fun d hd _ b hb hb' => ?_, ?_⟩
  · show Sep w A
    rw [Sep.iff]
    exact ⟨fun c hc => h1 c (List.mem_append_left _ hc), h2.1⟩
  · obtain ⟨c, hc, hb⟩ := hb
    exact h2.2.2 c hc d hd (by rw [hx c hc]; rfl) b hb hb'
  · rw [Sep.iff]
    exact ⟨fun c hc => h1 c (List.mem_append_right _ hc), h2.2.1⟩
theorem Sep.unbundle (h : Sep w (cAll A :: T)) : Sep w (A ++ T) := by
  obtain ⟨h1, h2, h3⟩ := h
  have h1' : Sep w A := h1
  rw [Sep.iff] at h1' h3 ⊢
  refine ⟨fun c hc => ?_, List.pairwise_append.2 ⟨h1'.2, h3.2, fun a ha b hb hex k hk hk' => ?_⟩⟩
  · rcases List.mem_append.1 hc with hc | hc
    · exact h1'.1 c hc
    · exact h3.1 c hc
  · exact h2 b hb rfl k ⟨a, ha, hk⟩ hk'
theorem St.bundle (hx : ∀ c ∈ A, c.ex = true) (H : St w0 w (A ++ T) R) : St w0 w (cAll A :: T) R :=
  ⟨H.kp, by have := H.sep; rw [List.append_assoc] at this; exact this.bundle hx⟩
theorem St.unbundle (H : St w0 w (cAll A :: T) R) : St w0 w (A ++ T) R :=
  ⟨H.kp, by rw [List.append_assoc]; exact Sep.unbundle H.sep⟩
theorem Keep.putObj {r : Nat} {o o' : Obj} (h : w.heap[r]? = some o) (ho : ∀ c e fr, o ≠ .cells c e fr) (ho' : ∀ c e fr, o' ≠ .cells c e fr) : Keep w (w.putObj r o') := by
  refine ⟨rfl, rfl, by simp, fun a => ?_⟩
  unfold World.frozen?
  by_cases e : a.block = r
  · rw [e, World.putObj_heap_same (heap_lt h), h]
    cases o with
    | cells c e fr => exact absurd rfl (ho c e fr)
    | _ => cases o' with
      | cells c e fr => exact absurd rfl (ho' c e fr)
      | _ => rfl
  · rw [World.putObj_heap_other e]
theorem St.putObj {l : Nat} {o o' : Obj} (H : St w0 w (cObj l o :: L) R) (ho : ∀ c e fr, o ≠ .cells c e fr) (ho' : ∀ c e fr, o' ≠ .cells c e fr) : St w0 (w.putObj l o') (cObj l o' :: L) R :=
  H.set (k := 0) (c := cObj l o) (c' := cObj l o') rfl rfl (Keep.putObj (H.get (k := 0) rfl) ho ho') (fun b _ hb => World.putObj_heap_other hb) (fun b hb => .inl hb)
    (World.putObj_heap_same (heap_lt (H.get (k := 0) rfl))) rfl
theorem St.tail {c : Chunk} (H : St w0 w (c :: L) R) : St w0 w L R := ⟨H.kp, H.sep.2.2⟩
theorem St.allocObj (H : St w0 w L R) (o : Obj) (hx : Ext w (w.alloc o)) : St w0 (w.alloc o) (cObj w.heap.size o :: L) R :=
  H.push (c := cObj w.heap.size o) hx (World.alloc_heap_new w o) (fun b hb => by rw [show b = w.heap.size from hb]; exact Nat.le_refl _)
theorem St.mk0 (H : St w0 w L R) : St w0 w (cMk [] :: L) R :=
  H.push (c := cMk []) (Ext.refl w) ⟨List.nodup_nil, fun _ h => by cases h⟩ (fun b hb => by cases hb)
/-- A block for calls that are put off comes to the others. -/
theorem St.mkCons {D : Nat} {Ds : List Nat} (H : St w0 w (cObj D (.deferred (some [])) :: cMk Ds :: L) R) : St w0 w (cMk (D :: Ds) :: L) R := by
  obtain ⟨h1, h2, h3, h4, h5⟩ := H.sep
  refine ⟨H.kp, ⟨List.nodup_cons.2 ⟨fun hD => h2 (cMk Ds) (by simp) rfl D rfl hD, h3.1⟩, fun E hE => ?_⟩, fun d hd _ b hb hb' => ?_, h5⟩
  · rcases List.mem_cons.1 hE with rfl | hE
    · exact h1
    · exact h3.2 E hE
  · rcases List.mem_cons.1 hb with rfl | hb
    · exact h2 d (List.mem_cons_of_mem _ hd) rfl b rfl hb'
    · exact h4 d hd rfl b hb hb'
end

/-! ### Frames that have come upon such loops -/
def mkD (D : Nat) : Deferred := { target := .collected D, args := #[] }
abbrev PostD := Exit -> List Nat -> Env -> World -> Prop
def WD (P : Program) (n : Nat) (Ds : List Nat) (c : Code) (Q : PostD) (σ : Env) (w : World) : Prop :=
  ∀ a, Fr (Ds.map mkD) n σ a -> c.wpIn (FR none) 0 P (fun e a' w' => ∃ Ds' σ', Fr (Ds'.map mkD) n σ' a' /\ Q e Ds' σ' w') a w
def thenD (K : List Nat -> Env -> World -> Prop) (Q : PostD) : PostD
  | .normal, Ds, σ, w => K Ds σ w
  | e, Ds, σ, w => Q e Ds σ w
def blockD (id : Nat) (Q : PostD) : PostD
  | .exit i, Ds, σ, w => bif Nat.beq i id then Q .normal Ds σ w else Q (.exit i) Ds σ w
  | e, Ds, σ, w => Q e Ds σ w
section
variable {P : Program} {n : Nat} {Q : PostD} {σ : Env} {w : World} {Ds : List Nat}
theorem WD.of {c : Code} (h : W P n c (fun e σ w => Q e Ds σ w) σ w) : WD P n Ds c Q σ w :=
  fun a ha => wpIn_mono (h _ a ha) fun _ _ _ ⟨s, hs, h'⟩ => ⟨Ds, s, hs, h'⟩
theorem WD.seq {x y : Code} (h : WD P n Ds x (thenD (fun Ds σ w => WD P n Ds y Q σ w) Q) σ w) : WD P n Ds (.seq x y) Q σ w := by
  intro a ha
  refine wpIn_seq (wpIn_mono (h a ha) ?_)
  rintro e a' w' ⟨Ds', s, hs, h'⟩
  cases e with
  | normal => exact h' a' hs
  | _ => exact ⟨Ds', s, hs, h'⟩
theorem WD.cond {c : Operand} {x y : Code} (b : Bool) (hc : ev σ c = .bool b) (ht : b = true -> WD P n Ds x Q σ w) (hf : b = false -> WD P n Ds y Q σ w) :
    WD P n Ds (.cond c x y) Q σ w := by
  intro a ha
  refine wpIn_cond_split (t := b) (by rw [ha.eval]; exact hc) (fun h => ht h a ha) (fun h => hf h a ha)
theorem WD.block {id : Nat} {c : Code} (h : WD P n Ds c (blockD id Q) σ w) : WD P n Ds (.block id c) Q σ w := by
  intro a ha
  refine wpIn_block (wpIn_mono (h a ha) ?_)
  rintro e a' w' ⟨Ds', s, hs, h'⟩
  cases e with
  | exit i =>
    simp only [Exit.inBlock]
    unfold blockD at h'
    by_cases e : i = id
    · subst e
      rw [if_pos rfl]
      simp only [Nat.beq_refl, cond_true] at h'
      exact ⟨Ds', s, hs, h'⟩
    · rw [if_neg e]
      have : Nat.beq i id = false := by
        cases hb : Nat.beq i id with
        | false => rfl
        | true => exact absurd (Nat.eq_of_beq_eq_true hb) e
      simp only [this, cond_false] at h'
      exact ⟨Ds', s, hs, h'⟩
  | _ => exact ⟨Ds', s, hs, h'⟩
theorem WD.loop {c : Code} (I : Nat -> List Nat -> Env -> World -> Prop) (h0' : ∃ m, I m Ds σ w)
    (round : ∀ m Ds σ w, I m Ds σ w -> WD P n Ds c (thenD (fun Ds' σ' w' => ∃ m', m' < m /\ I m' Ds' σ' w') Q) σ w) : WD P n Ds (.loop c) Q σ w := by
  obtain ⟨m, h0⟩ := h0'
  intro a ha
  refine wpIn_loop_ghost (fun m a w => ∃ Ds σ, Fr (Ds.map mkD) n σ a /\ I m Ds σ w) m ⟨Ds, σ, ha, h0⟩ ?_
  rintro m a w ⟨Ds, σ, ha, hI⟩
  refine wpIn_mono (round m Ds σ w hI a ha) ?_
  rintro e a' w' ⟨Ds', s, hs, h'⟩
  cases e with
  | normal =>
    obtain ⟨m', hlt, hI'⟩ := h'
    exact ⟨m', hlt, Ds', s, hs, hI'⟩
  | _ => exact ⟨Ds', s, hs, h'⟩
theorem WD.mono {c : Code} {Q' : PostD} (h : WD P n Ds c Q σ w) (hq : ∀ e Ds σ w, Q e Ds σ w -> Q' e Ds σ w) : WD P n Ds c Q' σ w :=
  fun a ha => wpIn_mono (h a ha) fun _ _ _ ⟨d, s, hs, h'⟩ => ⟨d, s, hs, hq _ _ _ _ h'⟩
end
/-! ### The body of a function with such loops -/
/-- The blocks are shut, one behind the other. -/
inductive Shut : List Nat -> World -> World -> Prop
  | nil {w : World} : Shut [] w w
  | cons {D : Nat} {Ds : List Nat} {w w' : World} (h : w.heap[D]? = some (.deferred (some []))) (k : Shut Ds (w.putObj D (.deferred none)) w') : Shut (D :: Ds) w w'
def bodyD (P : Program) (fn : Func) (R : Value -> World -> Prop) : PostD
  | .normal, Ds, σ, w | .ret, Ds, σ, w => ∃ w' v, Shut Ds w w' /\ resE P fn σ w' v /\ R v w'
  | _, _, _, _ => False
theorem shutSt {w0 : World} {L R : List Chunk} : ∀ {Ds : List Nat} {w : World}, St w0 w (cMk Ds :: L) R -> ∃ w', Shut Ds w w' /\ St w0 w' L R
  | [], w, H => ⟨w, .nil, H.tail⟩
  | D :: Ds, w, H => by
    have hD := (H.get (k := 0) rfl : _ /\ _).2 D (by simp)
    have hn := (H.get (k := 0) rfl : _ /\ _).1
    rw [List.nodup_cons] at hn
    have H' : St w0 (w.putObj D (.deferred none)) (cMk Ds :: L) R :=
      H.set (k := 0) (c := cMk (D :: Ds)) (c' := cMk Ds) rfl rfl (Keep.putObj hD (by simp) (by simp)) (fun b _ hb => World.putObj_heap_other (fun e => hb (by rw [e]; exact List.mem_cons_self ..)))
        (fun b hb => .inl (List.mem_cons_of_mem _ hb)) ⟨hn.2, fun E hE => by
          rw [World.putObj_heap_other (fun e => hn.1 (by rw [← e]; exact hE))]
          exact (H.get (k := 0) rfl : _ /\ _).2 E (List.mem_cons_of_mem _ hE)⟩ rfl
    obtain ⟨w', h1, h2⟩ := shutSt H'
    exact ⟨w', .cons hD h1, h2⟩
theorem bodyD_n {P : Program} {fn : Func} {Q : Value -> World -> Prop} {w0 w : World} {L R : List Chunk} {Ds : List Nat} {σ : Env} (H : St w0 w (cMk Ds :: L) R) (k : ∀ w', St w0 w' L R -> ∃ v, resE P fn σ w' v /\ Q v w') : bodyD P fn Q .normal Ds σ w := by
  obtain ⟨w', h1, h2⟩ := shutSt H
  obtain ⟨v, h3, h4⟩ := k w' h2
  exact ⟨w', v, h1, h3, h4⟩
theorem bodyD_r {P : Program} {fn : Func} {Q : Value -> World -> Prop} {w0 w : World} {L R : List Chunk} {Ds : List Nat} {σ : Env} (H : St w0 w (cMk Ds :: L) R) (k : ∀ w', St w0 w' L R -> ∃ v, resE P fn σ w' v /\ Q v w') : bodyD P fn Q .ret Ds σ w :=
  bodyD_n H k
theorem leavesOf {P : Program} {fn : Func} {σ : Env} {tmps : Array Value} {Q : Value -> World -> Prop} (ht : ∀ k, tmps.getD k undef = σ k) {v : Value} : ∀ {Ds : List Nat} {w w' : World}, Shut Ds w w' -> resE P fn σ w' v -> Q v w' →
    LeavesInM Fence.wide 0 P fn tmps (fun e w => ∃ v, e = .returned v /\ Q v w) (Ds.map mkD) .returning w
  | _, w, _, .nil, h, hq => by
    show LeavesIn Fence.wide 0 P fn tmps _ [] .returning w
    exact ⟨v, h tmps ht, v, rfl, hq⟩
  | _, _, _, .cons hD k, h, hq => ⟨by simp, .inl ⟨_, _, rfl, run_takeDeferred hD, leavesOf ht k h hq⟩⟩
theorem ret_of_WD {P : Program} {f : FuncId} {fn : Func} {c : Code} {n : Nat} {args : Array Value} {w : World} {R : Value -> World -> Prop}
    (hf : P.funcs[f]? = some fn) (hb : fn.body = some c) (hn : fn.ntmps = n) (hle' : Nat.ble args.size n = true)
    (h : WD P n [] c (bodyD P fn R) (argE args) w) : Ret P f args w R := by
  have hle := Nat.le_of_ble_eq_true hle'
  subst hn
  refine callsIn_wide.1 (callsIn_of_wp_marks (F := Fence.wide) (n := 0) hf hb trivial (wpIn_mono (h _ ⟨rfl, ?_, fun k => ?_⟩) ?_))
  · simp; omega
  · simp only [argE, Array.getD_eq_getD_getElem?, Array.getElem?_append]
    by_cases hk : k < args.size
    · simp [hk]
    · rw [if_neg hk]
      simp only [Array.getElem?_replicate]
      have : args[k]? = none := by simp; omega
      rw [this]
      split <;> rfl
  · rintro e a' w' ⟨Ds, s, hs, h'⟩
    cases e with
    | normal =>
      obtain ⟨w1, v, h1, h2, h3⟩ := h'
      show LeavesInM _ _ _ _ _ _ a'.defers _ _
      rw [hs.df]
      exact leavesOf hs.get h1 h2 h3
    | ret =>
      obtain ⟨w1, v, h1, h2, h3⟩ := h'
      show LeavesInM _ _ _ _ _ _ a'.defers _ _
      rw [hs.df]
      exact leavesOf hs.get h1 h2 h3
    | _ => exact h'.elim

/-! ### The function that an iterator is handed -/
def YieldC {α T : Type} (P : Program) (R : List Chunk) (AR : Cells -> List Value -> α -> Prop) (Y : T -> List Chunk -> Prop) (yv : Value) (ym : T -> α -> M (Bool × T)) : Prop :=
  ∃ l, yv = .func (.yield l) #[] #[] /\ ∀ (w : World) (L Ls : List Chunk) (t : T) (C : Cells) (vs : List Value) (x : α) (b : Bool) (t' : T), Sep w (cAll Ls :: (L ++ R)) -> Y t Ls -> Reads (L ++ R) C -> AR C vs x -> (ym t x).Ends (b, t') →
    ∃ f tmps assign body, (Instr.yield l vs.toArray).run P w = .ok (.round l f tmps assign body) w /\ RoundIn Fence.wide 0 P l f tmps assign body w fun e w' => e = .returned (B b) /\ ∃ Ls', Y t' Ls' /\ St w w' [cAll Ls'] (L ++ R)
theorem YieldC.app {α T : Type} {P : Program} {R : List Chunk} {AR : Cells -> List Value -> α -> Prop} {Y : T -> List Chunk -> Prop} {yv : Value} {ym : T -> α -> M (Bool × T)} (h : YieldC P R AR Y yv ym) (L : List Chunk) : YieldC P (L ++ R) AR Y yv ym := by
  obtain ⟨l, h1, h2⟩ := h
  refine ⟨l, h1, fun w L' Ls t C vs x b t' => ?_⟩
  rw [← List.append_assoc]
  exact h2 w (L' ++ L) Ls t C vs x b t'
section
variable {α T : Type} {P : Program} {all rest : List Oper} {Q : Post} {σ : Env} {w0 w : World} {L R : List Chunk} {d : Nat} {ty : TypeId} {pos : String} {af : Array Edge}
theorem y_exec {l : Nat} {dst : Option Nat} {x : Operand} {ops : Array Operand} {ts : Array TypeId} {g : Option (Nat × Bool)} {vs : List Value} {nx : Next} (hx : ev σ x = .func (.yield l) #[] #[]) (ha : ops.toList.map (ev σ) = vs)
    (h : (Instr.yield l vs.toArray).run P w = .ok nx w) : (execOp (ev σ) ⟨dst, .call ⟨.value x, ops, ts⟩, ty, pos, af, g⟩).run P w = .ok nx w := by
  subst ha
  simp [execOp, resolve, hx, Deferred.ofValue, invoke, amap]
  exact h
theorem t_yield {AR : Cells -> List Value -> α -> Prop} {Y : T -> List Chunk -> Prop} {x : Operand} {ops : Array Operand} {ts : Array TypeId} {yv : Value} {ym : T -> α -> M (Bool × T)} {C : Cells} {b : Bool} {t t' : T} {Ls : List Chunk} (H : St w0 w (cAll Ls :: L) R) (hf : YieldC P R AR Y yv ym)
    (hY : Y t Ls) (hx : ev σ x = yv) (vs : List Value) (ha : ops.toList.map (ev σ) = vs) (a : α) (hC : Reads (L ++ R) C) (hA : AR C vs a) (hp : (ym t a).Ends (b, t'))
    (k : ∀ Ls' w', Y t' Ls' -> St w0 w' (cAll Ls' :: L) R -> SL P all Q rest (upd σ d (B b)) w') : SL P all Q (⟨some d, .call ⟨.value x, ops, ts⟩, ty, pos, af, none⟩ :: rest) σ w := by
  obtain ⟨l, rfl, h⟩ := hf
  obtain ⟨f, tmps, asg, body, h1, h2⟩ := h w L Ls t C vs a b t' H.sep hY hC hA hp
  simp only [SL, opW, y_exec hx ha h1]
  refine h2.mono fun e w' ⟨he, Ls', hY', H'⟩ => ⟨_, he, k Ls' w' hY' ⟨H.kp.trans H'.kp, H'.sep⟩⟩
end
/-- What the function is, of what a round reckons. -/
def M.yl {S X α : Type} (bd : S -> α -> M (S ⊕ X)) : S ⊕ X -> α -> M (Bool × (S ⊕ X))
  | .inl s, a => M.bind (bd s a) fun r => match r with
    | .inl s' => M.pure (true, .inl s')
    | .inr x => M.pure (false, .inr x)
  | .inr _, _ => M.fail
end Go.Nm
namespace Go.Nm
open Go
theorem Ext.allocObj (w : World) (o : Obj) (ho : ∀ c e fr, o ≠ .cells c e fr) : Ext w (w.alloc o) := by
  refine ⟨rfl, rfl, by rw [World.size_alloc]; omega, fun b hb => ?_, fun a => ?_⟩
  · show (w.heap.push o)[b]? = _
    rw [Array.getElem?_push]
    rw [if_neg (by omega)]
  · unfold World.frozen?
    show (match (w.heap.push o)[a.block]? with | some (.cells _ _ (lo, hi)) => _ | _ => _) = _
    rw [Array.getElem?_push]
    by_cases e : a.block = w.heap.size
    · rw [if_pos e, e]
      have : w.heap[w.heap.size]? = none := by simp
      rw [this]
      cases o with
      | cells c e fr => exact absurd rfl (ho c e fr)
      | _ => rfl
    · rw [if_neg e]
      rfl
/-- What the record of the loop bears. -/
structure RecOf (r : Loop) (n : Nat) (σ : Env) (ps : Array Tmp) (assign body : Code) : Prop where
  st : r.state = .ready
  pd : r.pending = none
  sz : r.tmps.size = n
  get : ∀ k, r.tmps.getD k undef = σ k
  ps : r.params = ps
  asg : r.assign = assign
  body : r.body = body
section
variable {P : Program} {n : Nat} {σ : Env} {w0 w : World} {L R T : List Chunk} {Ds : List Nat}
theorem WD.range {Q : PostD} {g : Operand} {ps : Array Tmp} {assign body : Code} {f : FuncId} (cap : List Value) (H : St w0 w (cMk Ds :: L) R) (hg : ev σ g = .func (.func f) #[] cap.toArray) (hcf : CF P f)
    (k : ∀ (l D : Nat) (r : Loop) (w1 : World), RecOf r n σ ps assign body -> St w0 w1 (cObj l (.loop r) :: cMk (D :: Ds) :: L) R →
      Ret P f (.func (.yield l) #[] #[] :: cap).toArray w1 fun _ w2 => ∃ (r' : Loop) (L' : List Chunk), St w0 w2 (cObj l (.loop r') :: cMk (D :: Ds) :: L') R /\ r'.state ≠ .busy ∧
        ∀ w3, St w0 w3 (cMk (D :: Ds) :: L') R -> match r'.pending with
          | none => Q .normal (D :: Ds) σ w3
          | some c => WD P n (D :: Ds) c Q σ w3) :
    WD P n Ds (.rangeFunc g ps assign body) Q σ w := by
  intro a ha
  refine wpIn_rangeFunc fun fn _ => ?_
  have h1 := (H.allocObj (.deferred (some [])) (Ext.allocObj _ _ (by simp))).mkCons
  have h2 := h1.allocObj (.loop { state := .ready, pending := none, fn, tmps := a.tmps, params := ps, assign, body, defers := w.heap.size }) (Ext.allocObj _ _ (by simp))
  rw [World.size_alloc] at h2
  have hk := k (w.heap.size + 1) w.heap.size _ _ ⟨rfl, rfl, ha.sz, ha.get, rfl, rfl, rfl⟩ h2
  have hent := run_enterLoop_outer (P := P) (w := w) fn a.tmps ps assign body
  generalize (w.alloc (.deferred (some []))).alloc (.loop { state := .ready, pending := none, fn, tmps := a.tmps, params := ps, assign, body, defers := w.heap.size }) = W1 at hk hent
  refine ⟨w.heap.size + 1, [mkD w.heap.size], W1, { target := .fn (.func f) cap.toArray, args := #[.func (.yield (w.heap.size + 1)) #[] #[]] }, W1, f, (.func (.yield (w.heap.size + 1)) #[] #[] :: cap).toArray, W1, hent, ?_, fun _ _ => trivial, ?_, fun hc => by simp [FR, Fence.wide] at hc, ?_⟩
  · rw [ha.eval]
    have he : ev σ (.const (.func (.yield (w.heap.size + 1)) #[] #[])) = .func (.yield (w.heap.size + 1)) #[] #[] := rfl
    simp [resolve, rangeCall, hg, Deferred.ofValue, he]
  · simp [invoke, run_callFunc hcf]
  · refine CallsIn.mono (callsFR hk) ?_
    · rintro e w2 ⟨v, rfl, r', L', H', hb, hq⟩
      have hl := H'.get (k := 0) rfl
      refine ⟨_, _, run_endLoop hl hb, ?_⟩
      have hq := hq _ (H'.putObj (o' := .loop { r' with state := .exhausted }) (by simp) (by simp)).tail
      have hfr : Fr ((w.heap.size :: Ds).map mkD) n σ { a with defers := [mkD w.heap.size] ++ a.defers } := ⟨by show [mkD w.heap.size] ++ a.defers = _; rw [ha.df]; rfl, ha.sz, ha.get⟩
      cases hp : r'.pending with
      | none => rw [hp] at hq; exact ⟨_, _, hfr, hq⟩
      | some c => rw [hp] at hq; exact hq _ hfr
def setP (σ : Env) (ps : List Tmp) (vs : List Value) : Env := (ps.zip vs).foldl (fun σ x => upd σ x.1 x.2) σ
theorem setP_get {n : Nat} : ∀ (ps : List (Nat × Value)) {σ : Env} {tmps : Array Value}, tmps.size = n -> (∀ k, tmps.getD k undef = σ k) -> (∀ p ∈ ps, p.1 < n) →
    (ps.foldl (fun (tmps : Array Value) x => tmps.setIfInBounds x.1 x.2) tmps).size = n /\ ∀ k, (ps.foldl (fun (tmps : Array Value) x => tmps.setIfInBounds x.1 x.2) tmps).getD k undef = ps.foldl (fun σ x => upd σ x.1 x.2) σ k
  | [], _, _, hs, hg, _ => ⟨hs, hg⟩
  | (p, v) :: ps, σ, tmps, hs, hg, hp => by
    have hlt := hp (p, v) (by simp)
    refine setP_get ps (σ := upd σ p v) (tmps := tmps.setIfInBounds p v) (by simpa using hs) (fun k => ?_) (fun q hq => hp q (by simp [hq]))
    have := Fr.put (ds := []) (n := n) (σ := σ) (a := { tmps := tmps, defers := [] }) ⟨rfl, hs, hg⟩ hlt v
    exact this.get k
/-- How a round is left, as code. -/
def jumpOf : Exit -> Option Code
  | .ret => some .ret
  | .exit id => some (.exit id)
  | _ => none
variable {S X α : Type}
def rdQ (Ys : S -> List Chunk -> Prop) (Yx : X -> List Chunk -> Prop) (J : X -> Code) (w : World) (T R : List Chunk) (r : S ⊕ X) : Post
  | .normal, _, w' => ∃ s Ls, r = .inl s /\ Ys s Ls /\ St w w' (Ls ++ T) R
  | e, _, w' => ∃ x Ls, r = .inr x /\ Yx x Ls /\ St w w' (Ls ++ T) R /\ jumpOf e = some (J x)
def yJ (l : Nat) (r0 : Loop) (Ys : S -> List Chunk -> Prop) (Yx : X -> List Chunk -> Prop) (J : X -> Code) : S ⊕ X -> List Chunk -> Prop
  | .inl s, Ls => ∃ Ls', Ls = cObj l (.loop r0) :: Ls' /\ Ys s Ls'
  | .inr x, Ls => ∃ Ls', Ls = cObj l (.loop { r0 with state := .done, pending := some (J x) }) :: Ls' /\ Yx x Ls'
/-- These parts lie among those. -/
def Sup (R' R : List Chunk) : Prop := ∃ L, R' = L ++ R
theorem Reads.sub {R R' : List Chunk} {C : Cells} (h : Reads R C) (s : Sup R' R) : Reads R' C := by
  obtain ⟨L, rfl⟩ := s; exact h.app L
theorem Has.sub {R R' : List Chunk} {c : Chunk} (h : Has R c) (s : Sup R' R) : Has R' c := by
  obtain ⟨L, rfl⟩ := s; exact h.app L
theorem FnM.sub {α : Type} [Elt α] {P : Program} {R R' : List Chunk} {vf : Value} {p : α -> M Bool} (h : FnM P R vf p) (s : Sup R' R) : FnM P R' vf p := by
  obtain ⟨L, rfl⟩ := s; exact h.app L
theorem YieldC.sub {α T : Type} {P : Program} {R R' : List Chunk} {AR : Cells -> List Value -> α -> Prop} {Y : T -> List Chunk -> Prop} {yv : Value} {ym : T -> α -> M (Bool × T)} (h : YieldC P R AR Y yv ym) (s : Sup R' R) : YieldC P R' AR Y yv ym := by
  obtain ⟨L, rfl⟩ := s; exact h.app L
theorem permA {c : Chunk} {A L T R : List Chunk} : ((A ++ T) ++ (c :: L ++ R)).Perm ((c :: A) ++ (L ++ (T ++ R))) := by
  have h1 : ((A ++ T) ++ (c :: L ++ R)).Perm (c :: ((A ++ T) ++ (L ++ R))) := by
    rw [List.cons_append]
    exact List.perm_middle
  refine h1.trans ?_
  show List.Perm _ (c :: (A ++ (L ++ (T ++ R))))
  refine List.Perm.cons c ?_
  rw [List.append_assoc]
  refine List.Perm.append_left A ?_
  rw [← List.append_assoc, ← List.append_assoc]
  exact List.Perm.append_right R List.perm_append_comm
theorem exAll {L : List Chunk} (h : L.all (·.ex) = true) : ∀ c ∈ L, c.ex = true := fun c hc => List.all_eq_true.1 h c hc
theorem RecOf.nb {r : Loop} {ps : Array Tmp} {assign body : Code} (h : RecOf r n σ ps assign body) : r.state ≠ .busy := by rw [h.st]; simp
theorem St.bundleB {A : List Chunk} (hx : A.all (·.ex) = true) (H : St w0 w (A ++ T) R) : St w0 w (cAll A :: T) R := H.bundle (exAll hx)
/-- One round. -/
theorem YieldC.mk {l : Nat} {r0 : Loop} {ps : Array Tmp} {assign body : Code} (hr : RecOf r0 n σ ps assign body) {AR : Cells -> List Value -> α -> Prop} (Ys : S -> List Chunk -> Prop) (Yx : X -> List Chunk -> Prop) (J : X -> Code) (bd : S -> α -> M (S ⊕ X))
    (hexS : ∀ s Ls, Ys s Ls -> Ls.all (·.ex) = true) (hexX : ∀ x Ls, Yx x Ls -> Ls.all (·.ex) = true) (hps : (ps.toList.all fun p => Nat.blt p n) = true) (hAR : ∀ C vs x, AR C vs x -> vs.length = ps.size)
    (hab : ∀ C vs x w, AR C vs x -> WR (some l) P n assign (fun e σ1 w1 => e = .normal /\ w1 = w ∧
      ∀ (w : World) (R' : List Chunk), Sup R' R -> ∀ (Ls : List Chunk) (s : S) (r : S ⊕ X), Ys s Ls -> (bd s x).Ends r -> St w w (Ls ++ T) R' -> WR (some l) P n body (rdQ Ys Yx J w T R' r) σ1 w) (setP σ ps.toList vs) w) :
    YieldC P (T ++ R) AR (yJ l r0 Ys Yx J) (.func (.yield l) #[] #[]) (M.yl bd) := by
  refine ⟨l, rfl, fun w L Ls t C vs x b t' hS hY _ hA hp => ?_⟩
  cases t with
  | inr x => exact (M.e_fail hp).elim
  | inl s =>
    obtain ⟨Ls', rfl, hYs⟩ := hY
    have hU := hS.unbundle
    have hl : w.heap[l]? = some (.loop r0) := hU.get (c := cObj l (.loop r0)) (by simp)
    obtain ⟨r, hr1, hp⟩ := M.e_bind hp
    have hlen := hAR C vs x hA
    refine ⟨_, _, _, _, run_yield hl (by rw [hr.ps]; simpa using hlen), roundIn_of_wpIn trivial ?_⟩
    have hps' : ∀ p ∈ (ps.toList.zip vs), p.1 < n := by
      rintro ⟨p, v⟩ hp
      have := List.all_eq_true.1 hps p (List.of_mem_zip hp).1
      exact of_eq_true (Nat.blt_eq ▸ eq_true this)
    have hset := setP_get (ps.toList.zip vs) hr.sz hr.get hps'
    have hzip : ((r0.params.zip vs.toArray).foldl (fun (tmps : Array Value) (x : Tmp × Value) => match x with | (t, a) => tmps.setIfInBounds t a) r0.tmps) = (ps.toList.zip vs).foldl (fun (tmps : Array Value) x => tmps.setIfInBounds x.1 x.2) r0.tmps := by
      rw [hr.ps, ← Array.foldl_toList, Array.toList_zip]
    have h1 := hab C vs x w hA [] { tmps := (r0.params.zip vs.toArray).foldl (fun (tmps : Array Value) (x : Tmp × Value) => match x with | (t, a) => tmps.setIfInBounds t a) r0.tmps, defers := [] } ⟨rfl, by rw [hzip]; exact hset.1, fun k => by rw [hzip]; exact hset.2 k⟩
    rw [hr.asg, hr.body]
    refine wpIn_mono (F := FR (some l)) h1 ?_
    rintro e a1 w1 ⟨σ1, hs1, rfl, rfl, hb⟩
    have hperm : Sep w1 (cObj l (.loop r0) :: (Ls' ++ (L ++ (T ++ R)))) := hU
    have H0 : St w1 w1 (cObj l (.loop r0) :: (Ls' ++ (L ++ (T ++ R)))) [] := ⟨Keep.refl _, by rw [List.append_nil]; exact hperm⟩
    have H1 := H0.putObj (o' := .loop { r0 with state := .busy }) (by simp) (by simp)
    refine ⟨_, run_beginRound hl hr.st, ?_⟩
    have hS2 := H1.sep
    rw [List.append_nil] at hS2
    have H2 : St (w1.putObj l (.loop { r0 with state := .busy })) (w1.putObj l (.loop { r0 with state := .busy })) (Ls' ++ T) (cObj l (.loop { r0 with state := .busy }) :: L ++ R) := ⟨Keep.refl _, hS2.perm permA⟩
    have h3 := hb _ (cObj l (.loop { r0 with state := .busy }) :: L ++ R) ⟨_, rfl⟩ Ls' s r hYs hr1 H2 [] a1 hs1
    refine wpIn_mono h3 ?_
    rintro e a2 w3 ⟨σ2, hs2, hq⟩
    have fin : ∀ (jump : Option Code) (Ls'' : List Chunk) (t'' : S ⊕ X) (r1 : Loop), (∀ c ∈ Ls'', c.ex = true) -> St (w1.putObj l (.loop { r0 with state := .busy })) w3 (Ls'' ++ T) (cObj l (.loop { r0 with state := .busy }) :: L ++ R) →
        r1 = { r0 with state := if jump.isNone then .ready else .done, pending := jump } -> yJ l r0 Ys Yx J t' (cObj l (.loop r1) :: Ls'') -> b = jump.isNone →
        ∃ v w', (Instr.endRound l jump).run P w3 = .ok v w' /\ (Ending.returned v = .returned (B b) /\ ∃ Ls', yJ l r0 Ys Yx J t' Ls' /\ St w1 w' [cAll Ls'] (L ++ (T ++ R))) := by
      rintro jump Ls'' t'' r1 hx H' rfl hy rfl
      have hS3 : Sep w3 (cObj l (.loop { r0 with state := .busy }) :: (Ls'' ++ (L ++ (T ++ R)))) := H'.sep.perm permA.symm
      have H4 : St w3 w3 (cObj l (.loop { r0 with state := .busy }) :: (Ls'' ++ (L ++ (T ++ R)))) [] := ⟨Keep.refl _, by rw [List.append_nil]; exact hS3⟩
      have hl3 := H4.get (k := 0) rfl
      have H5 := H4.putObj (o' := .loop { r0 with state := if jump.isNone then .ready else .done, pending := jump }) (by simp) (by simp)
      refine ⟨_, _, run_endRound jump hl3, rfl, _, hy, (H1.kp.trans H'.kp).trans H5.kp, ?_⟩
      have h5 := H5.sep
      rw [List.append_nil] at h5
      refine Sep.bundle (A := cObj l (.loop { r0 with state := if jump.isNone then .ready else .done, pending := jump }) :: Ls'') (fun c hc => ?_) h5
      rcases List.mem_cons.1 hc with rfl | hc
      · rfl
      · exact hx c hc
    have hready : ({ r0 with state := .ready, pending := none } : Loop) = r0 := by rw [← hr.st, ← hr.pd]
    have two : ∀ (x : X) (_ : List Chunk), r = .inr x -> t' = .inr x /\ b = false := by
      rintro x _ rfl
      have := M.e_pure hp
      cases this
      exact ⟨rfl, rfl⟩
    cases e with
    | normal =>
      obtain ⟨s', Ls'', rfl, hy, H'⟩ := hq
      have := M.e_pure hp
      cases this
      exact fin none Ls'' (.inl s') r0 (exAll (hexS _ _ hy)) H' hready.symm ⟨Ls'', rfl, hy⟩ rfl
    | ret =>
      obtain ⟨x, Ls'', hr', hy, H', hj⟩ := hq
      obtain ⟨rfl, rfl⟩ := two x Ls'' hr'
      refine fin (some .ret) Ls'' (.inr x) _ (exAll (hexX _ _ hy)) H' rfl ?_ rfl
      refine ⟨Ls'', ?_, hy⟩
      rw [show J x = .ret from (Option.some.inj hj).symm]
      rfl
    | exit id =>
      obtain ⟨x, Ls'', hr', hy, H', hj⟩ := hq
      obtain ⟨rfl, rfl⟩ := two x Ls'' hr'
      refine fin (some (.exit id)) Ls'' (.inr x) _ (exAll (hexX _ _ hy)) H' rfl ?_ rfl
      refine ⟨Ls'', ?_, hy⟩
      rw [show J x = .exit id from (Option.some.inj hj).symm]
      rfl
    | goto id => obtain ⟨x, Ls'', _, _, _, hj⟩ := hq; cases hj
    | panic c => obtain ⟨x, Ls'', _, _, _, hj⟩ := hq; cases hj
    | outgrown => obtain ⟨x, Ls'', _, _, _, hj⟩ := hq; cases hj
end
theorem M.le_yl {S X α : Type} {n : Nat} {bd bd' : S -> α -> M (S ⊕ X)} (h : ∀ s a, M.LeN n (bd s a) (bd' s a)) (t : S ⊕ X) (a : α) : M.LeN n (M.yl bd t a) (M.yl bd' t a) := by
  cases t with
  | inl s => exact M.le_bind (h s a) fun _ => M.le_same _ _
  | inr x => exact M.le_same _ _
/-- What an iterator hands over. -/
def arI : Cells -> List Value -> Int -> Prop := fun _ vs x => vs = [I x]
theorem arI_len {k : Nat} (hk : k = 1) : ∀ C vs x, arI C vs x -> vs.length = k := fun _ _ _ h => by rw [show _ = _ from h, hk]; rfl
section
variable {P : Program} {all rest : List Oper} {Q : Post} {σ : Env} {w0 w : World} {L R : List Chunk} {d : Nat} {ty : TypeId} {pos : String} {af : Array Edge}
/-- A slice literal of plain data, under a guard: it is read on only. -/
theorem t_gbs {α : Type} [Flat α] {t e by' : Nat} {z : Value} {parts : Array (Nat × Operand)} (T : SlT P t e (Elt.sz α) by' z) {j : Nat} {want : Bool} (c : Bool) (hy : (yieldedE all σ j == some want) = c) (vs : List Value) (l : List α) (H : St w0 w L R)
    (hp : c = true -> parts.toList.map (fun x => (x.1, ev σ x.2)) = (vs.zipIdx 0).map fun x => (x.2, x.1)) (hr : Reps (fun _ => none) vs l) {n : Nat} (hn : l.length = n) (h0 : Nat.blt 0 n = true) (hsm : Nat.ble (n * Elt.sz α) 16777216 = true)
    (k : ∀ u B w', St w0 w' (cRo B :: L) R -> (c = true -> Sl B.cells u l) -> SL P all Q rest (upd σ d (gd c u)) w') : SL P all Q (⟨some d, .buildSlice t n parts, ty, pos, af, some (j, want)⟩ :: rest) σ w := by
  refine g_split rfl c hy (fun e => ?_) (fun e => ?_)
  · refine t_bs (α := α) T vs l H (hp e) hr hn h0 hsm fun u w' H' => ?_
    obtain ⟨B, H2, hs⟩ := H'.freezeE (k := 0) rfl
    have := k u B w' H2 (fun _ => hs)
    rwa [gd_of e] at this
  · have := k undef ⟨w, fun _ => False⟩ w (H.push (c := cRo ⟨w, fun _ => False⟩) (Ext.refl w) ⟨Nat.le_refl _, fun _ h => h.elim⟩ (fun _ h => h.1.elim)) (fun h => by rw [e] at h; cases h)
    rwa [gd_no e] at this
end
end Go.Nm
namespace Go.Nm
open Go
section
variable {P : Program} {w : World} {σ : Env} {d : Nat} {ty : TypeId} {pos : String} {af : Array Edge} {g : Option (Nat × Bool)}
theorem sl_none {α : Type} [Elt α] {C : Cells} {v : Value} {l : List α} (h : Sl C v l) (hn : l = [] -> v = .slice none 0 0) : ∃ a n c, v = .slice a n c /\ a.isNone = l.isEmpty := by
  cases l with
  | nil => exact ⟨none, 0, 0, hn rfl, rfl⟩
  | cons x l =>
    obtain ⟨a, c, hv, _, _, hh⟩ := h.ex
    obtain ⟨b, o, cs, rfl, _⟩ := hh 0 x rfl
    exact ⟨_, _, _, hv, rfl⟩
theorem x_eqnil {α : Type} [Elt α] {t e yt : TypeId} {x y : Operand} {C : Cells} {v : Value} {l : List α} (ht : P.underlying t = some (.slice e)) (hx : ev σ x = v) (hy : ev σ y = .slice none 0 0) (h : Sl C v l) (hn : l = [] -> v = .slice none 0 0) :
    (execOp (ev σ) ⟨some d, .binOp .eql t x y yt, ty, pos, af, g⟩).run P w = .ok (.value (.bool l.isEmpty)) w := by
  obtain ⟨a, n, c, rfl, ha⟩ := sl_none h hn
  simp [execOp, hx, hy, eqGuard, binOp, run_equal_slice_nil w t e a n c ht, ha]
theorem x_nenil {α : Type} [Elt α] {t e yt : TypeId} {x y : Operand} {C : Cells} {v : Value} {l : List α} (ht : P.underlying t = some (.slice e)) (hx : ev σ x = v) (hy : ev σ y = .slice none 0 0) (h : Sl C v l) (hn : l = [] -> v = .slice none 0 0) :
    (execOp (ev σ) ⟨some d, .binOp .neq t x y yt, ty, pos, af, g⟩).run P w = .ok (.value (.bool (!l.isEmpty))) w := by
  obtain ⟨a, n, c, rfl, ha⟩ := sl_none h hn
  simp [execOp, hx, hy, eqGuard, binOp, run_equal_slice_nil w t e a n c ht, ha]
end
end Go.Nm
namespace Go.Nm
open Go
section
variable {P : Program} {w : World} {σ : Env} {d : Nat} {ty : TypeId} {pos : String} {af : Array Edge} {g : Option (Nat × Bool)}
end
section
variable {P : Program} {all rest : List Oper} {Q : Post} {σ : Env} {w0 w : World} {L L' R : List Chunk} {d : Nat} {ty : TypeId} {pos : String} {af : Array Edge} {g : Option (Nat × Bool)}
end
section
variable {r : Option Nat} {P : Program} {n : Nat} {Q : Post} {σ : Env} {w : World}
theorem W.seqJ {x y : Code} (J : Env -> World -> Prop) (h : WR r P n x (thenQ J Q) σ w) (k : ∀ σ' w', J σ' w' -> WR r P n y Q σ' w') : WR r P n (.seq x y) Q σ w := by
  refine W.seq fun ds a ha => wpIn_mono (h ds a ha) ?_
  rintro e a' w' ⟨s, hs, h'⟩
  cases e with
  | normal => exact ⟨s, hs, k _ _ h'⟩
  | _ => exact ⟨s, hs, h'⟩
end
end Go.Nm
namespace Go.Nm
open Go
section
variable {P : Program} {w : World} {σ : Env} {d : Nat} {ty : TypeId} {pos : String} {af : Array Edge} {g : Option (Nat × Bool)}
theorem x_pand0 {c x y : Operand} {b : Bool} (hc : ev σ c = .bool b) (hx : b = true -> ev σ x = .bool false) (hy : ev σ y = .bool false) :
    (execOp (ev σ) ⟨some d, .pick c x y, ty, pos, af, g⟩).run P w = .ok (.value (.bool false)) w := by
  have := x_pand (P := P) (w := w) (d := d) (ty := ty) (pos := pos) (af := af) (g := g) hc hx hy
  rwa [Bool.and_false] at this
end
end Go.Nm
namespace Go.Proofs.Ytndobgodeicloaa
open Go Go.Nm
theorem cf16 : CF Try.prog 16 := ⟨_, Try.func16, rfl, by decide +kernel⟩
theorem cf17 : CF Try.prog 17 := ⟨_, Try.func17, rfl, by decide +kernel⟩
theorem cf18 : CF Try.prog 18 := ⟨_, Try.func18, rfl, by decide +kernel⟩
theorem cf23 : CF Try.prog 23 := ⟨_, Try.func23, rfl, by decide +kernel⟩
theorem cf25 : CF Try.prog 25 := ⟨_, Try.func25, rfl, by decide +kernel⟩
theorem cf26 : CF Try.prog 26 := ⟨_, Try.func26, rfl, by decide +kernel⟩
theorem cf28 : CF Try.prog 28 := ⟨_, Try.func28, rfl, by decide +kernel⟩
theorem cf31 : CF Try.prog 31 := ⟨_, Try.func31, rfl, by decide +kernel⟩
theorem cf32 : CF Try.prog 32 := ⟨_, Try.func32, rfl, by decide +kernel⟩
theorem cf33 : CF Try.prog 33 := ⟨_, Try.func33, rfl, by decide +kernel⟩
theorem cf34 : CF Try.prog 34 := ⟨_, Try.func34, rfl, by decide +kernel⟩
theorem cf36 : CF Try.prog 36 := ⟨_, Try.func36, rfl, by decide +kernel⟩
theorem cf38 : CF Try.prog 38 := ⟨_, Try.func38, rfl, by decide +kernel⟩
theorem cf58 : CF Try.prog 58 := ⟨_, Try.func58, rfl, by decide +kernel⟩
theorem cf59 : CF Try.prog 59 := ⟨_, Try.func59, rfl, by decide +kernel⟩
theorem cf60 : CF Try.prog 60 := ⟨_, Try.func60, rfl, by decide +kernel⟩
theorem cf61 : CF Try.prog 61 := ⟨_, Try.func61, rfl, by decide +kernel⟩
theorem cf62 : CF Try.prog 62 := ⟨_, Try.func62, rfl, by decide +kernel⟩
theorem cf63 : CF Try.prog 63 := ⟨_, Try.func63, rfl, by decide +kernel⟩
theorem cf64 : CF Try.prog 64 := ⟨_, Try.func64, rfl, by decide +kernel⟩
theorem cf65 : CF Try.prog 65 := ⟨_, Try.func65, rfl, by decide +kernel⟩
theorem cf66 : CF Try.prog 66 := ⟨_, Try.func66, rfl, by decide +kernel⟩
theorem cf71 : CF Try.prog 71 := ⟨_, Try.func71, rfl, by decide +kernel⟩
theorem cf79 : CF Try.prog 79 := ⟨_, Try.func79, rfl, by decide +kernel⟩
theorem cf80 : CF Try.prog 80 := ⟨_, Try.func80, rfl, by decide +kernel⟩
theorem cf93 : CF Try.prog 93 := ⟨_, Try.func93, rfl, by decide +kernel⟩
theorem cf94 : CF Try.prog 94 := ⟨_, Try.func94, rfl, by decide +kernel⟩
theorem cf97 : CF Try.prog 97 := ⟨_, Try.func97, rfl, by decide +kernel⟩
theorem cf98 : CF Try.prog 98 := ⟨_, Try.func98, rfl, by decide +kernel⟩
theorem cf105 : CF Try.prog 105 := ⟨_, Try.func105, rfl, by decide +kernel⟩
theorem cf107 : CF Try.prog 107 := ⟨_, Try.func107, rfl, by decide +kernel⟩
theorem cf108 : CF Try.prog 108 := ⟨_, Try.func108, rfl, by decide +kernel⟩
theorem cf110 : CF Try.prog 110 := ⟨_, Try.func110, rfl, by decide +kernel⟩
theorem cf116 : CF Try.prog 116 := ⟨_, Try.func116, rfl, by decide +kernel⟩
theorem cf117 : CF Try.prog 117 := ⟨_, Try.func117, rfl, by decide +kernel⟩
theorem cf118 : CF Try.prog 118 := ⟨_, Try.func118, rfl, by decide +kernel⟩
theorem cf119 : CF Try.prog 119 := ⟨_, Try.func119, rfl, by decide +kernel⟩
theorem cf120 : CF Try.prog 120 := ⟨_, Try.func120, rfl, by decide +kernel⟩
theorem cf121 : CF Try.prog 121 := ⟨_, Try.func121, rfl, by decide +kernel⟩
theorem cf122 : CF Try.prog 122 := ⟨_, Try.func122, rfl, by decide +kernel⟩
theorem cf123 : CF Try.prog 123 := ⟨_, Try.func123, rfl, by decide +kernel⟩
theorem cf124 : CF Try.prog 124 := ⟨_, Try.func124, rfl, by decide +kernel⟩
theorem cf125 : CF Try.prog 125 := ⟨_, Try.func125, rfl, by decide +kernel⟩
theorem cf126 : CF Try.prog 126 := ⟨_, Try.func126, rfl, by decide +kernel⟩
theorem cf127 : CF Try.prog 127 := ⟨_, Try.func127, rfl, by decide +kernel⟩
theorem cf128 : CF Try.prog 128 := ⟨_, Try.func128, rfl, by decide +kernel⟩
theorem cf129 : CF Try.prog 129 := ⟨_, Try.func129, rfl, by decide +kernel⟩
theorem cf135 : CF Try.prog 135 := ⟨_, Try.func135, rfl, by decide +kernel⟩
theorem cf148 : CF Try.prog 148 := ⟨_, Try.func148, rfl, by decide +kernel⟩
theorem cf149 : CF Try.prog 149 := ⟨_, Try.func149, rfl, by decide +kernel⟩
theorem cf150 : CF Try.prog 150 := ⟨_, Try.func150, rfl, by decide +kernel⟩
theorem cf159 : CF Try.prog 159 := ⟨_, Try.func159, rfl, by decide +kernel⟩
theorem cf160 : CF Try.prog 160 := ⟨_, Try.func160, rfl, by decide +kernel⟩
theorem T145 : SlT Try.prog 145 147 1 24 (.slice none 0 0) := ⟨Try.underlying145, by kernel_rfl, rfl, by decide⟩
theorem T147 : SlT Try.prog 147 4 1 1 (B false) := ⟨Try.underlying147, by kernel_rfl, rfl, by decide⟩
theorem Sc35 : isSc (Try.prog.underlying 35) = true := by rw [Try.underlying35]; rfl
theorem Sc127 : isSc (Try.prog.underlying 127) = true := by rw [Try.underlying127]; rfl
theorem Sc147 : isSc (Try.prog.underlying 147) = true := by rw [Try.underlying147]; rfl
theorem Sc160 : isSc (Try.prog.underlying 160) = true := by rw [Try.underlying160]; rfl
theorem Sc174 : isSc (Try.prog.underlying 174) = true := by rw [Try.underlying174]; rfl
theorem Sc177 : isSc (Try.prog.underlying 177) = true := by rw [Try.underlying177]; rfl
theorem Sc178 : isSc (Try.prog.underlying 178) = true := by rw [Try.underlying178]; rfl
theorem Sc183 : isSc (Try.prog.underlying 183) = true := by rw [Try.underlying183]; rfl
theorem Sz35 : (Try.prog.info? 35).map (·.size) = some 1 := by kernel_rfl
theorem Sz75 : (Try.prog.info? 75).map (·.size) = some 1 := by kernel_rfl
theorem Sz127 : (Try.prog.info? 127).map (·.size) = some 1 := by kernel_rfl
theorem Sz160 : (Try.prog.info? 160).map (·.size) = some 1 := by kernel_rfl
theorem Sz174 : (Try.prog.info? 174).map (·.size) = some 1 := by kernel_rfl
theorem Sz177 : (Try.prog.info? 177).map (·.size) = some 1 := by kernel_rfl
theorem Sz178 : (Try.prog.info? 178).map (·.size) = some 1 := by kernel_rfl
theorem Sz183 : (Try.prog.info? 183).map (·.size) = some 1 := by kernel_rfl
theorem Fd180_0 : (Try.prog.underlying 180).bind (fun d => match d with | .struct fs => (fs[0]?).map (fun f => (f.offset, f.type)) | _ => none) = some (0, 127) := by rw [Try.underlying180]; rfl
theorem Fd180_1 : (Try.prog.underlying 180).bind (fun d => match d with | .struct fs => (fs[1]?).map (fun f => (f.offset, f.type)) | _ => none) = some (1, 34) := by rw [Try.underlying180]; rfl
theorem Fd180_2 : (Try.prog.underlying 180).bind (fun d => match d with | .struct fs => (fs[2]?).map (fun f => (f.offset, f.type)) | _ => none) = some (2, 3) := by rw [Try.underlying180]; rfl
theorem Fd180_3 : (Try.prog.underlying 180).bind (fun d => match d with | .struct fs => (fs[3]?).map (fun f => (f.offset, f.type)) | _ => none) = some (3, 177) := by rw [Try.underlying180]; rfl
theorem Fd180_4 : (Try.prog.underlying 180).bind (fun d => match d with | .struct fs => (fs[4]?).map (fun f => (f.offset, f.type)) | _ => none) = some (4, 178) := by rw [Try.underlying180]; rfl
theorem Fd211_0 : (Try.prog.underlying 211).bind (fun d => match d with | .struct fs => (fs[0]?).map (fun f => (f.offset, f.type)) | _ => none) = some (0, 127) := by rw [Try.underlying211]; rfl
theorem Fd211_1 : (Try.prog.underlying 211).bind (fun d => match d with | .struct fs => (fs[1]?).map (fun f => (f.offset, f.type)) | _ => none) = some (1, 75) := by rw [Try.underlying211]; rfl
theorem Fd211_2 : (Try.prog.underlying 211).bind (fun d => match d with | .struct fs => (fs[2]?).map (fun f => (f.offset, f.type)) | _ => none) = some (2, 178) := by rw [Try.underlying211]; rfl
theorem Al4 : (Try.prog.info? 4).map (·.zero) = some (some (B false)) := by kernel_rfl
theorem Al35 : (Try.prog.info? 35).map (·.zero) = some (some (I 0)) := by kernel_rfl
theorem Al75 : (Try.prog.info? 75).map (·.zero) = some (some (.nilFunc)) := by kernel_rfl
theorem Al127 : (Try.prog.info? 127).map (·.zero) = some (some (.pointer none)) := by kernel_rfl
theorem Al138 : (Try.prog.info? 138).map (·.zero) = some (some (.agg #[.slice none 0 0, I 0, I 0])) := by kernel_rfl
theorem Al160 : (Try.prog.info? 160).map (·.zero) = some (some (.pointer none)) := by kernel_rfl
theorem Al174 : (Try.prog.info? 174).map (·.zero) = some (some (.pointer none)) := by kernel_rfl
theorem Al180 : (Try.prog.info? 180).map (·.zero) = some (some (.agg #[.pointer none, .slice none 0 0, I 0, .map none, .map none])) := by kernel_rfl
theorem Al182 : (Try.prog.info? 182).map (·.zero) = some (some (.agg #[I 0, I 0])) := by kernel_rfl
theorem Al183 : (Try.prog.info? 183).map (·.zero) = some (some (.nilFunc)) := by kernel_rfl
theorem Al211 : (Try.prog.info? 211).map (·.zero) = some (some (.agg #[.pointer none, .nilFunc, .map none])) := by kernel_rfl
theorem Bd30 {fs : Array Field} (h : Try.prog.underlying 30 = some (.struct fs)) : fs.toList.mapM (fun f => (Try.prog.info? f.type).map fun i => (f.offset, i.size)) = some [(0, 1), (1, 1), (2, 1)] := by rw [Try.underlying30] at h; simp only [Option.some.injEq, TypeDesc.struct.injEq] at h; subst h; kernel_rfl
theorem Bd33 {fs : Array Field} (h : Try.prog.underlying 33 = some (.struct fs)) : fs.toList.mapM (fun f => (Try.prog.info? f.type).map fun i => (f.offset, i.size)) = some [(0, 1), (1, 1)] := by rw [Try.underlying33] at h; simp only [Option.some.injEq, TypeDesc.struct.injEq] at h; subst h; kernel_rfl
theorem Bd60 {fs : Array Field} (h : Try.prog.underlying 60 = some (.struct fs)) : fs.toList.mapM (fun f => (Try.prog.info? f.type).map fun i => (f.offset, i.size)) = some [(0, 1), (1, 1), (2, 1)] := by rw [Try.underlying60] at h; simp only [Option.some.injEq, TypeDesc.struct.injEq] at h; subst h; kernel_rfl
theorem Bd138 {fs : Array Field} (h : Try.prog.underlying 138 = some (.struct fs)) : fs.toList.mapM (fun f => (Try.prog.info? f.type).map fun i => (f.offset, i.size)) = some [(0, 1), (1, 1), (2, 1)] := by rw [Try.underlying138] at h; simp only [Option.some.injEq, TypeDesc.struct.injEq] at h; subst h; kernel_rfl
theorem Bd180 {fs : Array Field} (h : Try.prog.underlying 180 = some (.struct fs)) : fs.toList.mapM (fun f => (Try.prog.info? f.type).map fun i => (f.offset, i.size)) = some [(0, 1), (1, 1), (2, 1), (3, 1), (4, 1)] := by rw [Try.underlying180] at h; simp only [Option.some.injEq, TypeDesc.struct.injEq] at h; subst h; kernel_rfl
theorem Bd182 {fs : Array Field} (h : Try.prog.underlying 182 = some (.struct fs)) : fs.toList.mapM (fun f => (Try.prog.info? f.type).map fun i => (f.offset, i.size)) = some [(0, 1), (1, 1)] := by rw [Try.underlying182] at h; simp only [Option.some.injEq, TypeDesc.struct.injEq] at h; subst h; kernel_rfl
theorem Bd211 {fs : Array Field} (h : Try.prog.underlying 211 = some (.struct fs)) : fs.toList.mapM (fun f => (Try.prog.info? f.type).map fun i => (f.offset, i.size)) = some [(0, 1), (1, 1), (2, 1)] := by rw [Try.underlying211] at h; simp only [Option.some.injEq, TypeDesc.struct.injEq] at h; subst h; kernel_rfl

end Go.Proofs.Ytndobgodeicloaa
