/- Part 2 of the texts on which the proof rests. Conditions: none. -/
import Derived.Test.YtndobgodeicloaaProg
import Derived.Ground.NamesProg
import Derived.Shelf.Slices.Cells
import Derived.Shelf.Bits.Mul64
import Derived.Test.YtndobgodeicloaaZA1
set_option linter.unusedVariables false
set_option linter.unusedSimpArgs false
set_option linter.unusedSectionVars false
namespace Go.Nm
/-- Do two notes contradict each other? -/
def twP (m n : Note) : Bool := ((m.work == n.work) && (m.version == n.version)) && !(decide (m = n))
def twAt (l : List Note) (i : Nat) : Bool := (l.take i).any fun m => twP m (l.getD i default)
def newStep (f : Int → Option Note) (n : Note) : Int → Option Note := if !((f n.work).isSome) || decide (((f n.work).getD default).version < n.version) then updF f n.work n else f
/-- The newest note of each work. -/
def newF (l : List Note) : Int → Option Note := l.foldl newStep fun _ => none
theorem newF_next (l : List Note) {i : Nat} (h : (i : Int) < l.length) : newF (l.take (i + 1)) = newStep (newF (l.take i)) (l.getD i default) := by
  unfold newF
  rw [take_succ_getD l (by omega) default, List.foldl_append]; rfl
def sumV (out : List Int) (base : Int) (of : List Int) : Nat → Int
  | 0 => base
  | j + 1 => sumV out base of j + ((j : Int) + 1) * out.getD (of.getD j 0).toNat 0
def noteV (f : Int → Option Note) (out : List Int) (i : Int) : List Int := if (f i).isSome then out.set i.toNat ((f i).getD default).value else out
def valStep (ws : List Work) (f : Int → Option Note) (out : List Int) (i : Int) : List Int :=
  if (((ws.getD i.toNat default).of.length : Int) == 0) || !((ws.getD i.toNat default).of.all fun k => (noteV f out i).getD k.toNat 0 != -1) then noteV f out i
  else (noteV f out i).set i.toNat (sumV (noteV f out i) (ws.getD i.toNat default).base (ws.getD i.toNat default).of (ws.getD i.toNat default).of.length % 1000003)
def valF (ws : List Work) (f : Int → Option Note) (l out : List Int) : List Int := l.foldl (valStep ws f) out
def valL (ws : List Work) (l : List Note) : List Int := valF ws (newF l) (orderP ws) (List.replicate ws.length (-1))
theorem valF_next (ws : List Work) (f : Int → Option Note) (l out : List Int) {k : Nat} (h : (k : Int) < l.length) : valF ws f (l.take (k + 1)) out = valStep ws f (valF ws f (l.take k) out) (l.getD k 0) := by
  unfold valF
  rw [take_succ_getD l (by omega) 0, List.foldl_append]; rfl
def argB (ws : List Work) (l : List Note) : Bool := l.all fun n => inB n.work 0 ((ws.length : Int) - 1) && (((ws.getD n.work.toNat default).of.length : Int) == 0)
def rngB (l : List Note) : Bool := l.all fun n => inB n.version 0 1000000 && inB n.value 0 1000002
/-- The error of works and notes. -/
def valuesE (ws : List Work) (l : List Note) : Int :=
  if openedE ws ≠ 0 then openedE ws else if 200 < (l.length : Int) then 3 else if !(argB ws l) then 2 else if !(rngB l) then 4 else if (List.range l.length).any (twAt l) then 10 else 0
/-- The values of works, if there is no error. -/
def valuesR (ws : List Work) (l : List Note) : List Int := if valuesE ws l = 0 then valL ws l else []
end Go.Nm
namespace Go.Nm
theorem tw_step {l : List Note} {n : Note} {j : Nat} (h : (l.take j).any (fun m => twP m n) = false) (hj : (j : Int) < l.length) (c : twP (l.getD j default) n = false) : (l.take (j + 1)).any (fun m => twP m n) = false := by
  rw [any_take_succ (fun m => twP m n) l (by omega) default, h, c]; rfl
theorem tw_end {l : List Note} {i j : Nat} (hb : (List.range i).any (twAt l) = false) (h : ((l.take i).take j).any (fun m => twP m (l.getD i default)) = false) (hj : ¬ (j : Int) < (l.take i).length) : (List.range (i + 1)).any (twAt l) = false := by
  rw [List.take_of_length_le (by omega)] at h
  rw [any_range_succ, hb]
  exact h
theorem tw_yes {l : List Note} {i j : Nat} (hi : (i : Int) < l.length) (hj : (j : Int) < (l.take i).length) (c : twP ((l.take i).getD j default) (l.getD i default) = true) : (List.range l.length).any (twAt l) = true := by
  refine List.any_eq_true.2 ⟨i, List.mem_range.2 (by omega), List.any_eq_true.2 ⟨_, getD_memN _ hj default, c⟩⟩
theorem v_wrong {ws : List Work} {l : List Note} (h : openedE ws ≠ 0) : valuesE ws l = openedE ws ∧ valuesR ws l = [] := by
  have : valuesE ws l = openedE ws := by unfold valuesE; rw [if_pos h]
  exact ⟨this, by unfold valuesR; rw [this, if_neg h]⟩
theorem v_err {ws : List Work} {l : List Note} {e : Int} (h : valuesE ws l = e) (he : e ≠ 0) : valuesR ws l = [] := by unfold valuesR; rw [h, if_neg he]
theorem v_many {ws : List Work} {l : List Note} (h : openedE ws = 0) (c : 200 < (l.length : Int)) : valuesE ws l = 3 := by unfold valuesE; rw [if_neg (by simp [h]), if_pos c]
theorem v_arg {ws : List Work} {l : List Note} (h : openedE ws = 0) (c : ¬ 200 < (l.length : Int)) (c2 : (!(argB ws l)) = true) : valuesE ws l = 2 := by unfold valuesE; rw [if_neg (by simp [h]), if_neg c, if_pos c2]
theorem v_rng {ws : List Work} {l : List Note} (h : openedE ws = 0) (c : ¬ 200 < (l.length : Int)) (c2 : (!(argB ws l)) = false) (c3 : (!(rngB l)) = true) : valuesE ws l = 4 := by
  unfold valuesE; rw [if_neg (by simp [h]), if_neg c, if_neg (by simp [c2]), if_pos c3]
theorem v_twice {ws : List Work} {l : List Note} (h : openedE ws = 0) (c : ¬ 200 < (l.length : Int)) (c2 : (!(argB ws l)) = false) (c3 : (!(rngB l)) = false) (c4 : (List.range l.length).any (twAt l) = true) : valuesE ws l = 10 := by
  unfold valuesE; rw [if_neg (by simp [h]), if_neg c, if_neg (by simp [c2]), if_neg (by simp [c3]), if_pos c4]
theorem v_ok {ws : List Work} {l : List Note} {i : Nat} (h : openedE ws = 0) (c : ¬ 200 < (l.length : Int)) (c2 : (!(argB ws l)) = false) (c3 : (!(rngB l)) = false) (hi : ¬ (i : Int) < l.length) (hle : i ≤ l.length) (c4 : (List.range i).any (twAt l) = false) :
    valuesE ws l = 0 ∧ valuesR ws l = valL ws l := by
  obtain rfl : i = l.length := by omega
  have : valuesE ws l = 0 := by unfold valuesE; rw [if_neg (by simp [h]), if_neg c, if_neg (by simp [c2]), if_neg (by simp [c3]), if_neg (by simp [c4])]
  exact ⟨this, by unfold valuesR; rw [this, if_pos rfl]⟩
theorem newStep_yes {f : Int → Option Note} {n : Note} (c : (!((f n.work).isSome) || decide (((f n.work).getD default).version < n.version)) = true) : newStep f n = updF f n.work n := by unfold newStep; rw [if_pos c]
theorem newStep_no {f : Int → Option Note} {n : Note} (c : (!((f n.work).isSome) || decide (((f n.work).getD default).version < n.version)) = false) : newStep f n = f := by unfold newStep; rw [if_neg (by rw [c]; decide)]
theorem newF_memA : ∀ (l : List Note) (f : Int → Option Note) (k : Int) (n : Note), l.foldl newStep f k = some n → f k = some n ∨ n ∈ l
  | [], _, _, _, h => .inl h
  | m :: l, f, k, n, h => by
    simp only [List.foldl_cons] at h
    rcases newF_memA l (newStep f m) k n h with h1 | h1
    · unfold newStep at h1
      split at h1
      · unfold updF at h1
        split at h1
        · injection h1 with h1; subst h1; exact .inr (by simp)
        · exact .inl h1
      · exact .inl h1
    · exact .inr (by simp [h1])
theorem newF_mem {l : List Note} {k : Int} {n : Note} (h : newF l k = some n) : n ∈ l := by
  rcases newF_memA l _ k n h with h1 | h1
  · cases h1
  · exact h1
theorem newF_val {l : List Note} (c3 : (!(rngB l)) = false) (i : Nat) (k : Int) (h : (newF (l.take i) k).isSome = true) : 0 ≤ ((newF (l.take i) k).getD default).value ∧ ((newF (l.take i) k).getD default).value ≤ 1000002 := by
  obtain ⟨n, hn⟩ := Option.isSome_iff_exists.1 h
  have hm := List.mem_of_mem_take (newF_mem hn)
  rw [hn]
  simp only [Bool.not_eq_false'] at c3
  have := List.all_eq_true.1 c3 n hm
  simp [inB] at this
  simp only [Option.getD_some]
  omega
theorem noteV_yes {f : Int → Option Note} {R : List Int} {i : Int} (h : (f i).isSome = true) : noteV f R i = R.set i.toNat ((f i).getD default).value := by unfold noteV; rw [if_pos h]
theorem noteV_no {f : Int → Option Note} {R : List Int} {i : Int} (h : (f i).isSome = false) : noteV f R i = R := by unfold noteV; rw [if_neg (by simp [h])]
theorem val_skip {ws : List Work} {f : Int → Option Note} {R O : List Int} {i : Int} (hO : noteV f R i = O)
    (c : (((((ws.getD i.toNat default).of.length : Int) == 0)) || !((ws.getD i.toNat default).of.all fun k => O.getD k.toNat 0 != -1)) = true) : valStep ws f R i = O := by
  unfold valStep; rw [hO, if_pos c]
theorem val_set {ws : List Work} {f : Int → Option Note} {R O : List Int} {i : Int} (hO : noteV f R i = O)
    (c : (((((ws.getD i.toNat default).of.length : Int) == 0)) || !((ws.getD i.toNat default).of.all fun k => O.getD k.toNat 0 != -1)) = false) {j : Nat} (hj : ¬ (j : Int) < (ws.getD i.toNat default).of.length) (hle : j ≤ (ws.getD i.toNat default).of.length) :
    valStep ws f R i = O.set i.toNat (sumV O (ws.getD i.toNat default).base (ws.getD i.toNat default).of j % 1000003) := by
  obtain rfl : j = (ws.getD i.toNat default).of.length := by omega
  unfold valStep; rw [hO, if_neg (by simp only [c]; simp)]
theorem noteV_len (f : Int → Option Note) (R : List Int) (i : Int) : (noteV f R i).length = R.length := by unfold noteV; split <;> simp
theorem valStep_len (ws : List Work) (f : Int → Option Note) (R : List Int) (i : Int) : (valStep ws f R i).length = R.length := by
  unfold valStep; split <;> simp [noteV_len]
theorem valF_len (ws : List Work) (f : Int → Option Note) : ∀ (l out : List Int), (valF ws f l out).length = out.length
  | [], _ => rfl
  | i :: l, out => (valF_len ws f l _).trans (valStep_len ws f out i)
def VB (l : List Int) : Prop := ∀ y ∈ l, -1 ≤ y ∧ y ≤ 1000002
theorem VB.set {l : List Int} (h : VB l) {v : Int} (h1 : -1 ≤ v) (h2 : v ≤ 1000002) (k : Nat) : VB (l.set k v) := by
  intro y hy
  rcases List.mem_or_eq_of_mem_set hy with h3 | h3
  · exact h y h3
  · omega
theorem VB.at {l : List Int} (h : VB l) {k : Nat} (hk : (k : Int) < l.length) : -1 ≤ l.getD k 0 ∧ l.getD k 0 ≤ 1000002 := h _ (getD_memN l hk 0)
theorem valStep_VB {ws : List Work} {f : Int → Option Note} (hf : ∀ k, (f k).isSome = true → 0 ≤ ((f k).getD default).value ∧ ((f k).getD default).value ≤ 1000002) {R : List Int} (h : VB R) (i : Int) : VB (valStep ws f R i) := by
  have hn : VB (noteV f R i) := by
    unfold noteV
    split
    · rename_i h1
      have := hf i h1
      exact h.set (by omega) (by omega) _
    · exact h
  unfold valStep
  split
  · exact hn
  · exact hn.set (by have := Int.emod_nonneg (sumV (noteV f R i) (ws.getD i.toNat default).base (ws.getD i.toNat default).of (ws.getD i.toNat default).of.length) (show (1000003 : Int) ≠ 0 by decide); omega)
      (by have := Int.emod_lt_of_pos (sumV (noteV f R i) (ws.getD i.toNat default).base (ws.getD i.toNat default).of (ws.getD i.toNat default).of.length) (show (0 : Int) < 1000003 by decide); omega) _
theorem valF_VB {ws : List Work} {f : Int → Option Note} (hf : ∀ k, (f k).isSome = true → 0 ≤ ((f k).getD default).value ∧ ((f k).getD default).value ≤ 1000002) : ∀ (l : List Int) {R : List Int}, VB R → VB (valF ws f l R)
  | [], _, h => h
  | i :: l, _, h => valF_VB hf l (valStep_VB hf h i)
theorem prod_b {a b : Int} (h1 : 0 ≤ a) (h2 : a ≤ 5) (h3 : 0 ≤ b) (h4 : b ≤ 1000002) : 0 ≤ a * b ∧ a * b ≤ 5000010 :=
  ⟨Int.mul_nonneg h1 h3, by have := Int.mul_le_mul h2 h4 h3 (show (0 : Int) ≤ 5 by decide); omega⟩
theorem sumV_b {out : List Int} {base : Int} {of : List Int} (hb : 0 ≤ base ∧ base ≤ 1000002) (h5 : of.length ≤ 5) (hof : ∀ k ∈ of, 0 ≤ out.getD k.toNat 0 ∧ out.getD k.toNat 0 ≤ 1000002) : ∀ j : Nat, j ≤ of.length → 0 ≤ sumV out base of j ∧ sumV out base of j ≤ 1000002 + 5000010 * (j : Int)
  | 0, _ => by simp only [sumV]; omega
  | j + 1, hj => by
    have ih := sumV_b hb h5 hof j (by omega)
    have hm := hof _ (getD_memN of (i := j) (by omega) 0)
    have := prod_b (a := (j : Int) + 1) (by omega) (by omega) hm.1 hm.2
    simp only [sumV]
    omega
theorem known_vals {O of : List Int} {len0 : Bool} (c : (len0 || !(of.all fun k => O.getD k.toNat 0 != -1)) = false) (hO : VB O) (hr : ∀ k ∈ of, 0 ≤ k ∧ k < (O.length : Int)) : ∀ k ∈ of, 0 ≤ O.getD k.toNat 0 ∧ O.getD k.toNat 0 ≤ 1000002 := by
  intro k hk
  simp only [Bool.or_eq_false_iff, Bool.not_eq_false'] at c
  have h1 := List.all_eq_true.1 c.2 k hk
  have h2 := hO.at (k := k.toNat) (by have := hr k hk; omega)
  have h3 : O.getD k.toNat 0 ≠ -1 := by simpa [-List.getD_eq_getElem?_getD] using h1
  omega
end Go.Nm
namespace Go.Nm
def pubB (ws : List Work) (p : List Pub) : Bool := p.all fun x => inB x.work 0 ((ws.length : Int) - 1)
def wdAt (v : List Int) (x : Pub) : Bool := (v.getD x.work.toNat 0 == -1) || (v.getD x.work.toNat 0 != x.value)
def wdT (v : List Int) (p : List Pub) (n : Nat) : List Int := ((List.range n).filter fun j => wdAt v (p.getD j default)).map (fun j : Nat => (j : Int))
theorem wdT_next (v : List Int) (p : List Pub) (n : Nat) : wdT v p (n + 1) = if wdAt v (p.getD n default) = true then wdT v p n ++ [(n : Int)] else wdT v p n := by
  unfold wdT
  rw [List.range_succ, List.filter_append]
  split
  · rename_i h; simp only [List.filter_cons, h, if_true, List.filter_nil, List.map_append, List.map_cons, List.map_nil]
  · rename_i h; simp only [List.filter_cons, h, List.filter_nil, Bool.false_eq_true, if_false, List.append_nil]
theorem wdT_len (v : List Int) (p : List Pub) (n : Nat) : (wdT v p n).length ≤ n := by
  unfold wdT
  rw [List.length_map]
  exact Nat.le_trans (List.length_filter_le _ _) (by simp)
def withdrawnE (ws : List Work) (l : List Note) (p : List Pub) : Int := if valuesE ws l ≠ 0 then valuesE ws l else if 200 < (p.length : Int) then 3 else if (!(pubB ws p)) = true then 2 else 0
/-- The publications that are withdrawn, if there is no error. -/
def withdrawnR (ws : List Work) (l : List Note) (p : List Pub) : List Int := if withdrawnE ws l p = 0 then wdT (valuesR ws l) p p.length else []
theorem w_err {ws : List Work} {l : List Note} {p : List Pub} {e : Int} (h : withdrawnE ws l p = e) (he : e ≠ 0) : withdrawnR ws l p = [] := by unfold withdrawnR; rw [h, if_neg he]
theorem w_wrong {ws : List Work} {l : List Note} {p : List Pub} (h : ¬ valuesE ws l = 0) : withdrawnE ws l p = valuesE ws l := by unfold withdrawnE; rw [if_pos h]
theorem w_many {ws : List Work} {l : List Note} {p : List Pub} (h : valuesE ws l = 0) (c : 200 < (p.length : Int)) : withdrawnE ws l p = 3 := by unfold withdrawnE; rw [if_neg (by simp [h]), if_pos c]
theorem w_arg {ws : List Work} {l : List Note} {p : List Pub} (h : valuesE ws l = 0) (c : ¬ 200 < (p.length : Int)) (c2 : (!(pubB ws p)) = true) : withdrawnE ws l p = 2 := by unfold withdrawnE; rw [if_neg (by simp [h]), if_neg c, if_pos c2]
theorem w_ok {ws : List Work} {l : List Note} {p : List Pub} {i : Nat} (h : valuesE ws l = 0) (c : ¬ 200 < (p.length : Int)) (c2 : (!(pubB ws p)) = false) (hi : ¬ (i : Int) < p.length) (hle : i ≤ p.length) :
    withdrawnE ws l p = 0 ∧ withdrawnR ws l p = wdT (valuesR ws l) p i := by
  obtain rfl : i = p.length := by omega
  have : withdrawnE ws l p = 0 := by unfold withdrawnE; rw [if_neg (by simp [h]), if_neg c, if_neg (by rw [c2]; decide)]
  exact ⟨this, by unfold withdrawnR; rw [this, if_pos rfl]⟩
theorem pub_rng {ws : List Work} {p : List Pub} (c2 : (!(pubB ws p)) = false) {i : Nat} (hi : (i : Int) < p.length) : 0 ≤ (p.getD i default).work ∧ (p.getD i default).work < ws.length := by
  simp only [Bool.not_eq_false'] at c2
  have := List.all_eq_true.1 c2 _ (getD_memN p hi default)
  simp [inB, -List.getD_eq_getElem?_getD] at this
  omega
theorem valuesR_len {ws : List Work} {l : List Note} (h : valuesE ws l = 0) : (valuesR ws l).length = ws.length := by
  unfold valuesR valL
  rw [if_pos h, valF_len]
  simp
end Go.Nm
namespace Go.Nm
section
variable {α : Type} [DecidableEq α] {a b : List α}
theorem same_len (h : ¬ (a.length : Int) = b.length) : false = decide (a = b) := by
  symm
  simp only [decide_eq_false_iff_not]
  intro e
  subst e
  exact h rfl
theorem same_ne {k : Nat} (d : α) (h : ¬ a.getD k d = b.getD k d) : false = decide (a = b) := by
  symm
  simp only [decide_eq_false_iff_not]
  intro e
  subst e
  exact h rfl
theorem same_step {k : Nat} (d : α) (hl : (a.length : Int) = b.length) (hk : (k : Int) < a.length) (ht : a.take k = b.take k) (c : a.getD k d = b.getD k d) : a.take (k + 1) = b.take (k + 1) := by
  rw [take_succ_getD a (by omega) d, take_succ_getD b (by omega) d, ht, c]
theorem same_done {k : Nat} (hl : (a.length : Int) = b.length) (hk : ¬ (k : Int) < a.length) (ht : a.take k = b.take k) : true = decide (a = b) := by
  rw [List.take_of_length_le (by omega), List.take_of_length_le (by omega)] at ht
  simp [ht]
end
end Go.Nm
namespace Go.Nm
end Go.Nm
namespace Go.Nm
end Go.Nm
namespace Go.Nm
section
variable {ws : List Work}
end
end Go.Nm
namespace Go.Nm
/-- A loop whose states are known. -/
theorem M.i_for {σ ρ : Type} {body : σ → M (σ ⊕ ρ)} {r : ρ} (st : Nat → σ) (n : Nat) (step : ∀ i, i < n → (body (st i)).Ends (.inl (st (i + 1)))) (fin : (body (st n)).Ends (.inr r)) : (M.iter body (st 0)).Ends r := by
  refine M.i_loop (r := r) (fun m s => ∃ i, i ≤ n ∧ m = n - i ∧ s = st i) ?_ n (st 0) ⟨0, Nat.zero_le _, rfl, rfl⟩
  rintro m s ⟨i, hi, rfl, rfl⟩
  by_cases h : i < n
  · exact .inl ⟨_, n - (i + 1), by omega, step i h, i + 1, h, rfl, rfl⟩
  · obtain rfl : i = n := by omega
    exact .inr fin
theorem M.grdD {α : Type} {p : Prop} [Decidable p] {k : M α} {r : α} (hp : p) (h : k.Ends r) : (M.grd (decide p) k).Ends r := M.i_grd (decide_eq_true hp) h
theorem M.i_t {α : Type} {b : Bool} {x y : M α} {r : α} (hb : b = true) (h : x.Ends r) : (bif b then x else y).Ends r := by subst hb; exact h
theorem M.i_f {α : Type} {b : Bool} {x y : M α} {r : α} (hb : b = false) (h : y.Ends r) : (bif b then x else y).Ends r := by subst hb; exact h
theorem set_getD_self {α : Type} (l : List α) (i : Nat) (h : i < l.length) (d : α) : l.set i (l.getD i d) = l := by
  rw [List.getD_eq_getElem?_getD, List.getElem?_eq_getElem h, Option.getD_some, List.set_getElem_self]
end Go.Nm
namespace Go.Nm
/-- A way from one work to another one that is made of it. -/
inductive Wy (ws : List Work) : Nat → Nat → Prop
  | one {a b : Nat} (h : (a : Int) ∈ (ws.getD b default).of) (hb : b < ws.length) : Wy ws a b
  | more {a m b : Nat} (w : Wy ws a m) (h : (m : Int) ∈ (ws.getD b default).of) (hb : b < ws.length) : Wy ws a b
def Tb (T : List (List Bool)) (a b : Nat) : Bool := (T.getD a []).getD b false
def fc : List Bool → Nat
  | [] => 0
  | true :: l => fc l
  | false :: l => fc l + 1
def fT : List (List Bool) → Nat
  | [] => 0
  | r :: T => fc r + fT T
theorem gset {α : Type} (l : List α) (i j : Nat) (x d : α) (h : i < l.length) : (l.set i x).getD j d = if j = i then x else l.getD j d := by
  simp only [List.getD_eq_getElem?_getD, List.getElem?_set]
  by_cases e : i = j
  · subst e; simp [h]
  · rw [if_neg e, if_neg (fun h => e h.symm)]
theorem getD_el {α : Type} (l : List α) {k : Nat} (h : k < l.length) (d : α) : l.getD k d = l[k] := by rw [List.getD_eq_getElem?_getD, List.getElem?_eq_getElem h, Option.getD_some]
structure Sq (n : Nat) (T : List (List Bool)) : Prop where
  len : T.length = n
  row : ∀ a, a < n → (T.getD a []).length = n
theorem Sq.put {n : Nat} {T : List (List Bool)} (h : Sq n T) {a b : Nat} (ha : a < n) : Sq n (T.set a ((T.getD a []).set b true)) := by
  refine ⟨by rw [List.length_set]; exact h.len, fun a' ha' => ?_⟩
  rw [gset _ _ _ _ _ (by rw [h.len]; exact ha)]
  split
  · rw [List.length_set]; exact h.row a ha
  · exact h.row a' ha'
/-- The rule at one place. -/
def ClAt (ws : List Work) (T : List (List Bool)) (b k a : Nat) : Prop :=
  (((a : Int) == ((ws.getD b default).of).getD k 0) || Tb T a (Int.toNat (((ws.getD b default).of).getD k 0))) = true → Tb T a b = true
structure BInv (ws : List Work) (T0 : List (List Bool)) (pr : Nat → Nat → Nat → Prop) (T : List (List Bool)) (ch : Bool) : Prop where
  sq : Sq ws.length T
  sound : ∀ a b, Tb T a b = true → Wy ws a b
  yes : ch = true → fT T < fT T0
  no : ch = false → T = T0 ∧ ∀ b k a, pr b k a → ClAt ws T b k a
theorem BInv.imp {ws : List Work} {T0 T : List (List Bool)} {pr pr' : Nat → Nat → Nat → Prop} {ch : Bool} (h : BInv ws T0 pr T ch) (hp : ∀ b k a, pr' b k a → pr b k a) : BInv ws T0 pr' T ch :=
  ⟨h.sq, h.sound, h.yes, fun e => ⟨(h.no e).1, fun b k a hh => (h.no e).2 b k a (hp b k a hh)⟩⟩
theorem gOr2 {c : Bool} {p q : Prop} [Decidable p] [Decidable q] (hp : p) (hq : q) : (!c || (decide p && decide q)) = true := by rw [decide_eq_true hp, decide_eq_true hq]; cases c <;> rfl
theorem gA2 {p q : Prop} [Decidable p] [Decidable q] (hp : p) (hq : q) : (decide p && decide q) = true := by rw [decide_eq_true hp, decide_eq_true hq]; rfl
end Go.Nm
namespace Go.Nm
theorem orderF_stuck {ws : List Work} : ∀ (f : Nat) (out : List Int), (orderF ws f out).length < out.length + f → nextR ws (orderF ws f out) = none
  | 0, out, h => by simp only [orderF] at h; omega
  | f + 1, out, h => by
    unfold orderF at h ⊢
    cases hn : nextR ws out with
    | none => exact hn
    | some i =>
      rw [hn] at h
      dsimp only at h ⊢
      exact orderF_stuck f _ (by simp only [List.length_append, List.length_cons, List.length_nil]; omega)
theorem nodup_sub : ∀ (l m : List Int), l.Nodup → (∀ x ∈ l, x ∈ m) → l.length ≤ m.length
  | [], _, _, _ => Nat.zero_le _
  | x :: l, m, hn, hs => by
    rw [List.nodup_cons] at hn
    have h1 := nodup_sub l (m.erase x) hn.2 (fun y hy => (List.mem_erase_of_ne (show y ≠ x from fun e => hn.1 (by rw [← e]; exact hy))).2 (hs y (List.mem_cons_of_mem _ hy)))
    have h2 := hs x (List.mem_cons_self ..)
    rw [List.length_erase_of_mem h2] at h1
    have := List.length_pos_of_mem h2
    simp only [List.length_cons]
    omega
theorem order_circle {ws : List Work} (hR : rightE ws = 0) (h : (orderP ws).length < ws.length) : ∃ i, i < ws.length ∧ Wy ws i i := by
  have hst : nextR ws (orderP ws) = none := orderF_stuck ws.length [] (by simpa [orderP] using h)
  have hnr : ∀ i, i < ws.length → readyAt ws (orderP ws) i = false := by
    intro i hi
    unfold nextR at hst
    rw [List.find?_eq_none] at hst
    simpa using hst i (List.mem_range.2 hi)
  have step : ∀ i, i < ws.length → (i : Int) ∉ orderP ws → ∃ k, k < ws.length ∧ (k : Int) ∉ orderP ws ∧ (k : Int) ∈ (ws.getD i default).of := by
    intro i hi hni
    have h1 := hnr i hi
    unfold readyAt at h1
    have h2 : (orderP ws).contains (i : Int) = false := by simpa using hni
    rw [h2, Bool.not_false, Bool.true_and, List.all_eq_false] at h1
    obtain ⟨x, hx, hx2⟩ := h1
    have h3 := right_of hR hi x hx
    refine ⟨x.toNat, by omega, ?_, ?_⟩
    · rw [Int.toNat_of_nonneg h3.1]; simpa using hx2
    · rw [Int.toNat_of_nonneg h3.1]; exact hx
  have start : ∃ i, i < ws.length ∧ (i : Int) ∉ orderP ws := by
    refine Classical.byContradiction fun hc => ?_
    have h1 : ∀ i, i < ws.length → (i : Int) ∈ orderP ws := fun i hi => Classical.byContradiction fun hn => hc ⟨i, hi, hn⟩
    have h2 : ((List.range ws.length).map fun i : Nat => (i : Int)).length ≤ (orderP ws).length := by
      refine nodup_sub _ _ ?_ ?_
      · rw [List.Nodup, List.pairwise_map]
        exact List.nodup_range.imp fun hne e => hne (by omega)
      · intro x hx
        obtain ⟨i, hi, rfl⟩ := List.mem_map.1 hx
        exact h1 i (List.mem_range.1 hi)
    simp at h2
    omega
  obtain ⟨i0, hi0, hn0⟩ := start
  have hg : ∃ g : Nat → Nat, ∀ i, i < ws.length → (i : Int) ∉ orderP ws → g i < ws.length ∧ (g i : Int) ∉ orderP ws ∧ (g i : Int) ∈ (ws.getD i default).of := by
    refine ⟨fun i => if hh : i < ws.length ∧ (i : Int) ∉ orderP ws then (step i hh.1 hh.2).choose else 0, fun i h1 h2 => ?_⟩
    dsimp only
    rw [dif_pos (show i < ws.length ∧ (i : Int) ∉ orderP ws from ⟨h1, h2⟩)]
    exact (step i h1 h2).choose_spec
  obtain ⟨g, hg⟩ := hg
  let sq : Nat → Nat := fun j => Nat.rec i0 (fun _ x => g x) j
  have hs : ∀ j : Nat, sq j < ws.length ∧ (Int.ofNat (sq j)) ∉ orderP ws := by
    intro j
    induction j with
    | zero => exact ⟨hi0, hn0⟩
    | succ j ih => exact ⟨(hg _ ih.1 ih.2).1, (hg _ ih.1 ih.2).2.1⟩
  have hw : ∀ d p : Nat, Wy ws (sq (p + d + 1)) (sq p) := by
    intro d
    induction d with
    | zero => intro p; exact .one (hg _ (hs p).1 (hs p).2).2.2 (hs p).1
    | succ d ih =>
      intro p
      have := ih (p + 1)
      rw [show p + 1 + d + 1 = p + (d + 1) + 1 from by omega] at this
      exact .more this (hg _ (hs p).1 (hs p).2).2.2 (hs p).1
  refine Classical.byContradiction fun hc => ?_
  have hne : ∀ p q : Nat, p < q → sq p ≠ sq q := by
    intro p q hpq e
    have := hw (q - p - 1) p
    rw [show p + (q - p - 1) + 1 = q from by omega, ← e] at this
    exact hc ⟨sq p, (hs p).1, this⟩
  have h1 := nodup_bound ws.length ((List.range (ws.length + 1)).map fun j => Int.ofNat (sq j)) (by
    rw [List.Nodup, List.pairwise_map]
    exact List.pairwise_lt_range.imp fun hlt e => hne _ _ hlt (Int.ofNat.inj e)) (fun x hx => by
    obtain ⟨j, _, rfl⟩ := List.mem_map.1 hx
    have := (hs j).1
    show 0 ≤ ((sq j : Nat) : Int) ∧ ((sq j : Nat) : Int) < _
    omega)
  simp at h1
  omega
end Go.Nm
namespace Go.Nm
end Go.Nm
namespace Go.Nm
variable {ws : List Work}
/-! ### The line that takes longest -/
/-- Is each work of a line made of the one ahead of it? -/
def lineB (ws : List Work) : List Int → Bool
  | a :: b :: l => (ws.getD b.toNat default).of.contains a && lineB ws (b :: l)
  | _ => true
/-- What the list behind a work is like: it goes back along works that had to be waited for. -/
structure Back (ws : List Work) (st : List Bool) (i : Int) (r : List Int) : Prop where
  rng : ∀ x ∈ r, 0 ≤ x ∧ x < (ws.length : Int) ∧ st.getD x.toNat false = true
  line : lineB ws (r.reverse ++ [i]) = true
  sum : ∀ z, r.foldl (fun s i => s + (ws.getD i.toNat default).minutes) z = z + (readyL ws (orderP ws) st).getD i.toNat 0 - (ws.getD i.toNat default).minutes
end Go.Nm
namespace Go.Nm
variable {ws : List Work} {rev : List Int}
end Go.Nm
namespace Go.Nm
namespace M
variable {α β σ ρ : Type}
def Out (m : M α) (Q : α → Prop) : Prop := ∃ r, m.Ends r ∧ Q r
theorem o_of {m : M α} {a : α} {Q : α → Prop} (h : m.Ends a) (q : Q a) : m.Out Q := ⟨a, h, q⟩
theorem o_pure {a : α} {Q : α → Prop} (h : Q a) : (pure a).Out Q := ⟨a, i_pure, h⟩
theorem o_mono {m : M α} {P Q : α → Prop} (h : m.Out P) (k : ∀ a, P a → Q a) : m.Out Q := by
  obtain ⟨a, h1, h2⟩ := h
  exact ⟨a, h1, k a h2⟩
theorem o_bind {m : M α} {k : α → M β} {P : α → Prop} {Q : β → Prop} (h : m.Out P) (h' : ∀ a, P a → (k a).Out Q) : (bind m k).Out Q := by
  obtain ⟨a, h1, h2⟩ := h
  obtain ⟨b, h3, h4⟩ := h' a h2
  exact ⟨b, i_bind h1 h3, h4⟩
theorem o_bindE {m : M α} {k : α → M β} {a : α} {Q : β → Prop} (h : m.Ends a) (h' : (k a).Out Q) : (bind m k).Out Q := o_bind (o_of (Q := fun x => x = a) h rfl) (fun _ e => by subst e; exact h')
theorem o_grd {b : Bool} {k : M α} {Q : α → Prop} (hb : b = true) (h : k.Out Q) : (grd b k).Out Q := by subst hb; exact h
theorem o_grdD {p : Prop} [Decidable p] {k : M α} {Q : α → Prop} (hp : p) (h : k.Out Q) : (grd (decide p) k).Out Q := o_grd (decide_eq_true hp) h
theorem o_if {b : Bool} {x y : M α} {Q : α → Prop} (h : b = true → x.Out Q) (h' : b = false → y.Out Q) : (bif b then x else y).Out Q := by
  cases b with
  | true => exact h rfl
  | false => exact h' rfl
theorem o_t {b : Bool} {x y : M α} {Q : α → Prop} (hb : b = true) (h : x.Out Q) : (bif b then x else y).Out Q := by subst hb; exact h
theorem o_f {b : Bool} {x y : M α} {Q : α → Prop} (hb : b = false) (h : y.Out Q) : (bif b then x else y).Out Q := by subst hb; exact h
/-- What a round leaves. -/
def Rd (J : Nat → σ → Prop) (Q : ρ → Prop) (m : Nat) : σ ⊕ ρ → Prop
  | .inl s => ∃ m', m' < m ∧ J m' s
  | .inr r => Q r
theorem o_iter {body : σ → M (σ ⊕ ρ)} {Q : ρ → Prop} (J : Nat → σ → Prop) (round : ∀ m s, J m s → (body s).Out (Rd J Q m)) : ∀ (m : Nat) (s : σ), J m s → (iter body s).Out Q := by
  intro m
  induction m using Nat.strongRecOn with
  | _ m ih =>
    intro s hs
    obtain ⟨x, h1, h2⟩ := round m s hs
    cases x with
    | inl s' =>
      obtain ⟨m', hlt, hj⟩ := h2
      obtain ⟨r, h3, h4⟩ := ih m' hlt s' hj
      exact ⟨r, i_next h1 h3, h4⟩
    | inr r => exact ⟨r, i_stop h1, h2⟩
/-- A loop that counts from 0 to n. -/
theorem o_for {body : σ → M (σ ⊕ ρ)} {Q : ρ → Prop} (n : Nat) (J : Nat → σ → Prop) (round : ∀ i s, i < n → J i s → (body s).Out (fun x => match x with | .inl s' => J (i + 1) s' | .inr r => Q r))
    (last : ∀ s, J n s → (body s).Out (fun x => match x with | .inl _ => False | .inr r => Q r)) {s : σ} (h : J 0 s) : (iter body s).Out Q := by
  refine o_iter (fun m s => ∃ i, i ≤ n ∧ m = n - i ∧ J i s) ?_ n s ⟨0, Nat.zero_le _, rfl, h⟩
  rintro m s ⟨i, hi, rfl, hj⟩
  by_cases e : i < n
  · refine o_mono (round i s e hj) ?_
    intro x hx
    cases x with
    | inl s' => exact ⟨n - (i + 1), by omega, i + 1, e, rfl, hx⟩
    | inr r => exact hx
  · obtain rfl : i = n := by omega
    refine o_mono (last s hj) ?_
    intro x hx
    cases x with
    | inl s' => exact hx.elim
    | inr r => exact hx
end M
/-! ### Works that are made in order -/
structure BuiltAt (i : Nat) (x : Work) : Prop where
  few : x.of.length ≤ 5
  base : 0 ≤ x.base ∧ x.base ≤ 1000002
  mins : 0 ≤ x.minutes ∧ x.minutes ≤ 10000
  ahead : ∀ k ∈ x.of, 0 ≤ k ∧ k < (i : Int)
  once : x.of.Nodup
structure Built (ws : List Work) : Prop where
  len : 1 ≤ ws.length ∧ ws.length ≤ 30
  at_ : ∀ i, i < ws.length → BuiltAt i (ws.getD i default)
variable {ws : List Work}
theorem mem_getD {α : Type} {l : List α} {x : α} (h : x ∈ l) (d : α) : ∃ i, i < l.length ∧ l.getD i d = x := by
  obtain ⟨i, hi, e⟩ := List.getElem_of_mem h
  exact ⟨i, hi, by rw [getD_el l hi d]; exact e⟩
theorem Built.right (h : Built ws) : rightE ws = 0 := by
  have h1 : inB ws.length 1 30 = true := by
    have := h.len
    unfold inB
    simp only [Bool.and_eq_true, decide_eq_true_eq]
    omega
  have h2 : (ws.all fun x => decide ((x.of.length : Int) ≤ 5)) = true := by
    rw [List.all_eq_true]
    intro x hx
    obtain ⟨i, hi, rfl⟩ := mem_getD hx default
    have := (h.at_ i hi).few
    simp only [decide_eq_true_eq]
    omega
  have h3 : (List.range ws.length).any (badAt ws) = false := by
    rw [List.any_eq_false]
    intro i hi
    have hi := List.mem_range.1 hi
    have hb := h.at_ i hi
    unfold badAt badW
    have e1 : inB (ws.getD i default).base 0 1000002 = true := by unfold inB; simp only [Bool.and_eq_true, decide_eq_true_eq]; exact hb.base
    have e2 : inB (ws.getD i default).minutes 0 10000 = true := by unfold inB; simp only [Bool.and_eq_true, decide_eq_true_eq]; exact hb.mins
    have e3 : ((ws.getD i default).of.all fun k => inB k 0 ((ws.length : Int) - 1) && (k != (i : Int))) = true := by
      rw [List.all_eq_true]
      intro k hk
      have := hb.ahead k hk
      unfold inB
      simp only [Bool.and_eq_true, decide_eq_true_eq, bne_iff_ne, ne_eq]
      omega
    rw [e1, e2, e3]
    decide
  have h4 : (ws.any fun x => dupL x.of) = false := by
    rw [List.any_eq_false]
    intro x hx hd
    obtain ⟨i, hi, rfl⟩ := mem_getD hx default
    have hn := (h.at_ i hi).once
    unfold dupL at hd
    obtain ⟨k, hk, hd⟩ := List.any_eq_true.1 hd
    have hk := List.mem_range.1 hk
    unfold dupAt at hd
    rw [List.contains_iff_mem] at hd
    rw [← List.take_append_drop k (ws.getD i default).of, List.nodup_append] at hn
    refine hn.2.2 _ hd _ ?_ rfl
    rw [List.mem_iff_getElem]
    refine ⟨0, by rw [List.length_drop]; omega, ?_⟩
    rw [List.getElem_drop]
    simp only [Nat.add_zero]
    exact (getD_el _ hk 0).symm
  unfold rightE
  rw [if_neg (by simp only [h1, h2]; decide), if_neg (by rw [h3]; decide), if_neg (by rw [h4]; decide)]
theorem Built.way (h : Built ws) {a b : Nat} (w : Wy ws a b) : a < b := by
  induction w with
  | one ha hb => have := (h.at_ _ hb).ahead _ ha; omega
  | more w hm hb ih => have := (h.at_ _ hb).ahead _ hm; omega
theorem Built.opened (h : Built ws) : openedE ws = 0 := by
  refine opened_ok h.right ?_
  intro hc
  obtain ⟨i, _, hw⟩ := order_circle h.right (by omega)
  have := h.way hw
  omega
end Go.Nm
namespace Go.Proofs
open Go.Shelf
def Try.layRev_ren : Go.Shelf.Ren := ⟨fun | 112 => 104 | n => n, fun | 28 => 34 | 3 => 3 | 4 => 4 | 0 => 0 | n => n, fun | n => n⟩
theorem Try.layRev : Go.Proofs.Lays.n112 Try.prog Try.layRev_ren := {
  mixed := by kernel_rfl
  f112 := Try.func104.trans (congrArg some (by kernel_rfl))
  t0 := Try.underlying0
  a0 := Try.isAgg0
  z0 := Try.sizeOf0
  v0 := Try.zeroValue0
  t3 := Try.underlying3
  a3 := Try.isAgg3
  z3 := Try.sizeOf3
  v3 := Try.zeroValue3
  t4 := Try.underlying4
  a4 := Try.isAgg4
  z4 := Try.sizeOf4
  v4 := Try.zeroValue4
  t28 := Try.underlying34
  a28 := Try.isAgg34
  z28 := Try.sizeOf34
  v28 := Try.zeroValue34 }
def Try.layMul_ren : Go.Shelf.Ren := ⟨fun | 212 => 142 | 263 => 180 | 264 => 181 | n => n, fun | 46 => 205 | 51 => 230 | 146 => 234 | 53 => 232 | 148 => 236 | n => n, fun | n => n⟩
theorem Try.layMul : Go.Proofs.Lays.n212 Try.prog Try.layMul_ren := {
  mixed := by kernel_rfl
  f212 := Try.func142.trans (congrArg some (by kernel_rfl))
  f263 := Try.func180.trans (congrArg some (by kernel_rfl))
  f264 := Try.func181.trans (congrArg some (by kernel_rfl))
  t46 := Try.underlying205
  a46 := Try.isAgg205
  z46 := Try.sizeOf205
  v46 := Try.zeroValue205
  t51 := Try.underlying230
  a51 := Try.isAgg230
  z51 := Try.sizeOf230
  v51 := Try.zeroValue230
  t53 := Try.underlying232
  a53 := Try.isAgg232
  z53 := Try.sizeOf232
  v53 := Try.zeroValue232
  t146 := Try.underlying234
  a146 := Try.isAgg234
  z146 := Try.sizeOf234
  v146 := Try.zeroValue234
  t148 := Try.underlying236
  a148 := Try.isAgg236
  z148 := Try.sizeOf236
  v148 := Try.zeroValue236 }
end Go.Proofs
namespace Go.Nm
open Go
theorem setCells_row (g : Nat) (t : TypeId) (fr : Nat × Nat) : ∀ (vs : List Value) (o : Nat) (w : World) (cur : Array Value), w.heap[g]? = some (.cells cur t fr) → o + vs.length ≤ cur.size →
    w.setCells g o vs = w.setRow g (cur.toList.take o ++ vs ++ cur.toList.drop (o + vs.length)).toArray
  | [], o, w, cur, h, _ => by
    simp only [World.setCells, List.append_nil, List.length_nil, Nat.add_zero, List.take_append_drop, Array.toArray_toList]
    exact (setRow_self w g cur t fr h).symm
  | v :: r, o, w, cur, h, hl => by
    have hl' : o + 1 + r.length ≤ (cur.setIfInBounds o v).size := by simp at hl ⊢; omega
    rw [World.setCells, setCell_eq_setRow w g o cur t fr v h, setCells_row g t fr r (o + 1) _ _ (setRow_heap w g cur _ t _ h) hl', setRow_setRow]
    congr 2
    have e := list_seg_step cur.toList o v r (by simp at hl ⊢; omega)
    simpa [Array.toList_setIfInBounds, Nat.add_assoc] using e
theorem OwnF.over {B : Nat} {e : TypeId} {w : World} {l : List Int} {g cap : Nat} {cur : Array Value} (ho : OwnF B e w (.slice (some ⟨g, 0, none⟩) l.length cap) l) (hg : w.heap[g]? = some (.cells cur e (0, 0)))
    (hcs : l.length ≤ cap) (hsz : cur.size = cap) (hb : B ≤ g) (hm : cap ≤ maxLen) (l' : List Int) (hl : l'.length = l.length) (q : Nat) :
    OwnF B e ((w.drewN q).setCells g 0 (l'.map I)) (.slice (some ⟨g, 0, none⟩) l.length cap) l' ∧ Grow B (.slice (some ⟨g, 0, none⟩) l.length cap) w ((w.drewN q).setCells g 0 (l'.map I)) := by
  rw [setCells_row g e (0, 0) (l'.map I) 0 (w.drewN q) cur hg (by simp; omega)]
  have hs1 : Elt.sz Int = 1 := rfl
  refine ⟨⟨by rw [enc_ints]; simp [hs1], .inr ⟨g, cap, _, by rw [hl], hb, setRow_heap _ g cur _ e (0, 0) hg, by omega, hm, by simp [hs1]; omega, ?_⟩⟩, ⟨rfl, rfl, by simp, fun k _ hk => ?_, fun g' hg' => (ho.lt g' hg').1, frozen_setRow _ _ _⟩⟩
  · rw [enc_ints, hs1]
    simp
  · rw [setRow_other]
    · rfl
    · intro e'
      apply hk
      rw [e']
      rfl
end Go.Nm
namespace Go.Proofs.Ytndobgodeicloaa
open Go Go.Nm Go.Proofs
theorem mul_any {n : Int} (h0 : 0 ≤ n) (h1 : n ≤ 9223372036854775807) (w : World) : Ret Try.prog 142 #[.int .u64 1, .int .u64 n] w fun v w' => v = .tuple #[.int .u64 0, .int .u64 n] ∧ Ext w w' := by
  have h := Any.bits_Mul Try.layMul 1 n.toNat (by omega) (by omega) w
  have e : ((n.toNat : Nat) : Int) = n := Int.toNat_of_nonneg h0
  rw [Nat.one_mul, Nat.div_eq_of_lt (by omega), Nat.mod_eq_of_lt (by omega), e] at h
  refine Calls.mono h ?_
  rintro _ w' ⟨rfl, rfl⟩
  exact ⟨_, rfl, rfl, Ext.refl w'⟩
theorem reverse_any {B : Nat} {e : TypeId} {w : World} {v : Value} {l : List Int} (ho : OwnF B e w v l) : Ret Try.prog 104 #[v] w fun u w' => u = .tuple #[] ∧ OwnF B e w' v l.reverse ∧ Grow B v w w' := by
  have ho' := ho
  rcases ho.2 with ⟨rfl, hn⟩ | ⟨g, cap, cur, rfl, hb, hg, hc, hm, hcs, htake⟩
  · obtain rfl : l = [] := List.eq_nil_of_length_eq_zero hn
    refine Calls.mono (Any.slices_Reverse_int_empty Try.layRev none 0 w) ?_
    rintro _ w' ⟨rfl, rfl⟩
    exact ⟨_, rfl, rfl, ho', ⟨rfl, rfl, Nat.le_refl _, fun _ _ _ => rfl, fun g hg => (ho'.lt g hg).1, fun _ => rfl⟩⟩
  · have hs1 : Elt.sz Int = 1 := rfl
    rw [hs1] at hcs htake
    rw [enc_ints] at htake
    have hcell : ∀ j, j < l.length → w.cell? ⟨g, 0 + j, none⟩ = some (.int .i64 (l.getD j 0)) := by
      intro j hj
      rw [Nat.zero_add, cell_of_row w g j cur e (0, 0) hg]
      have h1 : (cur.toList.take (l.length * 1))[j]? = (l.map I)[j]? := by rw [htake]
      rw [List.getElem?_take, if_pos (by omega), List.getElem?_map, getD_some l hj 0] at h1
      simpa using h1
    have hfz : ∀ j, j < l.length → w.frozen? ⟨g, 0 + j, none⟩ = false := fun j hj => by simp [World.frozen?, hg]
    refine Calls.mono (Any.slices_Reverse_int_cells Try.layRev g 0 l.length cap l w (Nat.le_refl _) (by simp [maxLen] at hm; omega) hcell hfz) ?_
    rintro _ w' ⟨rfl, q, rfl⟩
    rw [List.take_length]
    have hh := OwnF.over ho' hg hc (by omega) hb hm l.reverse (by simp) q
    exact ⟨_, rfl, rfl, hh.1, hh.2⟩
end Go.Proofs.Ytndobgodeicloaa
namespace Go.Proofs.Ytndobgodeicloaa
open Go Go.Nm
theorem cf21 : CF Try.prog 21 := ⟨_, Try.func21, rfl, by decide +kernel⟩
theorem cf45 : CF Try.prog 45 := ⟨_, Try.func45, rfl, by decide +kernel⟩
theorem cf48 : CF Try.prog 48 := ⟨_, Try.func48, rfl, by decide +kernel⟩
theorem cf81 : CF Try.prog 81 := ⟨_, Try.func81, rfl, by decide +kernel⟩
theorem cf82 : CF Try.prog 82 := ⟨_, Try.func82, rfl, by decide +kernel⟩
theorem cf83 : CF Try.prog 83 := ⟨_, Try.func83, rfl, by decide +kernel⟩
theorem cf84 : CF Try.prog 84 := ⟨_, Try.func84, rfl, by decide +kernel⟩
theorem cf85 : CF Try.prog 85 := ⟨_, Try.func85, rfl, by decide +kernel⟩
theorem cf86 : CF Try.prog 86 := ⟨_, Try.func86, rfl, by decide +kernel⟩
theorem cf87 : CF Try.prog 87 := ⟨_, Try.func87, rfl, by decide +kernel⟩
theorem cf88 : CF Try.prog 88 := ⟨_, Try.func88, rfl, by decide +kernel⟩
theorem cf90 : CF Try.prog 90 := ⟨_, Try.func90, rfl, by decide +kernel⟩
theorem cf91 : CF Try.prog 91 := ⟨_, Try.func91, rfl, by decide +kernel⟩
theorem cf92 : CF Try.prog 92 := ⟨_, Try.func92, rfl, by decide +kernel⟩
theorem cf96 : CF Try.prog 96 := ⟨_, Try.func96, rfl, by decide +kernel⟩
theorem cf99 : CF Try.prog 99 := ⟨_, Try.func99, rfl, by decide +kernel⟩
theorem cf100 : CF Try.prog 100 := ⟨_, Try.func100, rfl, by decide +kernel⟩
theorem cf101 : CF Try.prog 101 := ⟨_, Try.func101, rfl, by decide +kernel⟩
theorem cf102 : CF Try.prog 102 := ⟨_, Try.func102, rfl, by decide +kernel⟩
theorem cf103 : CF Try.prog 103 := ⟨_, Try.func103, rfl, by decide +kernel⟩
theorem cf104 : CF Try.prog 104 := ⟨_, Try.func104, rfl, by decide +kernel⟩
theorem cf130 : CF Try.prog 130 := ⟨_, Try.func130, rfl, by decide +kernel⟩
theorem cf131 : CF Try.prog 131 := ⟨_, Try.func131, rfl, by decide +kernel⟩
theorem cf140 : CF Try.prog 140 := ⟨_, Try.func140, rfl, by decide +kernel⟩
theorem cf141 : CF Try.prog 141 := ⟨_, Try.func141, rfl, by decide +kernel⟩
theorem cf142 : CF Try.prog 142 := ⟨_, Try.func142, rfl, by decide +kernel⟩
theorem cf143 : CF Try.prog 143 := ⟨_, Try.func143, rfl, by decide +kernel⟩
theorem cf144 : CF Try.prog 144 := ⟨_, Try.func144, rfl, by decide +kernel⟩
theorem cf145 : CF Try.prog 145 := ⟨_, Try.func145, rfl, by decide +kernel⟩
theorem cf146 : CF Try.prog 146 := ⟨_, Try.func146, rfl, by decide +kernel⟩
theorem cf147 : CF Try.prog 147 := ⟨_, Try.func147, rfl, by decide +kernel⟩
theorem cf161 : CF Try.prog 161 := ⟨_, Try.func161, rfl, by decide +kernel⟩
theorem cf162 : CF Try.prog 162 := ⟨_, Try.func162, rfl, by decide +kernel⟩
theorem cf163 : CF Try.prog 163 := ⟨_, Try.func163, rfl, by decide +kernel⟩
theorem cf164 : CF Try.prog 164 := ⟨_, Try.func164, rfl, by decide +kernel⟩
theorem cf179 : CF Try.prog 179 := ⟨_, Try.func179, rfl, by decide +kernel⟩
theorem cf182 : CF Try.prog 182 := ⟨_, Try.func182, rfl, by decide +kernel⟩
theorem cf186 : CF Try.prog 186 := ⟨_, Try.func186, rfl, by decide +kernel⟩
theorem cf187 : CF Try.prog 187 := ⟨_, Try.func187, rfl, by decide +kernel⟩
theorem cf200 : CF Try.prog 200 := ⟨_, Try.func200, rfl, by decide +kernel⟩
theorem T22 : SlT Try.prog 22 60 3 40 (.agg #[.slice none 0 0, I 0, I 0]) := ⟨Try.underlying22, by kernel_rfl, rfl, by decide⟩
theorem T23 : SlT Try.prog 23 30 3 24 (.agg #[I 0, I 0, I 0]) := ⟨Try.underlying23, by kernel_rfl, rfl, by decide⟩
theorem T24 : SlT Try.prog 24 33 2 16 (.agg #[I 0, I 0]) := ⟨Try.underlying24, by kernel_rfl, rfl, by decide⟩
theorem T34 : SlT Try.prog 34 3 1 8 (I 0) := ⟨Try.underlying34, by kernel_rfl, rfl, by decide⟩
theorem T73 : SlT Try.prog 73 34 1 24 (.slice none 0 0) := ⟨Try.underlying73, by kernel_rfl, rfl, by decide⟩
theorem Sc3 : isSc (Try.prog.underlying 3) = true := by rw [Try.underlying3]; rfl
theorem Sc4 : isSc (Try.prog.underlying 4) = true := by rw [Try.underlying4]; rfl
theorem Sc22 : isSc (Try.prog.underlying 22) = true := by rw [Try.underlying22]; rfl
theorem Sc34 : isSc (Try.prog.underlying 34) = true := by rw [Try.underlying34]; rfl
theorem Sc75 : isSc (Try.prog.underlying 75) = true := by rw [Try.underlying75]; rfl
theorem Sc132 : isSc (Try.prog.underlying 132) = true := by rw [Try.underlying132]; rfl
theorem Sc140 : isSc (Try.prog.underlying 140) = true := by rw [Try.underlying140]; rfl
theorem Sc218 : isSc (Try.prog.underlying 218) = true := by rw [Try.underlying218]; rfl
theorem Sz3 : (Try.prog.info? 3).map (·.size) = some 1 := by kernel_rfl
theorem Sz4 : (Try.prog.info? 4).map (·.size) = some 1 := by kernel_rfl
theorem Sz22 : (Try.prog.info? 22).map (·.size) = some 1 := by kernel_rfl
theorem Ag30 : isAg (Try.prog.underlying 30) = true := by rw [Try.underlying30]; rfl
theorem Sz30 : (Try.prog.info? 30).map (·.size) = some 3 := by kernel_rfl
theorem Ag33 : isAg (Try.prog.underlying 33) = true := by rw [Try.underlying33]; rfl
theorem Sz33 : (Try.prog.info? 33).map (·.size) = some 2 := by kernel_rfl
theorem Sz34 : (Try.prog.info? 34).map (·.size) = some 1 := by kernel_rfl
theorem Ag60 : isAg (Try.prog.underlying 60) = true := by rw [Try.underlying60]; rfl
theorem Sz60 : (Try.prog.info? 60).map (·.size) = some 3 := by kernel_rfl
theorem Ag141 : isAg (Try.prog.underlying 141) = true := by rw [Try.underlying141]; rfl
theorem Sz141 : (Try.prog.info? 141).map (·.size) = some 30 := by kernel_rfl
theorem Sz185 : (Try.prog.info? 185).map (·.size) = some 1 := by kernel_rfl
theorem Fd30_0 : (Try.prog.underlying 30).bind (fun d => match d with | .struct fs => (fs[0]?).map (fun f => (f.offset, f.type)) | _ => none) = some (0, 3) := by rw [Try.underlying30]; rfl
theorem Fd30_1 : (Try.prog.underlying 30).bind (fun d => match d with | .struct fs => (fs[1]?).map (fun f => (f.offset, f.type)) | _ => none) = some (1, 3) := by rw [Try.underlying30]; rfl
theorem Fd30_2 : (Try.prog.underlying 30).bind (fun d => match d with | .struct fs => (fs[2]?).map (fun f => (f.offset, f.type)) | _ => none) = some (2, 3) := by rw [Try.underlying30]; rfl
theorem Fd33_0 : (Try.prog.underlying 33).bind (fun d => match d with | .struct fs => (fs[0]?).map (fun f => (f.offset, f.type)) | _ => none) = some (0, 3) := by rw [Try.underlying33]; rfl
theorem Fd33_1 : (Try.prog.underlying 33).bind (fun d => match d with | .struct fs => (fs[1]?).map (fun f => (f.offset, f.type)) | _ => none) = some (1, 3) := by rw [Try.underlying33]; rfl
theorem Fd60_0 : (Try.prog.underlying 60).bind (fun d => match d with | .struct fs => (fs[0]?).map (fun f => (f.offset, f.type)) | _ => none) = some (0, 34) := by rw [Try.underlying60]; rfl
theorem Fd60_1 : (Try.prog.underlying 60).bind (fun d => match d with | .struct fs => (fs[1]?).map (fun f => (f.offset, f.type)) | _ => none) = some (1, 3) := by rw [Try.underlying60]; rfl
theorem Fd60_2 : (Try.prog.underlying 60).bind (fun d => match d with | .struct fs => (fs[2]?).map (fun f => (f.offset, f.type)) | _ => none) = some (2, 3) := by rw [Try.underlying60]; rfl
theorem Fd185_0 : (Try.prog.underlying 185).bind (fun d => match d with | .struct fs => (fs[0]?).map (fun f => (f.offset, f.type)) | _ => none) = some (0, 22) := by rw [Try.underlying185]; rfl
theorem Fd187_0 : (Try.prog.underlying 187).bind (fun d => match d with | .struct fs => (fs[0]?).map (fun f => (f.offset, f.type)) | _ => none) = some (0, 185) := by rw [Try.underlying187]; rfl
theorem Al3 : (Try.prog.info? 3).map (·.zero) = some (some (I 0)) := by kernel_rfl
theorem Al30 : (Try.prog.info? 30).map (·.zero) = some (some (.agg #[I 0, I 0, I 0])) := by kernel_rfl
theorem Al33 : (Try.prog.info? 33).map (·.zero) = some (some (.agg #[I 0, I 0])) := by kernel_rfl
theorem Al34 : (Try.prog.info? 34).map (·.zero) = some (some (.slice none 0 0)) := by kernel_rfl
theorem Al60 : (Try.prog.info? 60).map (·.zero) = some (some (.agg #[.slice none 0 0, I 0, I 0])) := by kernel_rfl
theorem Al141 : (Try.prog.info? 141).map (·.zero) = some (some (.agg #[B false, B false, B false, B false, B false, B false, B false, B false, B false, B false, B false, B false, B false, B false, B false, B false, B false, B false, B false, B false, B false, B false, B false, B false, B false, B false, B false, B false, B false, B false])) := by kernel_rfl
theorem Al185 : (Try.prog.info? 185).map (·.zero) = some (some (.agg #[.slice none 0 0])) := by kernel_rfl
theorem Al187 : (Try.prog.info? 187).map (·.zero) = some (some (.agg #[.slice none 0 0])) := by kernel_rfl
theorem Bd185 {fs : Array Field} (h : Try.prog.underlying 185 = some (.struct fs)) : fs.toList.mapM (fun f => (Try.prog.info? f.type).map fun i => (f.offset, i.size)) = some [(0, 1)] := by rw [Try.underlying185] at h; simp only [Option.some.injEq, TypeDesc.struct.injEq] at h; subst h; kernel_rfl
theorem Bd187 {fs : Array Field} (h : Try.prog.underlying 187 = some (.struct fs)) : fs.toList.mapM (fun f => (Try.prog.info? f.type).map fun i => (f.offset, i.size)) = some [(0, 1)] := by rw [Try.underlying187] at h; simp only [Option.some.injEq, TypeDesc.struct.injEq] at h; subst h; kernel_rfl
theorem mixed : Try.prog.follows .mixedOrders = true := by kernel_rfl
end Go.Proofs.Ytndobgodeicloaa
section
set_option maxRecDepth 100000
set_option maxHeartbeats 16000000
namespace Go.Proofs.Ytndobgodeicloaa
open Go Go.Nm
theorem in_any (n a b : Int) (w : World)  : Ret Try.prog 84 #[I n, I a, I b] w fun v w' => v = B (inB n a b) ∧ Ext w w' := by
 refine ret_of_W Try.func84 rfl rfl rfl ?_
 have E := Ext.refl w
 have K1 := KF.refl 0 w
 refine sQ rfl <| sA (B false) rfl <| s_nil <| sQ rfl <| sM (I n) rfl <| sM (I a) rfl <| sC n a (decide ((a : Int) ≤ n)) rfl rfl rfl <| sM (B (decide ((a : Int) ≤ n))) rfl <| g_val (decide ((a : Int) ≤ n)) (gy_t rfl) (fun hg => x_mv (v := I n) rfl) <| g_val (decide ((a : Int) ≤ n)) (gy_t rfl) (fun hg => x_mv (v := I b) rfl) ?_
 refine g_val (decide ((a : Int) ≤ n)) (gy_t rfl) (fun hg => x_cmp (kd := .i64) (a := n) (b := b) (r := decide ((n : Int) ≤ b)) (gd_of (c := decide ((a : Int) ≤ n)) hg (I n)) (gd_of (c := decide ((a : Int) ≤ n)) hg (I b)) rfl) <| s_val (x_pand (b := decide ((a : Int) ≤ n)) (r := decide ((n : Int) ≤ b)) rfl (fun hb => gd_of (c := decide ((a : Int) ≤ n)) (by simp_all) (B (decide ((n : Int) ≤ b)))) rfl) <| sA (B (((decide ((a : Int) ≤ n)) && (decide ((n : Int) ≤ b))))) rfl <| s_nil ?_
 refine W.ret ?_
 exact ⟨_, resE_tmp rfl, rfl, E⟩

theorem indexFunc_int {vl vf : Value} {l : List Int} {p : Int → Bool} (w : World) (hl : Sl w.cell? vl l) (hf : FnB Try.prog w vf p (fun x => x ∈ l)) : Ret Try.prog 102 #[vl, vf] w fun v w' => v = I (idxP p l) ∧ Ext w w' := by
 refine ret_of_W Try.func102 rfl rfl rfl ?_
 have E := Ext.refl w
 have K1 := KF.refl 0 w
 have hl_hl := hl.len_le
 have hl := hl.par
 refine sQ rfl <| sA (I 0) rfl <| s_nil <| W.seq <| sQ rfl <| sM vl rfl <| s_val (x_lenS T34.und rfl (hl.to K1)) <| sM (I 0) rfl <| s_nil <| W.block ?_
 refine W.loop (fun m σ W => ∃ (k : Nat) (ρ : Env), σ = upds ρ [(0, vl), (1, vf), (7, I l.length), (8, I k)] ∧ m = l.length - k ∧ Ext w W ∧ KF 0 w W ∧ k ≤ l.length ∧ (∀ y ∈ l.take k, p y = false)) ?_ ?_
 ·exact ⟨_, 0, _, upds_of _ _ ⟨rfl, rfl, rfl, (eqI (by omega)), trivial⟩, rfl, E, K1, Nat.zero_le _, (by simp)⟩
 rintro m σ w2 ⟨k, ρ, rfl, rfl, E, K1, iv0_0, iv0_1⟩
 refine sQ rfl <| sC k l.length (decide ((k : Int) < l.length)) rfl rfl rfl <| s_nil <| W.seq ?_
 refine W.cond (decide ((k : Int) < l.length)) rfl (fun c3 => ?_) (fun c3 => ?_)
 ·simp only [qz1, qz2, qz3, qz4, qz5, qz6, ne_eq, qz7] at c3
  refine W.skip <| W.seq <| W.block <| sQ rfl <| sM (I k) rfl <| sA (I k) rfl <| s_nil <| sQ rfl <| sM vf rfl <| sM vl rfl ?_
  refine sM (I k) rfl <| s_val (x_ix (a := vl) (b := I k) (v := vat vl 1 (Int.toNat k)) rfl rfl (Sl.ix (α := Int) T34.und T34.size (hl.to K1) (by omega) (by omega))) <| s_val (x_ld (p := vat vl 1 (Int.toNat k)) (v := I (l.getD k 0)) rfl (ld_sc Sc3 (At.to (Int_at hl (i := k) (by omega) (by omega)) K1))) ?_
  refine s_callB hf E rfl rfl (l.getD k 0) (getD_memN l (by omega) _) (Arg.mkI _ _) ?_
  intro w4 x5
  replace E := E.trans x5
  replace K1 := K1.ext x5
  clear x5
  refine s_nil ?_
  refine W.cond (p (l.getD k 0)) rfl (fun c6 => ?_) (fun c6 => ?_)
  ·skip
   refine sQ rfl <| sM (I k) rfl <| sA (I k) rfl <| s_nil ?_
   refine W.ret ?_
   exact ⟨_, resE_tmp rfl, (eqI (idx_yes c3 c6 iv0_1)), E⟩
  skip
  refine W.skip <| W.region rfl <| sR k 1 (k + 1) rfl rfl rfl (by omega) <| sM (I (k + 1)) rfl <| s_nil ?_
  exact ⟨_, (by omega), k+1, _, upds_of _ _ ⟨rfl, rfl, rfl, (eqI (by omega)), trivial⟩, rfl, E, K1, (by omega), (idx_step c3 iv0_1 c6)⟩
 simp only [qz1, qz2, qz3, qz4, qz5, qz6, ne_eq, qz7] at c3
 refine W.exit ?_
 refine sQ rfl <| sA (I (-1)) rfl <| s_nil ?_
 refine W.ret ?_
 exact ⟨_, resE_tmp rfl, (eqI (idx_no c3 iv0_1)), E⟩

theorem containsFunc_int {vl vf : Value} {l : List Int} {p : Int → Bool} (w : World) (hl : Sl w.cell? vl l) (hf : FnB Try.prog w vf p (fun x => x ∈ l)) : Ret Try.prog 48 #[vl, vf] w fun v w' => v = B (l.any p) ∧ Ext w w' := by
 refine ret_of_W Try.func48 rfl rfl rfl ?_
 have E := Ext.refl w
 have K1 := KF.refl 0 w
 have hl_hl := hl.len_le
 have hl := hl.par
 refine sQ rfl <| sA (B false) rfl <| s_nil <| sQ rfl <| sM vl rfl <| sM vf rfl ?_
 refine s_call cf102 [vl, vf] rfl (indexFunc_int _ (hl.to K1) (hf.ext E)) ?_
 rintro _ w2 ⟨rfl, x3⟩
 replace E := E.trans x3
 replace K1 := K1.ext x3
 clear x3
 refine sC (idxP p l) 0 (decide ((0 : Int) ≤ (idxP p l))) rfl rfl rfl <| sA (B (decide ((0 : Int) ≤ (idxP p l)))) rfl <| s_nil ?_
 refine W.ret ?_
 exact ⟨_, resE_tmp rfl, (eqB (idxP_any _ _)), E⟩

theorem every1_int {b : Nat} {vf : Value} {p : Int → Bool} {D : Int → Prop} (x : Int) (w : World) (h_b : w.heap[b]? = some (.cells #[vf] 75 (0, 0))) (hf : FnB Try.prog w vf p D) (hD : D x) : Ret Try.prog 143 #[I x, Pz b] w fun v w' => v = B (!(p x)) ∧ Ext w w' := by
 refine ret_of_W Try.func143 rfl rfl rfl ?_
 have E := Ext.refl w
 have K1 := KF.refl 0 w
 refine sQ rfl <| sA (B false) rfl <| s_nil <| sQ rfl <| s_val (x_ld (p := Pz b) (v := vf) rfl (ldb_sc Sc75 h_b rfl)) <| sM (I x) rfl ?_
 refine s_callB hf E rfl rfl x hD (Arg.mkI _ _) ?_
 intro w2 x3
 replace E := E.trans x3
 replace K1 := K1.ext x3
 replace h_b := x3.get h_b
 clear x3
 refine s_val (x_not (b := p x) rfl) <| sA (B (!(p x))) rfl <| s_nil ?_
 refine W.ret ?_
 exact ⟨_, resE_tmp rfl, rfl, E⟩

theorem every_int {vl vf : Value} {l : List Int} {p : Int → Bool} (w : World) (hl : Sl w.cell? vl l) (hf : FnB Try.prog w vf p (fun x => x ∈ l)) : Ret Try.prog 87 #[vf, vl] w fun v w' => v = B (l.all p) ∧ Ext w w' := by
 refine ret_of_W Try.func87 rfl rfl rfl ?_
 have E := Ext.refl w
 have K1 := KF.refl 0 w
 have hl_hl := hl.len_le
 have hl := hl.par
 refine sQ rfl ?_
 refine s_box (v := vf) (cs := [vf]) rfl (FnB.cells hf) ?_
 intro b2 w3 Nb2
 have o_K1_b2 := Nat.le_trans K1.size Nb2.ge
 have o_b2 := Nat.le_trans E.size Nb2.ge
 replace E := E.trans Nb2.ext
 replace K1 := K1.ext Nb2.ext
 have h_b2 := Nb2.same
 clear Nb2
 refine sA (B false) rfl <| s_nil <| sQ rfl <| sM vl rfl <| s_val (x_mf (fs := []) (cs := [Pz b2]) rfl rfl) ?_
 refine s_call cf48 [vl, .func (.func 143) #[] #[Pz b2]] rfl (containsFunc_int _ (hl.to K1) ⟨143, [Pz b2], rfl, cf143, fun w' v x hE hD hA => by obtain rfl := Arg.int hA; exact (every1_int _ _ (hE.get h_b2) ((hf.ext E).ext hE) hD)⟩) ?_
 rintro _ w4 ⟨rfl, x5⟩
 replace E := E.trans x5
 replace K1 := K1.ext x5
 replace h_b2 := x5.get h_b2
 clear x5
 refine s_val (x_not (b := l.any (fun x => !(p x))) rfl) <| sA (B (!(l.any (fun x => !(p x))))) rfl <| s_nil ?_
 refine W.ret ?_
 exact ⟨_, resE_tmp rfl, (eqB (any_not _ _)), E⟩

theorem indexFunc_Note {vl vf : Value} {l : List Note} {p : Note → Bool} (w : World) (hl : Sl w.cell? vl l) (hf : FnB Try.prog w vf p (fun x => x ∈ l)) : Ret Try.prog 179 #[vl, vf] w fun v w' => v = I (idxP p l) ∧ Ext w w' := by
 refine ret_of_W Try.func179 rfl rfl rfl ?_
 have E := Ext.refl w
 have K1 := KF.refl 0 w
 have hl_hl := hl.len_le
 have hl := hl.par
 refine sQ rfl <| sA (I 0) rfl <| s_nil <| W.seq <| sQ rfl <| sM vl rfl <| s_val (x_lenS T23.und rfl (hl.to K1)) <| sM (I 0) rfl <| s_nil <| W.block ?_
 refine W.loop (fun m σ W => ∃ (k : Nat) (ρ : Env), σ = upds ρ [(0, vl), (1, vf), (7, I l.length), (8, I k)] ∧ m = l.length - k ∧ Ext w W ∧ KF 0 w W ∧ k ≤ l.length ∧ (∀ y ∈ l.take k, p y = false)) ?_ ?_
 ·exact ⟨_, 0, _, upds_of _ _ ⟨rfl, rfl, rfl, (eqI (by omega)), trivial⟩, rfl, E, K1, Nat.zero_le _, (by simp)⟩
 rintro m σ w2 ⟨k, ρ, rfl, rfl, E, K1, iv0_0, iv0_1⟩
 refine sQ rfl <| sC k l.length (decide ((k : Int) < l.length)) rfl rfl rfl <| s_nil <| W.seq ?_
 refine W.cond (decide ((k : Int) < l.length)) rfl (fun c3 => ?_) (fun c3 => ?_)
 ·simp only [qz1, qz2, qz3, qz4, qz5, qz6, ne_eq, qz7] at c3
  refine W.skip <| W.seq <| W.block <| sQ rfl <| sM (I k) rfl <| sA (I k) rfl <| s_nil <| sQ rfl <| sM vf rfl <| sM vl rfl ?_
  refine sM (I k) rfl <| s_val (x_ix (a := vl) (b := I k) (v := vat vl 3 (Int.toNat k)) rfl rfl (Sl.ix (α := Note) T23.und T23.size (hl.to K1) (by omega) (by omega))) <| s_val (x_ld (p := vat vl 3 (Int.toNat k)) (v := .agg #[I ((l.getD k default).work), I ((l.getD k default).version), I ((l.getD k default).value)]) rfl (ld_ag Ag30 Sz30 (At.to (Note_atA hl (i := k) (by omega) (by omega)) K1))) ?_
  refine s_callB hf E rfl rfl ((l.getD k default)) (getD_memN l (by omega) _) ⟨_, rfl, rfl⟩ ?_
  intro w4 x5
  replace E := E.trans x5
  replace K1 := K1.ext x5
  clear x5
  refine s_nil ?_
  refine W.cond (p ((l.getD k default))) rfl (fun c6 => ?_) (fun c6 => ?_)
  ·skip
   refine sQ rfl <| sM (I k) rfl <| sA (I k) rfl <| s_nil ?_
   refine W.ret ?_
   exact ⟨_, resE_tmp rfl, (eqI (idx_yes c3 c6 iv0_1)), E⟩
  skip
  refine W.skip <| W.region rfl <| sR k 1 (k + 1) rfl rfl rfl (by omega) <| sM (I (k + 1)) rfl <| s_nil ?_
  exact ⟨_, (by omega), k+1, _, upds_of _ _ ⟨rfl, rfl, rfl, (eqI (by omega)), trivial⟩, rfl, E, K1, (by omega), (idx_step c3 iv0_1 c6)⟩
 simp only [qz1, qz2, qz3, qz4, qz5, qz6, ne_eq, qz7] at c3
 refine W.exit ?_
 refine sQ rfl <| sA (I (-1)) rfl <| s_nil ?_
 refine W.ret ?_
 exact ⟨_, resE_tmp rfl, (eqI (idx_no c3 iv0_1)), E⟩

theorem containsFunc_Note {vl vf : Value} {l : List Note} {p : Note → Bool} (w : World) (hl : Sl w.cell? vl l) (hf : FnB Try.prog w vf p (fun x => x ∈ l)) : Ret Try.prog 140 #[vl, vf] w fun v w' => v = B (l.any p) ∧ Ext w w' := by
 refine ret_of_W Try.func140 rfl rfl rfl ?_
 have E := Ext.refl w
 have K1 := KF.refl 0 w
 have hl_hl := hl.len_le
 have hl := hl.par
 refine sQ rfl <| sA (B false) rfl <| s_nil <| sQ rfl <| sM vl rfl <| sM vf rfl ?_
 refine s_call cf179 [vl, vf] rfl (indexFunc_Note _ (hl.to K1) (hf.ext E)) ?_
 rintro _ w2 ⟨rfl, x3⟩
 replace E := E.trans x3
 replace K1 := K1.ext x3
 clear x3
 refine sC (idxP p l) 0 (decide ((0 : Int) ≤ (idxP p l))) rfl rfl rfl <| sA (B (decide ((0 : Int) ≤ (idxP p l)))) rfl <| s_nil ?_
 refine W.ret ?_
 exact ⟨_, resE_tmp rfl, (eqB (idxP_any _ _)), E⟩

theorem every1_Note {b : Nat} {vf : Value} {p : Note → Bool} {D : Note → Prop} (x : Note) (w : World) (h_b : w.heap[b]? = some (.cells #[vf] 132 (0, 0))) (hf : FnB Try.prog w vf p D) (hD : D x) : Ret Try.prog 141 #[.agg #[I x.work, I x.version, I x.value], Pz b] w fun v w' => v = B (!(p x)) ∧ Ext w w' := by
 refine ret_of_W Try.func141 rfl rfl rfl ?_
 have E := Ext.refl w
 have K1 := KF.refl 0 w
 refine sQ rfl ?_
 refine s_box (v := .agg #[I x.work, I x.version, I x.value]) (cs := [I x.work, I x.version, I x.value]) rfl rfl ?_
 intro b2 w3 Nb2
 have o_K1_b2 := Nat.le_trans K1.size Nb2.ge
 have o_b2 := Nat.le_trans E.size Nb2.ge
 have o_b_b2 := Nat.lt_of_lt_of_le (heap_lt h_b) Nb2.ge
 replace E := E.trans Nb2.ext
 replace K1 := K1.ext Nb2.ext
 replace h_b := Nb2.ext.get h_b
 have h_b2 := Nb2.same
 clear Nb2
 refine sA (B false) rfl <| s_nil <| sQ rfl <| s_val (x_ld (p := Pz b) (v := vf) rfl (ldb_sc Sc132 h_b rfl)) <| s_val (x_ld (p := Pz b2) (v := .agg #[I x.work, I x.version, I x.value]) rfl (ldb_ag (ds := [I x.work, I x.version, I x.value]) Ag30 Sz30 h_b2 rfl rfl)) ?_
 refine s_callB hf E rfl rfl x hD ⟨_, rfl, rfl⟩ ?_
 intro w4 x5
 replace E := E.trans x5
 replace K1 := K1.ext x5
 replace h_b := x5.get h_b
 replace h_b2 := x5.get h_b2
 clear x5
 refine s_val (x_not (b := p x) rfl) <| sA (B (!(p x))) rfl <| s_nil ?_
 refine W.ret ?_
 exact ⟨_, resE_tmp rfl, rfl, E⟩

theorem every_Note {vl vf : Value} {l : List Note} {p : Note → Bool} (w : World) (hl : Sl w.cell? vl l) (hf : FnB Try.prog w vf p (fun x => x ∈ l)) : Ret Try.prog 82 #[vf, vl] w fun v w' => v = B (l.all p) ∧ Ext w w' := by
 refine ret_of_W Try.func82 rfl rfl rfl ?_
 have E := Ext.refl w
 have K1 := KF.refl 0 w
 have hl_hl := hl.len_le
 have hl := hl.par
 refine sQ rfl ?_
 refine s_box (v := vf) (cs := [vf]) rfl (FnB.cells hf) ?_
 intro b2 w3 Nb2
 have o_K1_b2 := Nat.le_trans K1.size Nb2.ge
 have o_b2 := Nat.le_trans E.size Nb2.ge
 replace E := E.trans Nb2.ext
 replace K1 := K1.ext Nb2.ext
 have h_b2 := Nb2.same
 clear Nb2
 refine sA (B false) rfl <| s_nil <| sQ rfl <| sM vl rfl <| s_val (x_mf (fs := []) (cs := [Pz b2]) rfl rfl) ?_
 refine s_call cf140 [vl, .func (.func 141) #[] #[Pz b2]] rfl (containsFunc_Note _ (hl.to K1) ⟨141, [Pz b2], rfl, cf141, fun w' v x hE hD hA => by obtain rfl := Note_arg hA; exact (every1_Note _ _ (hE.get h_b2) ((hf.ext E).ext hE) hD)⟩) ?_
 rintro _ w4 ⟨rfl, x5⟩
 replace E := E.trans x5
 replace K1 := K1.ext x5
 replace h_b2 := x5.get h_b2
 clear x5
 refine s_val (x_not (b := l.any (fun x => !(p x))) rfl) <| sA (B (!(l.any (fun x => !(p x))))) rfl <| s_nil ?_
 refine W.ret ?_
 exact ⟨_, resE_tmp rfl, (eqB (any_not _ _)), E⟩

theorem indexFunc_Pub {vl vf : Value} {l : List Pub} {p : Pub → Bool} (w : World) (hl : Sl w.cell? vl l) (hf : FnB Try.prog w vf p (fun x => x ∈ l)) : Ret Try.prog 182 #[vl, vf] w fun v w' => v = I (idxP p l) ∧ Ext w w' := by
 refine ret_of_W Try.func182 rfl rfl rfl ?_
 have E := Ext.refl w
 have K1 := KF.refl 0 w
 have hl_hl := hl.len_le
 have hl := hl.par
 refine sQ rfl <| sA (I 0) rfl <| s_nil <| W.seq <| sQ rfl <| sM vl rfl <| s_val (x_lenS T24.und rfl (hl.to K1)) <| sM (I 0) rfl <| s_nil <| W.block ?_
 refine W.loop (fun m σ W => ∃ (k : Nat) (ρ : Env), σ = upds ρ [(0, vl), (1, vf), (7, I l.length), (8, I k)] ∧ m = l.length - k ∧ Ext w W ∧ KF 0 w W ∧ k ≤ l.length ∧ (∀ y ∈ l.take k, p y = false)) ?_ ?_
 ·exact ⟨_, 0, _, upds_of _ _ ⟨rfl, rfl, rfl, (eqI (by omega)), trivial⟩, rfl, E, K1, Nat.zero_le _, (by simp)⟩
 rintro m σ w2 ⟨k, ρ, rfl, rfl, E, K1, iv0_0, iv0_1⟩
 refine sQ rfl <| sC k l.length (decide ((k : Int) < l.length)) rfl rfl rfl <| s_nil <| W.seq ?_
 refine W.cond (decide ((k : Int) < l.length)) rfl (fun c3 => ?_) (fun c3 => ?_)
 ·simp only [qz1, qz2, qz3, qz4, qz5, qz6, ne_eq, qz7] at c3
  refine W.skip <| W.seq <| W.block <| sQ rfl <| sM (I k) rfl <| sA (I k) rfl <| s_nil <| sQ rfl <| sM vf rfl <| sM vl rfl ?_
  refine sM (I k) rfl <| s_val (x_ix (a := vl) (b := I k) (v := vat vl 2 (Int.toNat k)) rfl rfl (Sl.ix (α := Pub) T24.und T24.size (hl.to K1) (by omega) (by omega))) <| s_val (x_ld (p := vat vl 2 (Int.toNat k)) (v := .agg #[I ((l.getD k default).work), I ((l.getD k default).value)]) rfl (ld_ag Ag33 Sz33 (At.to (Pub_atA hl (i := k) (by omega) (by omega)) K1))) ?_
  refine s_callB hf E rfl rfl ((l.getD k default)) (getD_memN l (by omega) _) ⟨_, rfl, rfl⟩ ?_
  intro w4 x5
  replace E := E.trans x5
  replace K1 := K1.ext x5
  clear x5
  refine s_nil ?_
  refine W.cond (p ((l.getD k default))) rfl (fun c6 => ?_) (fun c6 => ?_)
  ·skip
   refine sQ rfl <| sM (I k) rfl <| sA (I k) rfl <| s_nil ?_
   refine W.ret ?_
   exact ⟨_, resE_tmp rfl, (eqI (idx_yes c3 c6 iv0_1)), E⟩
  skip
  refine W.skip <| W.region rfl <| sR k 1 (k + 1) rfl rfl rfl (by omega) <| sM (I (k + 1)) rfl <| s_nil ?_
  exact ⟨_, (by omega), k+1, _, upds_of _ _ ⟨rfl, rfl, rfl, (eqI (by omega)), trivial⟩, rfl, E, K1, (by omega), (idx_step c3 iv0_1 c6)⟩
 simp only [qz1, qz2, qz3, qz4, qz5, qz6, ne_eq, qz7] at c3
 refine W.exit ?_
 refine sQ rfl <| sA (I (-1)) rfl <| s_nil ?_
 refine W.ret ?_
 exact ⟨_, resE_tmp rfl, (eqI (idx_no c3 iv0_1)), E⟩

theorem containsFunc_Pub {vl vf : Value} {l : List Pub} {p : Pub → Bool} (w : World) (hl : Sl w.cell? vl l) (hf : FnB Try.prog w vf p (fun x => x ∈ l)) : Ret Try.prog 144 #[vl, vf] w fun v w' => v = B (l.any p) ∧ Ext w w' := by
 refine ret_of_W Try.func144 rfl rfl rfl ?_
 have E := Ext.refl w
 have K1 := KF.refl 0 w
 have hl_hl := hl.len_le
 have hl := hl.par
 refine sQ rfl <| sA (B false) rfl <| s_nil <| sQ rfl <| sM vl rfl <| sM vf rfl ?_
 refine s_call cf182 [vl, vf] rfl (indexFunc_Pub _ (hl.to K1) (hf.ext E)) ?_
 rintro _ w2 ⟨rfl, x3⟩
 replace E := E.trans x3
 replace K1 := K1.ext x3
 clear x3
 refine sC (idxP p l) 0 (decide ((0 : Int) ≤ (idxP p l))) rfl rfl rfl <| sA (B (decide ((0 : Int) ≤ (idxP p l)))) rfl <| s_nil ?_
 refine W.ret ?_
 exact ⟨_, resE_tmp rfl, (eqB (idxP_any _ _)), E⟩

theorem every1_Pub {b : Nat} {vf : Value} {p : Pub → Bool} {D : Pub → Prop} (x : Pub) (w : World) (h_b : w.heap[b]? = some (.cells #[vf] 140 (0, 0))) (hf : FnB Try.prog w vf p D) (hD : D x) : Ret Try.prog 145 #[.agg #[I x.work, I x.value], Pz b] w fun v w' => v = B (!(p x)) ∧ Ext w w' := by
 refine ret_of_W Try.func145 rfl rfl rfl ?_
 have E := Ext.refl w
 have K1 := KF.refl 0 w
 refine sQ rfl ?_
 refine s_box (v := .agg #[I x.work, I x.value]) (cs := [I x.work, I x.value]) rfl rfl ?_
 intro b2 w3 Nb2
 have o_K1_b2 := Nat.le_trans K1.size Nb2.ge
 have o_b2 := Nat.le_trans E.size Nb2.ge
 have o_b_b2 := Nat.lt_of_lt_of_le (heap_lt h_b) Nb2.ge
 replace E := E.trans Nb2.ext
 replace K1 := K1.ext Nb2.ext
 replace h_b := Nb2.ext.get h_b
 have h_b2 := Nb2.same
 clear Nb2
 refine sA (B false) rfl <| s_nil <| sQ rfl <| s_val (x_ld (p := Pz b) (v := vf) rfl (ldb_sc Sc140 h_b rfl)) <| s_val (x_ld (p := Pz b2) (v := .agg #[I x.work, I x.value]) rfl (ldb_ag (ds := [I x.work, I x.value]) Ag33 Sz33 h_b2 rfl rfl)) ?_
 refine s_callB hf E rfl rfl x hD ⟨_, rfl, rfl⟩ ?_
 intro w4 x5
 replace E := E.trans x5
 replace K1 := K1.ext x5
 replace h_b := x5.get h_b
 replace h_b2 := x5.get h_b2
 clear x5
 refine s_val (x_not (b := p x) rfl) <| sA (B (!(p x))) rfl <| s_nil ?_
 refine W.ret ?_
 exact ⟨_, resE_tmp rfl, rfl, E⟩

theorem every_Pub {vl vf : Value} {l : List Pub} {p : Pub → Bool} (w : World) (hl : Sl w.cell? vl l) (hf : FnB Try.prog w vf p (fun x => x ∈ l)) : Ret Try.prog 90 #[vf, vl] w fun v w' => v = B (l.all p) ∧ Ext w w' := by
 refine ret_of_W Try.func90 rfl rfl rfl ?_
 have E := Ext.refl w
 have K1 := KF.refl 0 w
 have hl_hl := hl.len_le
 have hl := hl.par
 refine sQ rfl ?_
 refine s_box (v := vf) (cs := [vf]) rfl (FnB.cells hf) ?_
 intro b2 w3 Nb2
 have o_K1_b2 := Nat.le_trans K1.size Nb2.ge
 have o_b2 := Nat.le_trans E.size Nb2.ge
 replace E := E.trans Nb2.ext
 replace K1 := K1.ext Nb2.ext
 have h_b2 := Nb2.same
 clear Nb2
 refine sA (B false) rfl <| s_nil <| sQ rfl <| sM vl rfl <| s_val (x_mf (fs := []) (cs := [Pz b2]) rfl rfl) ?_
 refine s_call cf144 [vl, .func (.func 145) #[] #[Pz b2]] rfl (containsFunc_Pub _ (hl.to K1) ⟨145, [Pz b2], rfl, cf145, fun w' v x hE hD hA => by obtain rfl := Pub_arg hA; exact (every1_Pub _ _ (hE.get h_b2) ((hf.ext E).ext hE) hD)⟩) ?_
 rintro _ w4 ⟨rfl, x5⟩
 replace E := E.trans x5
 replace K1 := K1.ext x5
 replace h_b2 := x5.get h_b2
 clear x5
 refine s_val (x_not (b := l.any (fun x => !(p x))) rfl) <| sA (B (!(l.any (fun x => !(p x))))) rfl <| s_nil ?_
 refine W.ret ?_
 exact ⟨_, resE_tmp rfl, (eqB (any_not _ _)), E⟩

theorem indexFunc_Work {vl vf : Value} {l : List Work} {p : Work → Bool} (w : World) (hl : Sl w.cell? vl l) (hf : FnB Try.prog w vf p (fun x => x ∈ l)) : Ret Try.prog 200 #[vl, vf] w fun v w' => v = I (idxP p l) ∧ Ext w w' := by
 refine ret_of_W Try.func200 rfl rfl rfl ?_
 have E := Ext.refl w
 have K1 := KF.refl 0 w
 have hl_hl := hl.len_le
 have hl := hl.par
 refine sQ rfl <| sA (I 0) rfl <| s_nil <| W.seq <| sQ rfl <| sM vl rfl <| s_val (x_lenS T22.und rfl (hl.to K1)) <| sM (I 0) rfl <| s_nil <| W.block ?_
 refine W.loop (fun m σ W => ∃ (k : Nat) (ρ : Env), σ = upds ρ [(0, vl), (1, vf), (7, I l.length), (8, I k)] ∧ m = l.length - k ∧ Ext w W ∧ KF 0 w W ∧ k ≤ l.length ∧ (∀ y ∈ l.take k, p y = false)) ?_ ?_
 ·exact ⟨_, 0, _, upds_of _ _ ⟨rfl, rfl, rfl, (eqI (by omega)), trivial⟩, rfl, E, K1, Nat.zero_le _, (by simp)⟩
 rintro m σ w2 ⟨k, ρ, rfl, rfl, E, K1, iv0_0, iv0_1⟩
 refine sQ rfl <| sC k l.length (decide ((k : Int) < l.length)) rfl rfl rfl <| s_nil <| W.seq ?_
 refine W.cond (decide ((k : Int) < l.length)) rfl (fun c3 => ?_) (fun c3 => ?_)
 ·simp only [qz1, qz2, qz3, qz4, qz5, qz6, ne_eq, qz7] at c3
  refine W.skip <| W.seq <| W.block <| sQ rfl <| sM (I k) rfl <| sA (I k) rfl <| s_nil <| sQ rfl <| sM vf rfl <| sM vl rfl ?_
  refine sM (I k) rfl <| s_val (x_ix (a := vl) (b := I k) (v := vat vl 3 (Int.toNat k)) rfl rfl (Sl.ix (α := Work) T22.und T22.size (hl.to K1) (by omega) (by omega))) ?_
  obtain ⟨u4, ha6, hs5⟩ := Work_atA hl (i := k) (by omega) (by omega)
  replace hs5 : Sl _ u4 (l.getD k default).of := hs5
  have hl_hs5 := hs5.len_le
  refine s_val (x_ld (p := vat vl 3 (Int.toNat k)) (v := .agg #[u4, I ((l.getD k default).base), I ((l.getD k default).minutes)]) rfl (ld_ag Ag60 Sz60 (At.to ha6 K1))) ?_
  refine s_callB hf E rfl rfl ((l.getD k default)) (getD_memN l (by omega) _) ⟨_, Work_mk (hs5.to K1), rfl⟩ ?_
  intro w7 x8
  replace E := E.trans x8
  replace K1 := K1.ext x8
  clear x8
  refine s_nil ?_
  refine W.cond (p ((l.getD k default))) rfl (fun c9 => ?_) (fun c9 => ?_)
  ·skip
   refine sQ rfl <| sM (I k) rfl <| sA (I k) rfl <| s_nil ?_
   refine W.ret ?_
   exact ⟨_, resE_tmp rfl, (eqI (idx_yes c3 c9 iv0_1)), E⟩
  skip
  refine W.skip <| W.region rfl <| sR k 1 (k + 1) rfl rfl rfl (by omega) <| sM (I (k + 1)) rfl <| s_nil ?_
  exact ⟨_, (by omega), k+1, _, upds_of _ _ ⟨rfl, rfl, rfl, (eqI (by omega)), trivial⟩, rfl, E, K1, (by omega), (idx_step c3 iv0_1 c9)⟩
 simp only [qz1, qz2, qz3, qz4, qz5, qz6, ne_eq, qz7] at c3
 refine W.exit ?_
 refine sQ rfl <| sA (I (-1)) rfl <| s_nil ?_
 refine W.ret ?_
 exact ⟨_, resE_tmp rfl, (eqI (idx_no c3 iv0_1)), E⟩

theorem containsFunc_Work {vl vf : Value} {l : List Work} {p : Work → Bool} (w : World) (hl : Sl w.cell? vl l) (hf : FnB Try.prog w vf p (fun x => x ∈ l)) : Ret Try.prog 186 #[vl, vf] w fun v w' => v = B (l.any p) ∧ Ext w w' := by
 refine ret_of_W Try.func186 rfl rfl rfl ?_
 have E := Ext.refl w
 have K1 := KF.refl 0 w
 have hl_hl := hl.len_le
 have hl := hl.par
 refine sQ rfl <| sA (B false) rfl <| s_nil <| sQ rfl <| sM vl rfl <| sM vf rfl ?_
 refine s_call cf200 [vl, vf] rfl (indexFunc_Work _ (hl.to K1) (hf.ext E)) ?_
 rintro _ w2 ⟨rfl, x3⟩
 replace E := E.trans x3
 replace K1 := K1.ext x3
 clear x3
 refine sC (idxP p l) 0 (decide ((0 : Int) ≤ (idxP p l))) rfl rfl rfl <| sA (B (decide ((0 : Int) ≤ (idxP p l)))) rfl <| s_nil ?_
 refine W.ret ?_
 exact ⟨_, resE_tmp rfl, (eqB (idxP_any _ _)), E⟩

theorem every1_Work {b : Nat} {vf : Value} {p : Work → Bool} {D : Work → Prop} {sv : Value} (x : Work) (w : World) (h_b : w.heap[b]? = some (.cells #[vf] 218 (0, 0))) (hf : FnB Try.prog w vf p D) (hs : Sl w.cell? sv x.of) (hD : D x) : Ret Try.prog 187 #[.agg #[sv, I x.base, I x.minutes], Pz b] w fun v w' => v = B (!(p x)) ∧ Ext w w' := by
 refine ret_of_W Try.func187 rfl rfl rfl ?_
 have E := Ext.refl w
 have K1 := KF.refl 0 w
 have hl_hs := hs.len_le
 have hs := hs.par
 refine sQ rfl ?_
 refine s_box (v := .agg #[sv, I x.base, I x.minutes]) (cs := [sv, I x.base, I x.minutes]) rfl rfl ?_
 intro b2 w3 Nb2
 have o_K1_b2 := Nat.le_trans K1.size Nb2.ge
 have o_b2 := Nat.le_trans E.size Nb2.ge
 have o_b_b2 := Nat.lt_of_lt_of_le (heap_lt h_b) Nb2.ge
 replace E := E.trans Nb2.ext
 replace K1 := K1.ext Nb2.ext
 replace h_b := Nb2.ext.get h_b
 have h_b2 := Nb2.same
 clear Nb2
 refine sA (B false) rfl <| s_nil <| sQ rfl <| s_val (x_ld (p := Pz b) (v := vf) rfl (ldb_sc Sc218 h_b rfl)) <| s_val (x_ld (p := Pz b2) (v := .agg #[sv, I x.base, I x.minutes]) rfl (ldb_ag (ds := [sv, I x.base, I x.minutes]) Ag60 Sz60 h_b2 rfl rfl)) ?_
 refine s_callB hf E rfl rfl x hD ⟨_, Work_mk (hs.to K1), rfl⟩ ?_
 intro w4 x5
 replace E := E.trans x5
 replace K1 := K1.ext x5
 replace h_b := x5.get h_b
 replace h_b2 := x5.get h_b2
 clear x5
 refine s_val (x_not (b := p x) rfl) <| sA (B (!(p x))) rfl <| s_nil ?_
 refine W.ret ?_
 exact ⟨_, resE_tmp rfl, rfl, E⟩

theorem every_Work {vl vf : Value} {l : List Work} {p : Work → Bool} (w : World) (hl : Sl w.cell? vl l) (hf : FnB Try.prog w vf p (fun x => x ∈ l)) : Ret Try.prog 161 #[vf, vl] w fun v w' => v = B (l.all p) ∧ Ext w w' := by
 refine ret_of_W Try.func161 rfl rfl rfl ?_
 have E := Ext.refl w
 have K1 := KF.refl 0 w
 have hl_hl := hl.len_le
 have hl := hl.par
 refine sQ rfl ?_
 refine s_box (v := vf) (cs := [vf]) rfl (FnB.cells hf) ?_
 intro b2 w3 Nb2
 have o_K1_b2 := Nat.le_trans K1.size Nb2.ge
 have o_b2 := Nat.le_trans E.size Nb2.ge
 replace E := E.trans Nb2.ext
 replace K1 := K1.ext Nb2.ext
 have h_b2 := Nb2.same
 clear Nb2
 refine sA (B false) rfl <| s_nil <| sQ rfl <| sM vl rfl <| s_val (x_mf (fs := []) (cs := [Pz b2]) rfl rfl) ?_
 refine s_call cf186 [vl, .func (.func 187) #[] #[Pz b2]] rfl (containsFunc_Work _ (hl.to K1) ⟨187, [Pz b2], rfl, cf187, fun w' v x hE hD hA => by obtain ⟨sv, rfl, hs⟩ := Work_arg hA; exact (every1_Work _ _ (hE.get h_b2) ((hf.ext E).ext hE) hs hD)⟩) ?_
 rintro _ w4 ⟨rfl, x5⟩
 replace E := E.trans x5
 replace K1 := K1.ext x5
 replace h_b2 := x5.get h_b2
 clear x5
 refine s_val (x_not (b := l.any (fun x => !(p x))) rfl) <| sA (B (!(l.any (fun x => !(p x))))) rfl <| s_nil ?_
 refine W.ret ?_
 exact ⟨_, resE_tmp rfl, (eqB (any_not _ _)), E⟩

end Go.Proofs.Ytndobgodeicloaa
end
section
set_option maxRecDepth 100000
set_option maxHeartbeats 16000000
namespace Go.Proofs.Ytndobgodeicloaa
open Go Go.Nm
theorem index_int {vl : Value} {l : List Int} (n : Int) (w : World) (hl : Sl w.cell? vl l) : Ret Try.prog 100 #[vl, I n] w fun v w' => v = I (idxI l n) ∧ Ext w w' := by
 refine ret_of_W Try.func100 rfl rfl rfl ?_
 have E := Ext.refl w
 have K1 := KF.refl 0 w
 have hl_hl := hl.len_le
 have hl := hl.par
 refine sQ rfl <| sA (I 0) rfl <| s_nil <| W.seq <| sQ rfl <| sM vl rfl <| s_val (x_lenS T34.und rfl (hl.to K1)) <| sM (I 0) rfl <| s_nil <| W.block ?_
 refine W.loop (fun m σ W => ∃ (k : Nat) (ρ : Env), σ = upds ρ [(0, vl), (1, I n), (7, I l.length), (8, I k)] ∧ m = l.length - k ∧ Ext w W ∧ KF 0 w W ∧ k ≤ l.length ∧ (∀ y ∈ l.take k, (fun x : Int => n == x) y = false)) ?_ ?_
 ·exact ⟨_, 0, _, upds_of _ _ ⟨rfl, rfl, rfl, (eqI (by omega)), trivial⟩, rfl, E, K1, Nat.zero_le _, (by simp)⟩
 rintro m σ w2 ⟨k, ρ, rfl, rfl, E, K1, iv0_0, iv0_1⟩
 refine sQ rfl <| sC k l.length (decide ((k : Int) < l.length)) rfl rfl rfl <| s_nil <| W.seq ?_
 refine W.cond (decide ((k : Int) < l.length)) rfl (fun c3 => ?_) (fun c3 => ?_)
 ·simp only [qz1, qz2, qz3, qz4, qz5, qz6, ne_eq, qz7] at c3
  refine W.skip <| W.seq <| W.block <| sQ rfl <| sM (I k) rfl <| sA (I k) rfl <| s_nil <| sQ rfl <| sM (I n) rfl <| sM vl rfl ?_
  refine sM (I k) rfl <| s_val (x_ix (a := vl) (b := I k) (v := vat vl 1 (Int.toNat k)) rfl rfl (Sl.ix (α := Int) T34.und T34.size (hl.to K1) (by omega) (by omega))) <| s_val (x_ld (p := vat vl 1 (Int.toNat k)) (v := I (l.getD k 0)) rfl (ld_sc Sc3 (At.to (Int_at hl (i := k) (by omega) (by omega)) K1))) <| sC n (l.getD k 0) ((n : Int) == (l.getD k 0)) rfl rfl rfl <| s_nil ?_
  refine W.cond ((n : Int) == (l.getD k 0)) rfl (fun c4 => ?_) (fun c4 => ?_)
  ·simp only [qz1, qz2, qz3, qz4, qz5, qz6, ne_eq, qz7] at c4
   refine sQ rfl <| sM (I k) rfl <| sA (I k) rfl <| s_nil ?_
   refine W.ret ?_
   exact ⟨_, resE_tmp rfl, (eqI (idx_yes (p := fun x : Int => n == x) (d := 0) c3 (by simpa using c4) iv0_1)), E⟩
  simp only [qz1, qz2, qz3, qz4, qz5, qz6, ne_eq, qz7] at c4
  refine W.skip <| W.region rfl <| sR k 1 (k + 1) rfl rfl rfl (by omega) <| sM (I (k + 1)) rfl <| s_nil ?_
  exact ⟨_, (by omega), k+1, _, upds_of _ _ ⟨rfl, rfl, rfl, (eqI (by omega)), trivial⟩, rfl, E, K1, (by omega), (idx_step (p := fun x : Int => n == x) (d := 0) c3 iv0_1 (by simpa using c4))⟩
 simp only [qz1, qz2, qz3, qz4, qz5, qz6, ne_eq, qz7] at c3
 refine W.exit ?_
 refine sQ rfl <| sA (I (-1)) rfl <| s_nil ?_
 refine W.ret ?_
 exact ⟨_, resE_tmp rfl, (eqI (idx_no (p := fun x : Int => n == x) c3 iv0_1)), E⟩

theorem contains_int {vl : Value} {l : List Int} (n : Int) (w : World) (hl : Sl w.cell? vl l) : Ret Try.prog 45 #[vl, I n] w fun v w' => v = B (l.contains n) ∧ Ext w w' := by
 refine ret_of_W Try.func45 rfl rfl rfl ?_
 have E := Ext.refl w
 have K1 := KF.refl 0 w
 have hl_hl := hl.len_le
 have hl := hl.par
 refine sQ rfl <| sA (B false) rfl <| s_nil <| sQ rfl <| sM vl rfl <| sM (I n) rfl ?_
 refine s_call cf100 [vl, I n] rfl (index_int n _ (hl.to K1)) ?_
 rintro _ w2 ⟨rfl, x3⟩
 replace E := E.trans x3
 replace K1 := K1.ext x3
 clear x3
 refine sC (idxI l n) 0 (decide ((0 : Int) ≤ (idxI l n))) rfl rfl rfl <| sA (B (decide ((0 : Int) ≤ (idxI l n)))) rfl <| s_nil ?_
 refine W.ret ?_
 exact ⟨_, resE_tmp rfl, (eqB (idxI_any _ _)), E⟩

theorem right1 {sv : Value} (x : Work) (w : World) (hs : Sl w.cell? sv x.of) : Ret Try.prog 162 #[.agg #[sv, I x.base, I x.minutes]] w fun v w' => v = B (decide ((x.of.length : Int) ≤ 5)) ∧ Ext w w' := by
 refine ret_of_W Try.func162 rfl rfl rfl ?_
 have E := Ext.refl w
 have K1 := KF.refl 0 w
 have hl_hs := hs.len_le
 have hs := hs.par
 refine sQ rfl ?_
 refine s_box (v := .agg #[sv, I x.base, I x.minutes]) (cs := [sv, I x.base, I x.minutes]) rfl rfl ?_
 intro b2 w3 Nb2
 have o_K1_b2 := Nat.le_trans K1.size Nb2.ge
 have o_b2 := Nat.le_trans E.size Nb2.ge
 replace E := E.trans Nb2.ext
 replace K1 := K1.ext Nb2.ext
 have h_b2 := Nb2.same
 clear Nb2
 refine sA (B false) rfl <| s_nil <| sQ rfl <| s_val (x_fa (a := Pz b2) (v := Pz b2) rfl (fa_blk (o := 0) Fd60_0 Sz34)) <| s_val (x_ld (p := Pz b2) (v := sv) rfl (ldb_sc Sc34 h_b2 rfl)) <| s_val (x_lenS T34.und rfl (hs.to K1)) <| sC x.of.length 5 (decide ((x.of.length : Int) ≤ 5)) rfl rfl rfl <| sA (B (decide ((x.of.length : Int) ≤ 5))) rfl <| s_nil ?_
 refine W.ret ?_
 exact ⟨_, resE_tmp rfl, rfl, E⟩

theorem right2 {b1 b2 : Nat} {vw : Value} {ws : List Work} (i x : Int) (w : World) (h_b1 : w.heap[b1]? = some (.cells #[vw] 22 (0, 0))) (h_b2 : w.heap[b2]? = some (.cells #[I i] 3 (0, 0))) (hw : Sl w.cell? vw ws) : Ret Try.prog 163 #[I x, Pz b1, Pz b2] w fun v w' => v = B (inB x 0 ((ws.length : Int) - 1) && (x != i)) ∧ Ext w w' := by
 refine ret_of_W Try.func163 rfl rfl rfl ?_
 have E := Ext.refl w
 have K1 := KF.refl 0 w
 have hl_hw := hw.len_le
 have hw := hw.par
 refine sQ rfl <| sA (B false) rfl <| s_nil <| sQ rfl <| sM (I x) rfl <| s_val (x_ld (p := Pz b1) (v := vw) rfl (ldb_sc Sc22 h_b1 rfl)) <| s_val (x_lenS T22.und rfl (hw.to K1)) <| sR ws.length 1 (ws.length - 1) rfl rfl rfl (by omega) ?_
 refine s_call cf84 [I x, I 0, I (ws.length - 1)] rfl (in_any _ _ _ _) ?_
 rintro _ w2 ⟨rfl, x3⟩
 replace E := E.trans x3
 replace K1 := K1.ext x3
 replace h_b1 := x3.get h_b1
 replace h_b2 := x3.get h_b2
 clear x3
 refine sM (B (inB x 0 (ws.length - 1))) rfl <| g_val (inB x 0 (ws.length - 1)) (gy_t rfl) (fun hg => x_mv (v := I x) rfl) <| g_val (inB x 0 (ws.length - 1)) (gy_t rfl) (fun hg => x_ld (p := Pz b2) (v := I i) rfl (ldb_sc Sc3 h_b2 rfl)) <| g_val (inB x 0 (ws.length - 1)) (gy_t rfl) (fun hg => x_cmp (kd := .i64) (a := x) (b := i) (r := (x : Int) != i) (gd_of (c := inB x 0 (ws.length - 1)) hg (I x)) (gd_of (c := inB x 0 (ws.length - 1)) hg (I i)) rfl) <| s_val (x_pand (b := inB x 0 (ws.length - 1)) (r := (x : Int) != i) rfl (fun hb => gd_of (c := inB x 0 (ws.length - 1)) (by simp_all) (B ((x : Int) != i))) rfl) <| sA (B (((inB x 0 (ws.length - 1)) && ((x : Int) != i)))) rfl <| s_nil ?_
 refine W.ret ?_
 exact ⟨_, resE_tmp rfl, rfl, E⟩

theorem right_any {vw : Value} {ws : List Work} (w : World) (hw : Sl w.cell? vw ws) : Ret Try.prog 130 #[vw] w fun v w' => v = I (rightE ws) ∧ Ext w w' := by
 refine ret_of_W Try.func130 rfl rfl rfl ?_
 have E := Ext.refl w
 have K1 := KF.refl 0 w
 have hl_hw := hw.len_le
 have hw := hw.par
 refine sQ rfl ?_
 refine s_box (v := vw) (cs := [vw]) rfl (Sl.cells (hw.to K1)) ?_
 intro b2 w3 Nb2
 have o_K1_b2 := Nat.le_trans K1.size Nb2.ge
 have o_b2 := Nat.le_trans E.size Nb2.ge
 replace E := E.trans Nb2.ext
 replace K1 := K1.ext Nb2.ext
 have h_b2 := Nb2.same
 clear Nb2
 refine sA (I 0) rfl <| s_nil <| W.seq <| sQ rfl <| s_val (x_ld (p := Pz b2) (v := vw) rfl (ldb_sc Sc22 h_b2 rfl)) <| s_val (x_lenS T22.und rfl (hw.to K1)) ?_
 refine s_call cf84 [I ws.length, I 1, I 30] rfl (in_any _ _ _ _) ?_
 rintro _ w4 ⟨rfl, x5⟩
 replace E := E.trans x5
 replace K1 := K1.ext x5
 replace h_b2 := x5.get h_b2
 clear x5
 refine s_val (x_not (b := inB ws.length 1 30) rfl) <| sM (B (!(inB ws.length 1 30))) rfl <| g_val (!(!(inB ws.length 1 30))) (gy_f rfl) (fun hg => x_ld (p := Pz b2) (v := vw) rfl (ldb_sc Sc22 h_b2 rfl)) ?_
 refine g_call (!(!(inB ws.length 1 30))) (gy_f rfl) cf161 (B (ws.all (fun x : Work => decide ((x.of.length : Int) ≤ 5)))) (fun _ => [.func (.func 162) #[] #[], vw]) (fun hg => lst2 rfl (gd_of (c := !(!(inB ws.length 1 30))) hg (vw))) (fun hg => (every_Work _ (hw.to K1) ⟨162, [], rfl, cf162, fun w' v x hE hD hA => by obtain ⟨sv, rfl, hs⟩ := Work_arg hA; exact (right1 _ _ hs)⟩)) ?_
 intro w6 x7
 replace E := E.trans x7
 replace K1 := K1.ext x7
 replace h_b2 := x7.get h_b2
 clear x7
 refine g_val (!(!(inB ws.length 1 30))) (gy_f rfl) (fun hg => x_not (b := ws.all (fun x : Work => decide ((x.of.length : Int) ≤ 5))) (gd_of (c := !(!(inB ws.length 1 30))) hg (B (ws.all (fun x : Work => decide ((x.of.length : Int) ≤ 5)))))) <| s_val (x_por (b := !(inB ws.length 1 30)) (r := !(ws.all (fun x : Work => decide ((x.of.length : Int) ≤ 5)))) rfl rfl (fun hb => gd_of (c := !(!(inB ws.length 1 30))) (by simp_all) (B (!(ws.all (fun x : Work => decide ((x.of.length : Int) ≤ 5))))))) <| s_nil ?_
 refine W.cond (((!(inB ws.length 1 30)) || (!(ws.all (fun x : Work => decide ((x.of.length : Int) ≤ 5)))))) rfl (fun c8 => ?_) (fun c8 => ?_)
 ·skip
  refine sQ rfl <| sA (I 3) rfl <| s_nil ?_
  refine W.ret ?_
  exact ⟨_, resE_tmp rfl, (eqI (right_many c8)), E⟩
 skip
 refine W.skip <| sQ rfl <| sA (B false) rfl <| s_nil <| W.seq <| sQ rfl <| s_val (x_ld (p := Pz b2) (v := vw) rfl (ldb_sc Sc22 h_b2 rfl)) <| s_val (x_lenS T22.und rfl (hw.to K1)) <| sM (I 0) rfl <| s_nil ?_
 refine W.block ?_
 refine W.loop (fun m σ W => ∃ (i : Nat) (ρ : Env), σ = upds ρ [(1, Pz b2), (3, B ((ws.take i).any (fun x => dupL x.of))), (17, vw), (18, I ws.length), (19, I i)] ∧ m = ws.length - i ∧ Ext w W ∧ KF 0 w W ∧ W.heap[b2]? = some (.cells #[vw] 22 (0, 0)) ∧ i ≤ ws.length ∧ (List.range i).any (badAt ws) = false) ?_ ?_
 ·exact ⟨_, 0, _, upds_of _ _ ⟨rfl, (eqB (by first | rfl | simp)), rfl, rfl, (eqI (by omega)), trivial⟩, rfl, E, K1, h_b2, Nat.zero_le _, rfl⟩
 rintro m σ w9 ⟨i, ρ, rfl, rfl, E, K1, h_b2, iv0_0, iv0_1⟩
 refine sQ rfl <| sC i ws.length (decide ((i : Int) < ws.length)) rfl rfl rfl <| s_nil <| W.seq ?_
 refine W.cond (decide ((i : Int) < ws.length)) rfl (fun c10 => ?_) (fun c10 => ?_)
 ·simp only [qz1, qz2, qz3, qz4, qz5, qz6, ne_eq, qz7] at c10
  refine W.skip <| W.seq <| W.block <| sQ rfl <| sM (I i) rfl <| s_val (x_ix (a := vw) (b := I i) (v := vat vw 3 (Int.toNat i)) rfl rfl (Sl.ix (α := Work) T22.und T22.size (hw.to K1) (by omega) (by omega))) ?_
  obtain ⟨u11, ha13, hs12⟩ := Work_atA hw (i := i) (by omega) (by omega)
  replace hs12 : Sl _ u11 (ws.getD i default).of := hs12
  have hl_hs12 := hs12.len_le
  refine s_val (x_ld (p := vat vw 3 (Int.toNat i)) (v := .agg #[u11, I ((ws.getD i default).base), I ((ws.getD i default).minutes)]) rfl (ld_ag Ag60 Sz60 (At.to ha13 K1))) ?_
  refine s_alloc (cs := [I 0]) Al3 rfl ?_
  intro b14 w15 Nb14
  have o_K1_b14 := Nat.le_trans K1.size Nb14.ge
  have o_b14 := Nat.le_trans E.size Nb14.ge
  have o_b2_b14 := Nat.lt_of_lt_of_le (heap_lt h_b2) Nb14.ge
  replace E := E.trans Nb14.ext
  replace K1 := K1.ext Nb14.ext
  replace h_b2 := Nb14.ext.get h_b2
  have h_b14 := Nb14.same
  clear Nb14
  refine s_alloc (cs := [.slice none 0 0, I 0, I 0]) Al60 rfl ?_
  intro b16 w17 Nb16
  have o_K1_b16 := Nat.le_trans K1.size Nb16.ge
  have o_b16 := Nat.le_trans E.size Nb16.ge
  have o_b2_b16 := Nat.lt_of_lt_of_le (heap_lt h_b2) Nb16.ge
  have o_b14_b16 := Nat.lt_of_lt_of_le (heap_lt h_b14) Nb16.ge
  replace E := E.trans Nb16.ext
  replace K1 := K1.ext Nb16.ext
  replace h_b2 := Nb16.ext.get h_b2
  replace h_b14 := Nb16.ext.get h_b14
  have h_b16 := Nb16.same
  clear Nb16
  refine s_st (b := b14) (off := 0) (vs := [I i]) (cs' := [I i]) (v := I i) rfl rfl Sz3 h_b14 rfl rfl rfl rfl rfl ?_
  intro w18 p19
  replace E := E.put (by omega) p19
  replace K1 := K1.put p19 (by omega)
  replace h_b2 := p19.get (by omega) h_b2
  replace h_b16 := p19.get (by omega) h_b16
  replace h_b14 := p19.same
  clear p19
  refine s_st (b := b16) (off := 0) (vs := [u11, I ((ws.getD i default).base), I ((ws.getD i default).minutes)]) (cs' := [u11, I ((ws.getD i default).base), I ((ws.getD i default).minutes)]) (v := .agg #[u11, I ((ws.getD i default).base), I ((ws.getD i default).minutes)]) rfl rfl Sz60 h_b16 rfl rfl rfl (by simp only [List.all_cons, List.all_nil, Bool.true_and, Bool.and_true, Sl.oc (hs12.to K1)]; try rfl) rfl ?_
  intro w20 p21
  replace E := E.put (by omega) p21
  replace K1 := K1.put p21 (by omega)
  replace h_b2 := p21.get (by omega) h_b2
  replace h_b14 := p21.get (by omega) h_b14
  replace h_b16 := p21.same
  clear p21
  refine s_nil <| W.seq <| sQ rfl <| s_val (x_fa (a := Pz b16) (v := Oz b16 1) rfl (fa_blk (o := 0) Fd60_1 Sz3)) <| s_val (x_ld (p := Oz b16 1) (v := I ((ws.getD i default).base)) rfl (ldb_sc Sc3 h_b16 rfl)) ?_
  refine s_call cf84 [I ((ws.getD i default).base), I 0, I 1000002] rfl (in_any _ _ _ _) ?_
  rintro _ w22 ⟨rfl, x23⟩
  replace E := E.trans x23
  replace K1 := K1.ext x23
  replace h_b2 := x23.get h_b2
  replace h_b14 := x23.get h_b14
  replace h_b16 := x23.get h_b16
  clear x23
  refine s_val (x_not (b := inB ((ws.getD i default).base) 0 1000002) rfl) <| sM (B (!(inB ((ws.getD i default).base) 0 1000002))) rfl <| g_val (!(!(inB ((ws.getD i default).base) 0 1000002))) (gy_f rfl) (fun hg => x_fa (a := Pz b16) (v := Oz b16 2) rfl (fa_blk (o := 0) Fd60_2 Sz3)) <| g_val (!(!(inB ((ws.getD i default).base) 0 1000002))) (gy_f rfl) (fun hg => x_ld (p := Oz b16 2) (v := I ((ws.getD i default).minutes)) (gd_of (c := !(!(inB ((ws.getD i default).base) 0 1000002))) hg (Oz b16 2)) (ldb_sc Sc3 h_b16 rfl)) ?_
  refine g_call (!(!(inB ((ws.getD i default).base) 0 1000002))) (gy_f rfl) cf84 (B (inB ((ws.getD i default).minutes) 0 10000)) (fun _ => [I ((ws.getD i default).minutes), I 0, I 10000]) (fun hg => lst3 (gd_of (c := !(!(inB ((ws.getD i default).base) 0 1000002))) hg (I ((ws.getD i default).minutes))) rfl rfl) (fun hg => (in_any _ _ _ _)) ?_
  intro w24 x25
  replace E := E.trans x25
  replace K1 := K1.ext x25
  replace h_b2 := x25.get h_b2
  replace h_b14 := x25.get h_b14
  replace h_b16 := x25.get h_b16
  clear x25
  refine g_val (!(!(inB ((ws.getD i default).base) 0 1000002))) (gy_f rfl) (fun hg => x_not (b := inB ((ws.getD i default).minutes) 0 10000) (gd_of (c := !(!(inB ((ws.getD i default).base) 0 1000002))) hg (B (inB ((ws.getD i default).minutes) 0 10000)))) <| s_val (x_por (b := !(inB ((ws.getD i default).base) 0 1000002)) (r := !(inB ((ws.getD i default).minutes) 0 10000)) rfl rfl (fun hb => gd_of (c := !(!(inB ((ws.getD i default).base) 0 1000002))) (by simp_all) (B (!(inB ((ws.getD i default).minutes) 0 10000))))) <| sM (B (((!(inB ((ws.getD i default).base) 0 1000002)) || (!(inB ((ws.getD i default).minutes) 0 10000))))) rfl <| g_val (!(((!(inB ((ws.getD i default).base) 0 1000002)) || (!(inB ((ws.getD i default).minutes) 0 10000))))) (gy_f rfl) (fun hg => x_mf (fs := []) (cs := [Pz b2, Pz b14]) rfl rfl) <| g_val (!(((!(inB ((ws.getD i default).base) 0 1000002)) || (!(inB ((ws.getD i default).minutes) 0 10000))))) (gy_f rfl) (fun hg => x_fa (a := Pz b16) (v := Pz b16) rfl (fa_blk (o := 0) Fd60_0 Sz34)) <| g_val (!(((!(inB ((ws.getD i default).base) 0 1000002)) || (!(inB ((ws.getD i default).minutes) 0 10000))))) (gy_f rfl) (fun hg => x_ld (p := Pz b16) (v := u11) (gd_of (c := !(((!(inB ((ws.getD i default).base) 0 1000002)) || (!(inB ((ws.getD i default).minutes) 0 10000))))) hg (Pz b16)) (ldb_sc Sc34 h_b16 rfl)) ?_
  refine g_call (!(((!(inB ((ws.getD i default).base) 0 1000002)) || (!(inB ((ws.getD i default).minutes) 0 10000))))) (gy_f rfl) cf87 (B (((ws.getD i default).of).all (fun x : Int => inB x 0 ((ws.length : Int) - 1) && (x != i)))) (fun _ => [.func (.func 163) #[] #[Pz b2, Pz b14], u11]) (fun hg => lst2 (gd_of (c := !(((!(inB ((ws.getD i default).base) 0 1000002)) || (!(inB ((ws.getD i default).minutes) 0 10000))))) hg (.func (.func 163) #[] #[Pz b2, Pz b14])) (gd_of (c := !(((!(inB ((ws.getD i default).base) 0 1000002)) || (!(inB ((ws.getD i default).minutes) 0 10000))))) hg (u11))) (fun hg => (every_int _ (hs12.to K1) ⟨163, [Pz b2, Pz b14], rfl, cf163, fun w' v x hE hD hA => by obtain rfl := Arg.int hA; exact (right2 _ _ _ (hE.get h_b2) (hE.get h_b14) ((hw.to K1).mono hE.le))⟩)) ?_
  intro w26 x27
  replace E := E.trans x27
  replace K1 := K1.ext x27
  replace h_b2 := x27.get h_b2
  replace h_b14 := x27.get h_b14
  replace h_b16 := x27.get h_b16
  clear x27
  refine g_val (!(((!(inB ((ws.getD i default).base) 0 1000002)) || (!(inB ((ws.getD i default).minutes) 0 10000))))) (gy_f rfl) (fun hg => x_not (b := ((ws.getD i default).of).all (fun x : Int => inB x 0 ((ws.length : Int) - 1) && (x != i))) (gd_of (c := !(((!(inB ((ws.getD i default).base) 0 1000002)) || (!(inB ((ws.getD i default).minutes) 0 10000))))) hg (B (((ws.getD i default).of).all (fun x : Int => inB x 0 ((ws.length : Int) - 1) && (x != i)))))) <| s_val (x_por (b := ((!(inB ((ws.getD i default).base) 0 1000002)) || (!(inB ((ws.getD i default).minutes) 0 10000)))) (r := !(((ws.getD i default).of).all (fun x : Int => inB x 0 ((ws.length : Int) - 1) && (x != i)))) rfl rfl (fun hb => gd_of (c := !(((!(inB ((ws.getD i default).base) 0 1000002)) || (!(inB ((ws.getD i default).minutes) 0 10000))))) (by simp_all) (B (!(((ws.getD i default).of).all (fun x : Int => inB x 0 ((ws.length : Int) - 1) && (x != i))))))) <| s_nil ?_
  refine W.cond (((((!(inB ((ws.getD i default).base) 0 1000002)) || (!(inB ((ws.getD i default).minutes) 0 10000)))) || (!(((ws.getD i default).of).all (fun x : Int => inB x 0 ((ws.length : Int) - 1) && (x != i)))))) rfl (fun c28 => ?_) (fun c28 => ?_)
  ·skip
   refine sQ rfl <| sA (I 140) rfl <| s_nil ?_
   refine W.ret ?_
   exact ⟨_, resE_tmp rfl, (eqI (right_bad c8 c10 c28)), E⟩
  skip
  refine W.skip <| sQ rfl <| s_val (x_fa (a := Pz b16) (v := Pz b16) rfl (fa_blk (o := 0) Fd60_0 Sz34)) <| s_val (x_ld (p := Pz b16) (v := u11) rfl (ldb_sc Sc34 h_b16 rfl)) <| s_val (x_lenS T34.und rfl (hs12.to K1)) <| sM (I 0) rfl <| s_nil <| W.block ?_
  refine W.loop (fun m σ W => ∃ (j : Nat) (ρ : Env), σ = upds ρ [(1, Pz b2), (3, B ((ws.take i).any (fun x => dupL x.of) || (List.range j).any (dupAt (ws.getD i default).of))), (5, Pz b16), (17, vw), (18, I ws.length), (19, I i), (29, gd (!(!(inB ((ws.getD i default).base) 0 1000002))) (Oz b16 2)), (30, gd (!(!(inB ((ws.getD i default).base) 0 1000002))) (I ((ws.getD i default).minutes))), (31, gd (!(!(inB ((ws.getD i default).base) 0 1000002))) (B (inB ((ws.getD i default).minutes) 0 10000))), (32, gd (!(!(inB ((ws.getD i default).base) 0 1000002))) (B (!(inB ((ws.getD i default).minutes) 0 10000)))), (35, gd (!(((!(inB ((ws.getD i default).base) 0 1000002)) || (!(inB ((ws.getD i default).minutes) 0 10000))))) (.func (.func 163) #[] #[Pz b2, Pz b14])), (36, gd (!(((!(inB ((ws.getD i default).base) 0 1000002)) || (!(inB ((ws.getD i default).minutes) 0 10000))))) (Pz b16)), (37, gd (!(((!(inB ((ws.getD i default).base) 0 1000002)) || (!(inB ((ws.getD i default).minutes) 0 10000))))) u11), (38, gd (!(((!(inB ((ws.getD i default).base) 0 1000002)) || (!(inB ((ws.getD i default).minutes) 0 10000))))) (B (((ws.getD i default).of).all (fun x : Int => inB x 0 ((ws.length : Int) - 1) && (x != i))))), (39, gd (!(((!(inB ((ws.getD i default).base) 0 1000002)) || (!(inB ((ws.getD i default).minutes) 0 10000))))) (B (!(((ws.getD i default).of).all (fun x : Int => inB x 0 ((ws.length : Int) - 1) && (x != i)))))), (42, u11), (43, I (((ws.getD i default).of).length)), (44, I j)] ∧ m = (ws.getD i default).of.length - j ∧ Ext w W ∧ KF 0 w W ∧ W.heap[b2]? = some (.cells #[vw] 22 (0, 0)) ∧ W.heap[b14]? = some (.cells #[I i] 3 (0, 0)) ∧ W.heap[b16]? = some (.cells #[u11, I ((ws.getD i default).base), I ((ws.getD i default).minutes)] 60 (0, 0)) ∧ j ≤ (ws.getD i default).of.length) ?_ ?_
  ·exact ⟨_, 0, _, upds_of _ _ ⟨rfl, (eqB (by first | rfl | simp)), rfl, rfl, rfl, rfl, rfl, rfl, rfl, rfl, rfl, rfl, rfl, rfl, rfl, rfl, rfl, (eqI (by omega)), trivial⟩, rfl, E, K1, h_b2, h_b14, h_b16, Nat.zero_le _⟩
  rintro m σ w29 ⟨j, ρ, rfl, rfl, E, K1, h_b2, h_b14, h_b16, iv1_0⟩
  refine sQ rfl <| sC j (((ws.getD i default).of).length) (decide ((j : Int) < (((ws.getD i default).of).length))) rfl rfl rfl <| s_nil <| W.seq ?_
  refine W.cond (decide ((j : Int) < (((ws.getD i default).of).length))) rfl (fun c30 => ?_) (fun c30 => ?_)
  ·simp only [qz1, qz2, qz3, qz4, qz5, qz6, ne_eq, qz7] at c30
   refine W.skip <| W.seq <| W.block <| sQ rfl <| sM (I j) rfl <| s_val (x_ix (a := u11) (b := I j) (v := vat u11 1 (Int.toNat j)) rfl rfl (Sl.ix (α := Int) T34.und T34.size (hs12.to K1) (by omega) (by omega))) <| s_val (x_ld (p := vat u11 1 (Int.toNat j)) (v := I (((ws.getD i default).of).getD j 0)) rfl (ld_sc Sc3 (At.to (Int_at hs12 (i := j) (by omega) (by omega)) K1))) <| sA (I j) rfl <| sA (I (((ws.getD i default).of).getD j 0)) rfl <| s_nil <| W.region rfl ?_
   refine sM (B ((ws.take i).any (fun x => dupL x.of) || (List.range j).any (dupAt (ws.getD i default).of))) rfl <| sM (B ((ws.take i).any (fun x => dupL x.of) || (List.range j).any (dupAt (ws.getD i default).of))) rfl <| g_val (!((ws.take i).any (fun x => dupL x.of) || (List.range j).any (dupAt (ws.getD i default).of))) (gy_f rfl) (fun hg => x_fa (a := Pz b16) (v := Pz b16) rfl (fa_blk (o := 0) Fd60_0 Sz34)) <| g_val (!((ws.take i).any (fun x => dupL x.of) || (List.range j).any (dupAt (ws.getD i default).of))) (gy_f rfl) (fun hg => x_ld (p := Pz b16) (v := u11) (gd_of (c := !((ws.take i).any (fun x => dupL x.of) || (List.range j).any (dupAt (ws.getD i default).of))) hg (Pz b16)) (ldb_sc Sc34 h_b16 rfl)) <| g_val (!((ws.take i).any (fun x => dupL x.of) || (List.range j).any (dupAt (ws.getD i default).of))) (gy_f rfl) (fun hg => x_mv (v := I j) rfl) ?_
   obtain ⟨u31, hr_u31, hs32⟩ := sl_hi T34.und T34.size hs12 (j := j) (by omega) (by omega)
   replace hs32 : Sl _ u31 (((ws.getD i default).of).take j) := hs32
   refine g_val (!((ws.take i).any (fun x => dupL x.of) || (List.range j).any (dupAt (ws.getD i default).of))) (gy_f rfl) (fun hg => x_sl (v := u11) (u := u31) (lo' := none) (hi' := some (I j)) (mx' := none) (gd_of (c := !((ws.take i).any (fun x => dupL x.of) || (List.range j).any (dupAt (ws.getD i default).of))) hg (u11)) rfl (congrArg some (gd_of (c := !((ws.take i).any (fun x => dupL x.of) || (List.range j).any (dupAt (ws.getD i default).of))) hg (I j))) rfl (hr_u31 _)) <| g_val (!((ws.take i).any (fun x => dupL x.of) || (List.range j).any (dupAt (ws.getD i default).of))) (gy_f rfl) (fun hg => x_mv (v := I (((ws.getD i default).of).getD j 0)) rfl) ?_
   refine g_call (!((ws.take i).any (fun x => dupL x.of) || (List.range j).any (dupAt (ws.getD i default).of))) (gy_f rfl) cf45 (B ((((ws.getD i default).of).take j).contains (((ws.getD i default).of).getD j 0))) (fun _ => [u31, I (((ws.getD i default).of).getD j 0)]) (fun hg => lst2 (gd_of (c := !((ws.take i).any (fun x => dupL x.of) || (List.range j).any (dupAt (ws.getD i default).of))) hg (u31)) (gd_of (c := !((ws.take i).any (fun x => dupL x.of) || (List.range j).any (dupAt (ws.getD i default).of))) hg (I (((ws.getD i default).of).getD j 0)))) (fun hg => (contains_int (((ws.getD i default).of).getD j 0) _ (hs32.to K1))) ?_
   intro w33 x34
   replace E := E.trans x34
   replace K1 := K1.ext x34
   replace h_b2 := x34.get h_b2
   replace h_b14 := x34.get h_b14
   replace h_b16 := x34.get h_b16
   clear x34
   refine s_val (x_por (b := (ws.take i).any (fun x => dupL x.of) || (List.range j).any (dupAt (ws.getD i default).of)) (r := (((ws.getD i default).of).take j).contains (((ws.getD i default).of).getD j 0)) rfl rfl (fun hb => gd_of (c := !((ws.take i).any (fun x => dupL x.of) || (List.range j).any (dupAt (ws.getD i default).of))) (by simp_all) (B ((((ws.getD i default).of).take j).contains (((ws.getD i default).of).getD j 0))))) <| sA (B ((((ws.take i).any (fun x => dupL x.of) || (List.range j).any (dupAt (ws.getD i default).of)) || ((((ws.getD i default).of).take j).contains (((ws.getD i default).of).getD j 0))))) rfl <| s_nil <| W.region rfl <| sR j 1 (j + 1) rfl rfl rfl (by omega) <| sM (I (j + 1)) rfl <| s_nil ?_
   exact ⟨_, (by omega), j+1, _, upds_of _ _ ⟨rfl, (eqB right_twice1), rfl, rfl, rfl, rfl, rfl, rfl, rfl, rfl, rfl, rfl, rfl, rfl, rfl, rfl, rfl, (eqI (by omega)), trivial⟩, rfl, E, K1, h_b2, h_b14, h_b16, (by omega)⟩
  simp only [qz1, qz2, qz3, qz4, qz5, qz6, ne_eq, qz7] at c30
  refine W.exit ?_
  refine W.region rfl <| sR i 1 (i + 1) rfl rfl rfl (by omega) <| sM (I (i + 1)) rfl <| s_nil ?_
  exact ⟨_, (by omega), i+1, _, upds_of _ _ ⟨rfl, (eqB (right_twice c10 c30 iv1_0)), rfl, rfl, (eqI (by omega)), trivial⟩, rfl, E, K1, h_b2, (by omega), (right_next iv0_1 c28)⟩
 simp only [qz1, qz2, qz3, qz4, qz5, qz6, ne_eq, qz7] at c10
 refine W.exit ?_
 refine W.seq <| sQ rfl <| sM (B ((ws.take i).any (fun x => dupL x.of))) rfl <| s_nil ?_
 refine W.cond ((ws.take i).any (fun x => dupL x.of)) rfl (fun c35 => ?_) (fun c35 => ?_)
 ·skip
  refine sQ rfl <| sA (I 10) rfl <| s_nil ?_
  refine W.ret ?_
  exact ⟨_, resE_tmp rfl, (eqI (right_dup c8 c10 iv0_0 iv0_1 c35)), E⟩
 skip
 refine W.skip <| sQ rfl <| sA (I 0) rfl <| s_nil ?_
 refine W.ret ?_
 exact ⟨_, resE_tmp rfl, (eqI (right_ok c8 c10 iv0_0 iv0_1 c35)), E⟩

theorem order1 {b : Nat} {vo : Value} {out : List Int} (n : Int) (w : World) (h_b : w.heap[b]? = some (.cells #[vo] 34 (0, 0))) (ho : Sl w.cell? vo out) : Ret Try.prog 164 #[I n, Pz b] w fun v w' => v = B (out.contains n) ∧ Ext w w' := by
 refine ret_of_W Try.func164 rfl rfl rfl ?_
 have E := Ext.refl w
 have K1 := KF.refl 0 w
 have hl_ho := ho.len_le
 have ho := ho.par
 refine sQ rfl <| sA (B false) rfl <| s_nil <| sQ rfl <| s_val (x_ld (p := Pz b) (v := vo) rfl (ldb_sc Sc34 h_b rfl)) <| sM (I n) rfl ?_
 refine s_call cf45 [vo, I n] rfl (contains_int n _ (ho.to K1)) ?_
 rintro _ w2 ⟨rfl, x3⟩
 replace E := E.trans x3
 replace K1 := K1.ext x3
 replace h_b := x3.get h_b
 clear x3
 refine sA (B (out.contains n)) rfl <| s_nil ?_
 refine W.ret ?_
 exact ⟨_, resE_tmp rfl, rfl, E⟩

theorem order_any {b : Nat} {vw : Value} {ws : List Work} (w : World) (h_b : w.heap[b]? = some (.cells #[vw] 187 (0, 0))) (hw : Sl w.cell? vw ws) (hsm : ws.length ≤ 30) : Ret Try.prog 131 #[Pz b] w fun v w' => Sl (frm w' w.heap.size) v (orderP ws) ∧ Ext w w' := by
 refine ret_of_W Try.func131 rfl rfl rfl ?_
 have E := Ext.refl w
 have K1 := KF.refl 0 w
 have hl_hw := hw.len_le
 have hw := hw.par
 refine sQ rfl <| sA (.slice none 0 0) rfl <| s_nil <| sQ rfl ?_
 refine s_alloc (cs := [.slice none 0 0]) Al34 rfl ?_
 intro b2 w3 Nb2
 have o_K1_b2 := Nat.le_trans K1.size Nb2.ge
 have o_b2 := Nat.le_trans E.size Nb2.ge
 have o_b_b2 := Nat.lt_of_lt_of_le (heap_lt h_b) Nb2.ge
 replace E := E.trans Nb2.ext
 replace K1 := K1.ext Nb2.ext
 replace h_b := Nb2.ext.get h_b
 have h_b2 := Nb2.same
 clear Nb2
 refine s_nil <| sQ rfl <| s_val (x_mf (fs := []) (cs := [Pz b2]) rfl rfl) <| sA (.func (.func 164) #[] #[Pz b2]) rfl <| s_nil <| W.seq <| sQ rfl <| sA (I 0) rfl <| s_nil <| W.block ?_
 have z4 := Nat.le_refl w3.heap.size
 have B_vo := E.size
 have B_vo_K1 := K1.size
 have B_vo_b := heap_lt h_b
 have B_vo_b2 := heap_lt h_b2
 refine W.loop (fun m σ W => ∃ (i : Nat) (out : List Int) (vo : Value) (ρ : Env), σ = upds ρ [(0, Pz b), (3, Pz b2), (4, .func (.func 164) #[] #[Pz b2]), (5, I i)] ∧ m = (ws.length - out.length) * (ws.length + 2) + (ws.length + 1 - i) ∧ Ext w W ∧ KF 0 w W ∧ W.heap[b]? = some (.cells #[vw] 187 (0, 0)) ∧ W.heap[b2]? = some (.cells #[vo] 34 (0, 0)) ∧ w3.heap.size ≤ W.heap.size ∧ OwnF w3.heap.size 3 W vo out ∧ vo.ownBlock ≠ some b ∧ vo.ownBlock ≠ some b2 ∧ OrdInv ws out ∧ i ≤ ws.length ∧ (∀ j < i, readyAt ws out j = false)) ?_ ?_
 ·exact ⟨_, 0, [], .slice none 0 0, _, upds_of _ _ ⟨rfl, rfl, rfl, (eqI (by omega)), trivial⟩, rfl, E, K1, h_b, h_b2, z4, OwnF.nil _ _ _, by simp [Value.ownBlock], by simp [Value.ownBlock], (OrdInv.nil ws), (Nat.zero_le _), (fun j hj => by omega)⟩
 rintro m σ w5 ⟨i, out, vo, ρ, rfl, rfl, E, K1, h_b, h_b2, z4, ho_vo, n_vo_b, n_vo_b2, iv0_0, iv0_1, iv0_2⟩
 have hol := iv0_0.le
 refine W.seq <| sQ rfl <| sM (I i) rfl <| sM (Pz b) rfl <| s_val (x_nc (a := ⟨b, 0, none⟩) rfl) <| s_val (x_fa (a := Pz b) (v := Pz b) rfl (fa_blk (o := 0) Fd187_0 Sz185)) <| s_val (x_fa (a := Pz b) (v := Pz b) rfl (fa_blk (o := 0) Fd185_0 Sz22)) <| s_val (x_ld (p := Pz b) (v := vw) rfl (ldb_sc Sc22 h_b rfl)) <| s_val (x_lenS T22.und rfl (hw.to K1)) <| sC i ws.length (decide ((i : Int) < ws.length)) rfl rfl rfl <| s_nil ?_
 refine W.cond (decide ((i : Int) < ws.length)) rfl (fun c6 => ?_) (fun c6 => ?_)
 ·simp only [qz1, qz2, qz3, qz4, qz5, qz6, ne_eq, qz7] at c6
  refine W.skip <| W.seq <| W.block <| sQ rfl <| sM (.func (.func 164) #[] #[Pz b2]) rfl <| sM (I i) rfl ?_
  refine s_callv rfl cf164 [I i] rfl (order1 i _ h_b2 (ho_vo.sl.mono (frm_le _ _))) ?_
  rintro _ w7 ⟨rfl, x8⟩
  replace E := E.trans x8
  replace z4 := Nat.le_trans z4 x8.size
  replace K1 := K1.ext x8
  replace h_b := x8.get h_b
  replace h_b2 := x8.get h_b2
  replace ho_vo := ho_vo.ext x8
  clear x8
  refine s_val (x_not (b := out.contains i) rfl) <| sM (B (!(out.contains i))) rfl <| g_val (!(out.contains i)) (gy_t rfl) (fun hg => x_mv (v := .func (.func 164) #[] #[Pz b2]) rfl) <| g_val (!(out.contains i)) (gy_t rfl) (fun hg => x_mv (v := Pz b) rfl) <| g_val (!(out.contains i)) (gy_t rfl) (fun hg => x_nc (a := ⟨b, 0, none⟩) (gd_of (c := !(out.contains i)) hg (Pz b))) <| g_val (!(out.contains i)) (gy_t rfl) (fun hg => x_fa (a := Pz b) (v := Pz b) (gd_of (c := !(out.contains i)) hg (Pz b)) (fa_blk (o := 0) Fd187_0 Sz185)) <| g_val (!(out.contains i)) (gy_t rfl) (fun hg => x_fa (a := Pz b) (v := Pz b) (gd_of (c := !(out.contains i)) hg (Pz b)) (fa_blk (o := 0) Fd185_0 Sz22)) <| g_val (!(out.contains i)) (gy_t rfl) (fun hg => x_ld (p := Pz b) (v := vw) (gd_of (c := !(out.contains i)) hg (Pz b)) (ldb_sc Sc22 h_b rfl)) <| g_val (!(out.contains i)) (gy_t rfl) (fun hg => x_mv (v := I i) rfl) <| g_val (!(out.contains i)) (gy_t rfl) (fun hg => x_ix (a := vw) (b := I i) (v := vat vw 3 (Int.toNat i)) (gd_of (c := !(out.contains i)) hg (vw)) (gd_of (c := !(out.contains i)) hg (I i)) (Sl.ix (α := Work) T22.und T22.size (hw.to K1) (by first | omega | (simp at hg; omega) | (simp [inB] at hg; omega)) (by first | omega | (simp at hg; omega) | (simp [inB] at hg; omega)))) <| g_val (!(out.contains i)) (gy_t rfl) (fun hg => x_fa (a := vat vw 3 (Int.toNat i)) (v := fat (vat vw 3 (Int.toNat i)) 0) (gd_of (c := !(out.contains i)) hg (vat vw 3 (Int.toNat i))) (fa_pl Fd60_0 Sz34 (Sl.pl (i := i) hw (by first | omega | (simp at hg; omega) | (simp [inB] at hg; omega)) (by first | omega | (simp at hg; omega) | (simp [inB] at hg; omega))))) ?_
  obtain ⟨u9, ha_u9, hs10⟩ := gd_ex (c := !(out.contains i)) fun hg => Work_at0 hw (i := i) (by first | omega | (simp at hg; omega) | (simp [inB] at hg; omega)) (by first | omega | (simp at hg; omega) | (simp [inB] at hg; omega))
  replace hs10 : (!(out.contains i)) = true → Sl _ u9 (ws.getD i default).of := hs10
  refine g_val (!(out.contains i)) (gy_t rfl) (fun hg => x_ld (p := fat (vat vw 3 (Int.toNat i)) 0) (v := u9) (gd_of (c := !(out.contains i)) hg (fat (vat vw 3 (Int.toNat i)) 0)) (ld_sc Sc34 (At.to (ha_u9 hg) K1))) ?_
  refine g_call (!(out.contains i)) (gy_t rfl) cf87 (B (((ws.getD i default).of).all (fun x : Int => out.contains x))) (fun _ => [.func (.func 164) #[] #[Pz b2], u9]) (fun hg => lst2 (gd_of (c := !(out.contains i)) hg (.func (.func 164) #[] #[Pz b2])) (gd_of (c := !(out.contains i)) hg (u9))) (fun hg => (every_int _ ((hs10 hg).to K1) ⟨164, [Pz b2], rfl, cf164, fun w' v x hE hD hA => by obtain rfl := Arg.int hA; exact (order1 _ _ (hE.get h_b2) ((ho_vo.sl.mono (frm_le _ _)).mono hE.le))⟩)) ?_
  intro w11 x12
  replace E := E.trans x12
  replace z4 := Nat.le_trans z4 x12.size
  replace K1 := K1.ext x12
  replace h_b := x12.get h_b
  replace h_b2 := x12.get h_b2
  replace ho_vo := ho_vo.ext x12
  clear x12
  refine s_val (x_pand (b := !(out.contains i)) (r := ((ws.getD i default).of).all (fun x : Int => out.contains x)) rfl (fun hb => gd_of (c := !(out.contains i)) (by simp_all) (B (((ws.getD i default).of).all (fun x : Int => out.contains x)))) rfl) <| s_nil ?_
  refine W.cond (((!(out.contains i)) && (((ws.getD i default).of).all (fun x : Int => out.contains x)))) rfl (fun c13 => ?_) (fun c13 => ?_)
  ·skip
   refine sQ rfl <| s_val (x_ld (p := Pz b2) (v := vo) rfl (ldb_sc Sc34 h_b2 rfl)) <| sM (I i) rfl ?_
   refine s_bsl (α := Int) T34 w11.heap.size [I i] [(i : Int)] rfl (.cons rfl (Flat.rep_enc _ _) <| .nil) (Nat.le_refl _) rfl (by decide) (by decide) ?_
   intro u14 w15 hs16 x17 nn_u14
   replace E := E.trans x17
   replace z4 := Nat.le_trans z4 x17.size
   replace K1 := K1.ext x17
   replace h_b := x17.get h_b
   replace h_b2 := x17.get h_b2
   replace ho_vo := ho_vo.ext x17
   clear x17
   have K18 := KF.refl w11.heap.size w15
   refine s_app (α := Int) (v := vo) (vy := u14) (l := out) (l2 := [(i : Int)]) T34 rfl rfl ho_vo (hs16.to K18) (Cells.Le.refl _) z4 (by first | omega | (simp only [List.length_append, List.length_cons, List.length_nil, List.length_set]; omega)) (by first | omega | (simp only [List.length_append, List.length_cons, List.length_nil, List.length_set]; omega)) ?_
   intro v19 w20 ho21 g22 ne23
   have n_v19_b := ne23 b (heap_lt h_b) n_vo_b
   have n_v19_b2 := ne23 b2 (heap_lt h_b2) n_vo_b2
   replace E := E.grow g22 (by omega)
   replace z4 := Nat.le_trans z4 g22.size
   replace K1 := K1.grow g22 (by omega)
   replace h_b := g22.get n_vo_b h_b
   replace h_b2 := g22.get n_vo_b2 h_b2
   clear g22 ne23
   refine s_st (b := b2) (off := 0) (vs := [v19]) (cs' := [v19]) (v := v19) rfl rfl Sz34 h_b2 (Sl.cells (ho21.sl.mono (frm_le _ _))) rfl rfl (by simp only [List.all_cons, List.all_nil, Bool.true_and, Bool.and_true, Sl.oc (ho21.sl.mono (frm_le _ _))]; try rfl) rfl ?_
   intro w24 p25
   replace E := E.put (by omega) p25
   replace z4 := Nat.le_trans z4 (Nat.le_of_eq p25.size.symm)
   replace K1 := K1.put p25 (by omega)
   replace h_b := p25.get (by omega) h_b
   replace ho21 := ho21.put p25 n_v19_b2
   replace h_b2 := p25.same
   clear p25
   refine s_nil <| W.region rfl <| sA (I (-1)) rfl <| s_nil <| W.region rfl <| sM (I (-1)) rfl <| sR (-1) 1 ((-1) + 1) rfl rfl rfl (by omega) <| sA (I ((-1) + 1)) rfl <| s_nil ?_
   exact ⟨_, (by simp only [List.length_append, List.length_singleton]; exact order_dec (iv0_0.lt c6 c13) iv0_1), 0, (out ++ [(i : Int)]), v19, _, upds_of _ _ ⟨rfl, rfl, rfl, (eqI (by omega)), trivial⟩, rfl, E, K1, h_b, h_b2, z4, (by first | exact ho21 | simpa using ho21), n_v19_b, n_v19_b2, (iv0_0.step c6 c13 iv0_2), (Nat.zero_le _), (fun j hj => by omega)⟩
  skip
  refine W.skip <| W.region rfl <| sM (I i) rfl <| sR i 1 (i + 1) rfl rfl rfl (by omega) <| sA (I (i + 1)) rfl <| s_nil ?_
  exact ⟨_, (by omega), (i + 1), out, vo, _, upds_of _ _ ⟨rfl, rfl, rfl, (eqI (by omega)), trivial⟩, rfl, E, K1, h_b, h_b2, z4, ho_vo, n_vo_b, n_vo_b2, iv0_0, (by omega), (notReady_next iv0_2 c13)⟩
 simp only [qz1, qz2, qz3, qz4, qz5, qz6, ne_eq, qz7] at c6
 refine W.exit ?_
 refine sQ rfl <| s_val (x_ld (p := Pz b2) (v := vo) rfl (ldb_sc Sc34 h_b2 rfl)) <| sA vo rfl <| s_nil ?_
 refine W.ret ?_
 exact ⟨_, resE_tmp rfl, (iv0_0.done c6 iv0_2 ▸ ho_vo.sl.mono (frm_mono _ (by omega))), E⟩

theorem opened_any {vw : Value} {ws : List Work} (w : World) (hw : Sl w.cell? vw ws) : Ret Try.prog 81 #[vw] w fun v w' => (openedE ws ≠ 0 ∧ v = .tuple #[.pointer none, .slice none 0 0, I (openedE ws)] ∧ Ext w w') ∨ (openedE ws = 0 ∧ ∃ b so, v = .tuple #[Pz b, so, I 0] ∧ New w b (.cells #[vw] 187 (0, 0)) w' ∧ Sl (frm w' w.heap.size) so (orderP ws)) := by
 refine ret_of_W Try.func81 rfl rfl rfl ?_
 have E := Ext.refl w
 have K1 := KF.refl 0 w
 have hl_hw := hw.len_le
 have hw := hw.par
 refine sQ rfl <| sA (.pointer none) rfl <| sA (.slice none 0 0) rfl <| sA (I 0) rfl <| s_nil <| W.seq <| sQ rfl <| sM vw rfl ?_
 refine s_call cf130 [vw] rfl (right_any _ (hw.to K1)) ?_
 rintro _ w2 ⟨rfl, x3⟩
 replace E := E.trans x3
 replace K1 := K1.ext x3
 clear x3
 refine sA (I (rightE ws)) rfl <| s_nil <| sQ rfl <| sM (I (rightE ws)) rfl <| sC (rightE ws) 0 ((rightE ws : Int) != 0) rfl rfl rfl <| s_nil ?_
 refine W.cond ((rightE ws : Int) != 0) rfl (fun c4 => ?_) (fun c4 => ?_)
 ·simp only [qz1, qz2, qz3, qz4, qz5, qz6, ne_eq, qz7] at c4
  refine sQ rfl <| sM (I (rightE ws)) rfl <| sA (.pointer none) rfl <| sA (.slice none 0 0) rfl <| sA (I (rightE ws)) rfl <| s_nil ?_
  refine W.ret ?_
  exact ⟨_, resE_tmp3 rfl, .inl ⟨(by rw [opened_wrong c4]; exact c4), (by rw [opened_wrong c4]; rfl), E⟩⟩
 simp only [qz1, qz2, qz3, qz4, qz5, qz6, ne_eq, qz7] at c4
 refine W.skip <| sQ rfl <| sM vw rfl <| s_val (x_bld (ps := [(0, vw)]) (zs := [.slice none 0 0]) (L' := [vw]) rfl Try.underlying185 Al185 rfl (Bd185 Try.underlying185) (.cons (cs := [vw]) (Sl.cells (hw.to K1)) rfl rfl rfl rfl <| .nil)) <| s_val (x_bld (ps := [(0, .agg #[vw])]) (zs := [.slice none 0 0]) (L' := [vw]) rfl Try.underlying187 Al187 rfl (Bd187 Try.underlying187) (.cons (cs := [vw]) rfl rfl rfl rfl rfl <| .nil)) ?_
 refine s_box (v := .agg #[vw]) (cs := [vw]) rfl rfl ?_
 intro b5 w6 Nb5
 have o_K1_b5 := Nat.le_trans K1.size Nb5.ge
 have o_b5 := Nat.le_trans E.size Nb5.ge
 replace E := E.trans Nb5.ext
 replace K1 := K1.ext Nb5.ext
 have h_b5 := Nb5.same
 clear Nb5
 refine sA (Pz b5) rfl <| s_nil <| sQ rfl <| sM (Pz b5) rfl ?_
 refine s_call cf131 [Pz b5] rfl (order_any _ h_b5 (hw.to K1) (right_len (by assumption)).2) ?_
 have sz_w7 := E.size
 have lt_b5_w7 := heap_lt h_b5
 rintro u9 w7 ⟨hs10, x8⟩
 replace E := E.trans x8
 replace K1 := K1.ext x8
 replace h_b5 := x8.get h_b5
 clear x8
 have hl_hs10 := hs10.len_le
 have K11 := KF.refl w6.heap.size w7
 refine sA u9 rfl <| s_nil <| W.seq <| sQ rfl <| sM u9 rfl <| s_val (x_lenS T34.und rfl (hs10.to K11)) <| sM vw rfl <| s_val (x_lenS T22.und rfl (hw.to K1)) <| sC ((orderP ws).length) ws.length (decide ((((orderP ws).length) : Int) < ws.length)) rfl rfl rfl <| s_nil ?_
 refine W.cond (decide ((((orderP ws).length) : Int) < ws.length)) rfl (fun c12 => ?_) (fun c12 => ?_)
 ·simp only [qz1, qz2, qz3, qz4, qz5, qz6, ne_eq, qz7] at c12
  refine sQ rfl <| sA (.pointer none) rfl <| sA (.slice none 0 0) rfl <| sA (I 9) rfl <| s_nil ?_
  refine W.ret ?_
  exact ⟨_, resE_tmp3 rfl, .inl ⟨(by rw [opened_circle c4 c12]; decide), (by rw [opened_circle c4 c12]; rfl), E⟩⟩
 simp only [qz1, qz2, qz3, qz4, qz5, qz6, ne_eq, qz7] at c12
 refine W.skip <| sQ rfl <| sM (Pz b5) rfl <| sM u9 rfl <| sA (Pz b5) rfl <| sA u9 rfl <| sA (I 0) rfl <| s_nil ?_
 refine W.ret ?_
 exact ⟨_, resE_tmp3 rfl, .inr ⟨opened_ok c4 c12, b5, _, rfl, ⟨E, o_b5, h_b5⟩, (hs10.kf K11).mono (frm_mono _ (by omega))⟩⟩

end Go.Proofs.Ytndobgodeicloaa
end
section
set_option maxRecDepth 100000
set_option maxHeartbeats 16000000
namespace Go.Proofs.Ytndobgodeicloaa
open Go Go.Nm
theorem listed1 {b : Nat} {vw : Value} {ws : List Work} (x : Int) (w : World) (h_b : w.heap[b]? = some (.cells #[vw] 22 (0, 0))) (hw : Sl w.cell? vw ws) : Ret Try.prog 147 #[I x, Pz b] w fun v w' => v = B (inB x 0 ((ws.length : Int) - 1)) ∧ Ext w w' := by
 refine ret_of_W Try.func147 rfl rfl rfl ?_
 have E := Ext.refl w
 have K1 := KF.refl 0 w
 have hl_hw := hw.len_le
 have hw := hw.par
 refine sQ rfl <| sA (B false) rfl <| s_nil <| sQ rfl <| sM (I x) rfl <| s_val (x_ld (p := Pz b) (v := vw) rfl (ldb_sc Sc22 h_b rfl)) <| s_val (x_lenS T22.und rfl (hw.to K1)) <| sR ws.length 1 (ws.length - 1) rfl rfl rfl (by omega) ?_
 refine s_call cf84 [I x, I 0, I (ws.length - 1)] rfl (in_any _ _ _ _) ?_
 rintro _ w2 ⟨rfl, x3⟩
 replace E := E.trans x3
 replace K1 := K1.ext x3
 replace h_b := x3.get h_b
 clear x3
 refine sA (B (inB x 0 (ws.length - 1))) rfl <| s_nil ?_
 refine W.ret ?_
 exact ⟨_, resE_tmp rfl, rfl, E⟩

theorem listed_any {vw vl : Value} {ws : List Work} {l : List Int} (w : World) (hw : Sl w.cell? vw ws) (hl : Sl w.cell? vl l) : Ret Try.prog 96 #[vw, vl] w fun v w' => v = I (listedE ws.length l) ∧ Ext w w' := by
 refine ret_of_W Try.func96 rfl rfl rfl ?_
 have E := Ext.refl w
 have K1 := KF.refl 0 w
 have hl_hw := hw.len_le
 have hw := hw.par
 have hl_hl := hl.len_le
 have hl := hl.par
 refine sQ rfl ?_
 refine s_box (v := vw) (cs := [vw]) rfl (Sl.cells (hw.to K1)) ?_
 intro b2 w3 Nb2
 have o_K1_b2 := Nat.le_trans K1.size Nb2.ge
 have o_b2 := Nat.le_trans E.size Nb2.ge
 replace E := E.trans Nb2.ext
 replace K1 := K1.ext Nb2.ext
 have h_b2 := Nb2.same
 clear Nb2
 refine sA (I 0) rfl <| s_nil <| W.seq <| sQ rfl <| s_val (x_mf (fs := []) (cs := [Pz b2]) rfl rfl) <| sM vl rfl ?_
 refine s_call cf87 [.func (.func 147) #[] #[Pz b2], vl] rfl (every_int _ (hl.to K1) ⟨147, [Pz b2], rfl, cf147, fun w' v x hE hD hA => by obtain rfl := Arg.int hA; exact (listed1 _ _ (hE.get h_b2) ((hw.to K1).mono hE.le))⟩) ?_
 rintro _ w4 ⟨rfl, x5⟩
 replace E := E.trans x5
 replace K1 := K1.ext x5
 replace h_b2 := x5.get h_b2
 clear x5
 refine s_val (x_not (b := l.all (fun x : Int => inB x 0 ((ws.length : Int) - 1))) rfl) <| s_nil ?_
 refine W.cond (!(l.all (fun x : Int => inB x 0 ((ws.length : Int) - 1)))) rfl (fun c6 => ?_) (fun c6 => ?_)
 ·skip
  refine sQ rfl <| sA (I 2) rfl <| s_nil ?_
  refine W.ret ?_
  exact ⟨_, resE_tmp rfl, (eqI (listed_arg c6)), E⟩
 skip
 refine W.skip <| W.seq <| sQ rfl <| sA (I 1) rfl <| s_nil <| W.block ?_
 refine W.loop (fun m σ W => ∃ (i : Nat) (ρ : Env), σ = upds ρ [(1, vl), (5, I i)] ∧ m = l.length + 1 - i ∧ Ext w W ∧ KF 0 w W ∧ W.heap[b2]? = some (.cells #[vw] 22 (0, 0)) ∧ 1 ≤ i ∧ i ≤ l.length + 1 ∧ AscTo l i) ?_ ?_
 ·exact ⟨_, 1, _, upds_of _ _ ⟨rfl, (eqI (by omega)), trivial⟩, rfl, E, K1, h_b2, (Nat.le_refl _), (by omega), (fun j h1 h2 => by omega)⟩
 rintro m σ w7 ⟨i, ρ, rfl, rfl, E, K1, h_b2, iv0_0, iv0_1, iv0_2⟩
 refine W.seq <| sQ rfl <| sM (I i) rfl <| sM vl rfl <| s_val (x_lenS T34.und rfl (hl.to K1)) <| sC i l.length (decide ((i : Int) < l.length)) rfl rfl rfl <| s_nil ?_
 refine W.cond (decide ((i : Int) < l.length)) rfl (fun c8 => ?_) (fun c8 => ?_)
 ·simp only [qz1, qz2, qz3, qz4, qz5, qz6, ne_eq, qz7] at c8
  refine W.skip <| W.seq <| W.block <| W.seq ?_
  refine W.draw (fun W => Ext w W ∧ KF 0 w W ∧ W.heap[b2]? = some (.cells #[vw] 22 (0, 0))) [(0, true), (1, true), (2, true), (3, true), (4, true), (5, true), (6, true), (7, true), (8, true), (9, true)] mixed (by decide +kernel) rfl ?_
  intro w9 x10
  replace E := E.trans x10
  replace K1 := K1.ext x10
  replace h_b2 := x10.get h_b2
  clear x10
  refine ⟨⟨E, K1, h_b2⟩, ?_⟩
  refine d_q rfl (fun w' hC => by obtain ⟨E, K1, h_b2⟩ := hC; exact x_mv (v := vl) rfl) ?_
  refine d_q rfl (fun w' hC => by obtain ⟨E, K1, h_b2⟩ := hC; exact x_mv (v := I i) rfl) ?_
  refine d_q rfl (fun w' hC => by obtain ⟨E, K1, h_b2⟩ := hC; exact x_ix (a := vl) (b := I i) (v := vat vl 1 (Int.toNat i)) rfl rfl (Sl.ix (α := Int) T34.und T34.size (hl.to K1) (by omega) (by omega))) ?_
  refine d_q rfl (fun w' hC => by obtain ⟨E, K1, h_b2⟩ := hC; exact x_ld (p := vat vl 1 (Int.toNat i)) (v := I (l.getD i 0)) rfl (ld_sc Sc3 (At.to (Int_at hl (i := i) (by omega) (by omega)) K1))) ?_
  refine d_q rfl (fun w' hC => by obtain ⟨E, K1, h_b2⟩ := hC; exact x_mv (v := vl) rfl) ?_
  refine d_q rfl (fun w' hC => by obtain ⟨E, K1, h_b2⟩ := hC; exact x_mv (v := I i) rfl) ?_
  refine d_q rfl (fun w' hC => by obtain ⟨E, K1, h_b2⟩ := hC; exact x_ari (a := i) (b := 1) (r := i - 1) rfl rfl rfl (by omega)) ?_
  refine d_q rfl (fun w' hC => by obtain ⟨E, K1, h_b2⟩ := hC; exact x_ix (a := vl) (b := I (i - 1)) (v := vat vl 1 (Int.toNat (i - 1))) rfl rfl (Sl.ix (α := Int) T34.und T34.size (hl.to K1) (by omega) (by omega))) ?_
  refine d_q rfl (fun w' hC => by obtain ⟨E, K1, h_b2⟩ := hC; exact x_ld (p := vat vl 1 (Int.toNat (i - 1))) (v := I (l.getD (Int.toNat (i - 1)) 0)) rfl (ld_sc Sc3 (At.to (Int_at hl (i := i - 1) (by omega) (by omega)) K1))) ?_
  refine d_q rfl (fun w' hC => by obtain ⟨E, K1, h_b2⟩ := hC; exact x_cmp (kd := .i64) (a := l.getD i 0) (b := l.getD (Int.toNat (i - 1)) 0) (r := decide ((l.getD i 0 : Int) ≤ (l.getD (Int.toNat (i - 1)) 0))) rfl rfl rfl) ?_
  refine d_nil ?_
  refine W.cond (decide ((l.getD i 0 : Int) ≤ (l.getD (Int.toNat (i - 1)) 0))) rfl (fun c11 => ?_) (fun c11 => ?_)
  ·simp only [qz1, qz2, qz3, qz4, qz5, qz6, ne_eq, qz7] at c11
   refine sQ rfl <| sA (I 9) rfl <| s_nil ?_
   refine W.ret ?_
   exact ⟨_, resE_tmp rfl, (eqI (listed_bad c6 c8 iv0_0 c11)), E⟩
  simp only [qz1, qz2, qz3, qz4, qz5, qz6, ne_eq, qz7] at c11
  refine W.skip <| W.region rfl <| sM (I i) rfl <| sR i 1 (i + 1) rfl rfl rfl (by omega) <| sA (I (i + 1)) rfl <| s_nil ?_
  exact ⟨_, (by omega), i+1, _, upds_of _ _ ⟨rfl, (eqI (by omega)), trivial⟩, rfl, E, K1, h_b2, (by omega), (by omega), (asc_next iv0_2 c11)⟩
 simp only [qz1, qz2, qz3, qz4, qz5, qz6, ne_eq, qz7] at c8
 refine W.exit ?_
 refine sQ rfl <| sA (I 0) rfl <| s_nil ?_
 refine W.ret ?_
 exact ⟨_, resE_tmp rfl, (eqI (listed_ok c6 c8 iv0_2)), E⟩

theorem asked1 {b : Nat} {st : List Bool} (x : Int) (w : World) (h_b : w.heap[b]? = some (.cells (encB st).toArray 141 (0, 0))) (hst : st.length = 30) (h0 : 0 ≤ x) (h1 : x < 30) : Ret Try.prog 146 #[I x, Pz b] w fun v w' => v = B (st.getD x.toNat false) ∧ Ext w w' := by
 refine ret_of_W Try.func146 rfl rfl rfl ?_
 have E := Ext.refl w
 have K1 := KF.refl 0 w
 refine sQ rfl <| sA (B false) rfl <| s_nil <| sQ rfl <| sM (I x) rfl <| s_val (x_ix (a := Pz b) (b := I x) (v := .pointer (some ⟨b, 0 + Int.toNat x, none⟩)) rfl rfl (run_indexArr Try.underlying141 Sz4 (by omega) (by omega))) <| s_val (x_ld (p := .pointer (some ⟨b, 0 + Int.toNat x, none⟩)) (v := B (st.getD (Int.toNat x) false)) rfl (ldArr Sc4 h_b (by omega) (by omega))) <| sA (B (st.getD (Int.toNat x) false)) rfl <| s_nil ?_
 refine W.ret ?_
 exact ⟨_, resE_tmp rfl, rfl, E⟩

theorem asked_any {vw vr : Value} {ws : List Work} {rev : List Int} (w : World) (hw : Sl w.cell? vw ws) (hr : Sl w.cell? vr rev) : Ret Try.prog 92 #[vw, vr] w fun v w' => (askedE ws rev ≠ 0 ∧ v = .tuple #[.pointer none, .slice none 0 0, .agg (encB (List.replicate 30 false)).toArray, I (askedE ws rev)] ∧ Ext w w') ∨ (askedE ws rev = 0 ∧ ∃ b so, v = .tuple #[Pz b, so, .agg (encB (staleL ws rev)).toArray, I 0] ∧ New w b (.cells #[vw] 187 (0, 0)) w' ∧ Sl (frm w' w.heap.size) so (orderP ws)) := by
 refine ret_of_W Try.func92 rfl rfl rfl ?_
 have E := Ext.refl w
 have K1 := KF.refl 0 w
 have hl_hw := hw.len_le
 have hw := hw.par
 have hl_hr := hr.len_le
 have hr := hr.par
 refine sQ rfl <| sA (.pointer none) rfl <| sA (.slice none 0 0) rfl ?_
 refine s_alloc (cs := encB (List.replicate 30 false)) Al141 rfl ?_
 intro b2 w3 Nb2
 have o_K1_b2 := Nat.le_trans K1.size Nb2.ge
 have o_b2 := Nat.le_trans E.size Nb2.ge
 replace E := E.trans Nb2.ext
 replace K1 := K1.ext Nb2.ext
 have h_b2 := Nb2.same
 clear Nb2
 have hl_b2 : (List.replicate 30 false).length = 30 := by simp
 refine sA (I 0) rfl <| s_nil <| sQ rfl ?_
 refine s_alloc (cs := encB (List.replicate 30 false)) Al141 rfl ?_
 intro b4 w5 Nb4
 have o_K1_b4 := Nat.le_trans K1.size Nb4.ge
 have o_b4 := Nat.le_trans E.size Nb4.ge
 have o_b2_b4 := Nat.lt_of_lt_of_le (heap_lt h_b2) Nb4.ge
 replace E := E.trans Nb4.ext
 replace K1 := K1.ext Nb4.ext
 replace h_b2 := Nb4.ext.get h_b2
 have h_b4 := Nb4.same
 clear Nb4
 have hl_b4 : (List.replicate 30 false).length = 30 := by simp
 refine s_nil <| sQ rfl <| sM vw rfl ?_
 refine s_call cf81 [vw] rfl (opened_any _ (hw.to K1)) ?_
 rintro _ w6 (⟨h8, rfl, x9⟩ | ⟨h10, b11, so12, rfl, n13, hs14⟩)
 ·replace E := E.trans x9
  replace K1 := K1.ext x9
  replace h_b2 := x9.get h_b2
  replace h_b4 := x9.get h_b4
  refine sM (.tuple #[.pointer none, .slice none 0 0, I (openedE ws)]) rfl <| sX [.pointer none, .slice none 0 0, I (openedE ws)] (.pointer none) rfl rfl <| sX [.pointer none, .slice none 0 0, I (openedE ws)] (.slice none 0 0) rfl rfl <| sX [.pointer none, .slice none 0 0, I (openedE ws)] (I (openedE ws)) rfl rfl <| sA (.pointer none) rfl <| sA (.slice none 0 0) rfl <| sA (I (openedE ws)) rfl <| s_nil <| W.seq <| sQ rfl <| sM (I (openedE ws)) rfl ?_
  refine sC (openedE ws) 0 ((openedE ws : Int) == 0) rfl rfl rfl <| s_nil ?_
  refine W.cond ((openedE ws : Int) == 0) rfl (fun c15 => ?_) (fun c15 => ?_)
  ·simp only [qz1, qz2, qz3, qz4, qz5, qz6, ne_eq, qz7] at c15
   exact absurd c15 h8
  simp only [qz1, qz2, qz3, qz4, qz5, qz6, ne_eq, qz7] at c15
  refine W.skip <| W.seq <| sQ rfl <| sM (I (openedE ws)) rfl <| sC (openedE ws) 0 ((openedE ws : Int) != 0) rfl rfl rfl <| s_nil ?_
  refine W.cond ((openedE ws : Int) != 0) rfl (fun c16 => ?_) (fun c16 => ?_)
  ·simp only [qz1, qz2, qz3, qz4, qz5, qz6, ne_eq, qz7] at c16
   refine W.seq ?_
   refine W.draw (fun W => Ext w W ∧ KF 0 w W ∧ W.heap[b4]? = some (.cells (encB (List.replicate 30 false)).toArray 141 (0, 0))) [(0, true), (1, true), (2, true), (3, true), (4, false), (5, true)] mixed (by decide +kernel) rfl ?_
   intro w17 x18
   replace E := E.trans x18
   replace K1 := K1.ext x18
   replace h_b2 := x18.get h_b2
   replace h_b4 := x18.get h_b4
   clear x18
   refine ⟨⟨E, K1, h_b4⟩, ?_⟩
   refine d_q rfl (fun w' hC => by obtain ⟨E, K1, h_b4⟩ := hC; exact x_ld (p := Pz b4) (v := .agg (encB (List.replicate 30 false)).toArray) rfl (ldArrA Ag141 Sz141 hl_b4 h_b4)) ?_
   refine d_q rfl (fun w' hC => by obtain ⟨E, K1, h_b4⟩ := hC; exact x_mv (v := I (openedE ws)) rfl) ?_
   refine d_q rfl (fun w' hC => by obtain ⟨E, K1, h_b4⟩ := hC; exact x_as (v := .pointer none) rfl) ?_
   refine d_q rfl (fun w' hC => by obtain ⟨E, K1, h_b4⟩ := hC; exact x_as (v := .slice none 0 0) rfl) ?_
   refine d_l rfl ?_
   refine s_stArrA (b := b2) (l := List.replicate 30 false) (l' := List.replicate 30 false) rfl rfl Sz141 h_b2 hl_b2 hl_b4 ?_
   intro w19 p20
   replace E := E.put (by omega) p20
   replace K1 := K1.put p20 (by omega)
   replace h_b4 := p20.get (by omega) h_b4
   replace h_b2 := p20.same
   clear p20
   refine s_nil ⟨⟨E, K1, h_b4⟩, ?_⟩
   refine d_q rfl (fun w' hC => by obtain ⟨E, K1, h_b4⟩ := hC; exact x_as (v := I (openedE ws)) rfl) ?_
   refine d_nil ?_
   refine W.ret ?_
   exact ⟨_, (resE_ofn (vs := [.pointer none, .slice none 0 0, .agg (encB (List.replicate 30 false)).toArray, I (openedE ws)]) rfl rfl (.tmp (v := .pointer none) rfl <| .tmp (v := .slice none 0 0) rfl <| .cell (v := .agg (encB (List.replicate 30 false)).toArray) rfl (run_loadVar_arr Ag141 Sz141 hl_b4 h_b2) <| .tmp (v := I (openedE ws)) rfl <| .nil)), .inl ⟨(by rw [asked_wrong h8]; exact h8), (by rw [asked_wrong h8]), E⟩⟩
  simp only [qz1, qz2, qz3, qz4, qz5, qz6, ne_eq, qz7] at c16
  exact absurd c16 h8
 have sz_w6 := E.size
 have lt_b2_w6 := heap_lt h_b2
 have lt_b4_w6 := heap_lt h_b4
 have o_K1_b11 := Nat.le_trans K1.size n13.ge
 have o_b11 := Nat.le_trans E.size n13.ge
 have o_b2_b11 := Nat.lt_of_lt_of_le (heap_lt h_b2) n13.ge
 have o_b4_b11 := Nat.lt_of_lt_of_le (heap_lt h_b4) n13.ge
 replace E := E.trans n13.ext
 replace K1 := K1.ext n13.ext
 replace h_b2 := n13.ext.get h_b2
 replace h_b4 := n13.ext.get h_b4
 have h_b11 := n13.same
 clear n13
 have hl_hs14 := hs14.len_le
 have K21 := KF.refl w5.heap.size w6
 refine sM (.tuple #[Pz b11, so12, I 0]) rfl <| sX [Pz b11, so12, I 0] (Pz b11) rfl rfl <| sX [Pz b11, so12, I 0] so12 rfl rfl <| sX [Pz b11, so12, I 0] (I 0) rfl rfl <| sA (Pz b11) rfl <| sA so12 rfl <| sA (I 0) rfl <| s_nil <| W.seq <| sQ rfl <| sM (I 0) rfl ?_
 refine sC 0 0 ((0 : Int) == 0) rfl rfl rfl <| s_nil ?_
 refine W.cond ((0 : Int) == 0) rfl (fun c22 => ?_) (fun c22 => ?_)
 ·simp only [qz1, qz2, qz3, qz4, qz5, qz6, ne_eq, qz7] at c22
  refine W.region rfl <| sM vw rfl <| sM vr rfl ?_
  refine s_call cf96 [vw, vr] rfl (listed_any _ (hw.to K1) (hr.to K1)) ?_
  rintro _ w23 ⟨rfl, x24⟩
  replace E := E.trans x24
  replace K1 := K1.ext x24
  replace K21 := K21.ext x24
  replace h_b2 := x24.get h_b2
  replace h_b4 := x24.get h_b4
  replace h_b11 := x24.get h_b11
  clear x24
  refine sA (I (listedE ws.length rev)) rfl <| s_nil <| W.seq <| sQ rfl <| sM (I (listedE ws.length rev)) rfl <| sC (listedE ws.length rev) 0 ((listedE ws.length rev : Int) != 0) rfl rfl rfl <| s_nil ?_
  refine W.cond ((listedE ws.length rev : Int) != 0) rfl (fun c25 => ?_) (fun c25 => ?_)
  ·simp only [qz1, qz2, qz3, qz4, qz5, qz6, ne_eq, qz7] at c25
   refine W.seq ?_
   refine W.draw (fun W => Ext w W ∧ KF 0 w W ∧ KF w5.heap.size w6 W ∧ W.heap[b4]? = some (.cells (encB (List.replicate 30 false)).toArray 141 (0, 0)) ∧ W.heap[b11]? = some (.cells #[vw] 187 (0, 0))) [(0, true), (1, true), (2, true), (3, true), (4, false), (5, true)] mixed (by decide +kernel) rfl ?_
   intro w26 x27
   replace E := E.trans x27
   replace K1 := K1.ext x27
   replace K21 := K21.ext x27
   replace h_b2 := x27.get h_b2
   replace h_b4 := x27.get h_b4
   replace h_b11 := x27.get h_b11
   clear x27
   refine ⟨⟨E, K1, K21, h_b4, h_b11⟩, ?_⟩
   refine d_q rfl (fun w' hC => by obtain ⟨E, K1, K21, h_b4, h_b11⟩ := hC; exact x_ld (p := Pz b4) (v := .agg (encB (List.replicate 30 false)).toArray) rfl (ldArrA Ag141 Sz141 hl_b4 h_b4)) ?_
   refine d_q rfl (fun w' hC => by obtain ⟨E, K1, K21, h_b4, h_b11⟩ := hC; exact x_mv (v := I (listedE ws.length rev)) rfl) ?_
   refine d_q rfl (fun w' hC => by obtain ⟨E, K1, K21, h_b4, h_b11⟩ := hC; exact x_as (v := .pointer none) rfl) ?_
   refine d_q rfl (fun w' hC => by obtain ⟨E, K1, K21, h_b4, h_b11⟩ := hC; exact x_as (v := .slice none 0 0) rfl) ?_
   refine d_l rfl ?_
   refine s_stArrA (b := b2) (l := List.replicate 30 false) (l' := List.replicate 30 false) rfl rfl Sz141 h_b2 hl_b2 hl_b4 ?_
   intro w28 p29
   replace E := E.put (by omega) p29
   replace K1 := K1.put p29 (by omega)
   replace K21 := K21.put p29 (by omega)
   replace h_b4 := p29.get (by omega) h_b4
   replace h_b11 := p29.get (by omega) h_b11
   replace h_b2 := p29.same
   clear p29
   refine s_nil ⟨⟨E, K1, K21, h_b4, h_b11⟩, ?_⟩
   refine d_q rfl (fun w' hC => by obtain ⟨E, K1, K21, h_b4, h_b11⟩ := hC; exact x_as (v := I (listedE ws.length rev)) rfl) ?_
   refine d_nil ?_
   refine W.ret ?_
   exact ⟨_, (resE_ofn (vs := [.pointer none, .slice none 0 0, .agg (encB (List.replicate 30 false)).toArray, I (listedE ws.length rev)]) rfl rfl (.tmp (v := .pointer none) rfl <| .tmp (v := .slice none 0 0) rfl <| .cell (v := .agg (encB (List.replicate 30 false)).toArray) rfl (run_loadVar_arr Ag141 Sz141 hl_b4 h_b2) <| .tmp (v := I (listedE ws.length rev)) rfl <| .nil)), .inl ⟨(by rw [asked_list h10]; exact c25), (by rw [asked_list h10]), E⟩⟩
  simp only [qz1, qz2, qz3, qz4, qz5, qz6, ne_eq, qz7] at c25
  refine W.skip <| W.seq <| sQ rfl <| sM so12 rfl <| s_val (x_lenS T34.und rfl (hs14.to K21)) <| sM (I 0) rfl <| s_nil <| W.block ?_
  have hr30 := opened_right h10
  have hn30 := (right_len hr30).2
  refine W.loop (fun m σ W => ∃ (k : Nat) (ρ : Env), σ = upds ρ [(0, vw), (1, vr), (6, Pz b2), (8, Pz b4), (9, Pz b11), (10, so12), (29, so12), (30, I ((orderP ws).length)), (31, I k)] ∧ m = (orderP ws).length - k ∧ Ext w W ∧ KF 0 w W ∧ KF w5.heap.size w6 W ∧ W.heap[b2]? = some (.cells (encB (List.replicate 30 false)).toArray 141 (0, 0)) ∧ W.heap[b4]? = some (.cells (encB (staleF ws rev ((orderP ws).take k) (List.replicate 30 false))).toArray 141 (0, 0)) ∧ (staleF ws rev ((orderP ws).take k) (List.replicate 30 false)).length = 30 ∧ W.heap[b11]? = some (.cells #[vw] 187 (0, 0)) ∧ k ≤ (orderP ws).length) ?_ ?_
  ·exact ⟨_, 0, _, upds_of _ _ ⟨rfl, rfl, rfl, rfl, rfl, rfl, rfl, rfl, (eqI (by omega)), trivial⟩, rfl, E, K1, K21, h_b2, (by first | exact h_b4 | simpa using h_b4), (by first | exact hl_b4 | simpa using hl_b4), h_b11, (Nat.zero_le _)⟩
  rintro m σ w30 ⟨k, ρ, rfl, rfl, E, K1, K21, h_b2, h_b4, hst, h_b11, iv0_0⟩
  refine sQ rfl <| sC k ((orderP ws).length) (decide ((k : Int) < ((orderP ws).length))) rfl rfl rfl <| s_nil <| W.seq ?_
  refine W.cond (decide ((k : Int) < ((orderP ws).length))) rfl (fun c31 => ?_) (fun c31 => ?_)
  ·simp only [qz1, qz2, qz3, qz4, qz5, qz6, ne_eq, qz7] at c31
   have hik := order_at ws c31
   refine W.skip <| W.seq <| W.block <| sQ rfl <| s_val (x_ix (a := so12) (b := I k) (v := vat so12 1 (Int.toNat k)) rfl rfl (Sl.ix (α := Int) T34.und T34.size (hs14.to K21) (by omega) (by omega))) <| s_val (x_ld (p := vat so12 1 (Int.toNat k)) (v := I ((orderP ws).getD k 0)) rfl (ld_sc Sc3 (At.to (Int_at hs14 (i := k) (by omega) (by omega)) K21))) <| sA (I ((orderP ws).getD k 0)) rfl <| s_nil <| W.region rfl <| sM (I ((orderP ws).getD k 0)) rfl <| sM vr rfl ?_
   refine sM (I ((orderP ws).getD k 0)) rfl ?_
   refine s_call cf45 [vr, I ((orderP ws).getD k 0)] rfl (contains_int ((orderP ws).getD k 0) _ (hr.to K1)) ?_
   rintro _ w32 ⟨rfl, x33⟩
   replace E := E.trans x33
   replace K1 := K1.ext x33
   replace K21 := K21.ext x33
   replace h_b2 := x33.get h_b2
   replace h_b4 := x33.get h_b4
   replace h_b11 := x33.get h_b11
   clear x33
   refine sM (B (rev.contains ((orderP ws).getD k 0))) rfl <| g_val (!(rev.contains ((orderP ws).getD k 0))) (gy_f rfl) (fun hg => x_mv (v := vw) rfl) <| g_val (!(rev.contains ((orderP ws).getD k 0))) (gy_f rfl) (fun hg => x_mv (v := I ((orderP ws).getD k 0)) rfl) <| g_val (!(rev.contains ((orderP ws).getD k 0))) (gy_f rfl) (fun hg => x_ix (a := vw) (b := I ((orderP ws).getD k 0)) (v := vat vw 3 (Int.toNat ((orderP ws).getD k 0))) (gd_of (c := !(rev.contains ((orderP ws).getD k 0))) hg (vw)) (gd_of (c := !(rev.contains ((orderP ws).getD k 0))) hg (I ((orderP ws).getD k 0))) (Sl.ix (α := Work) T22.und T22.size (hw.to K1) (by first | omega | (simp at hg; omega) | (simp [inB] at hg; omega)) (by first | omega | (simp at hg; omega) | (simp [inB] at hg; omega)))) <| g_val (!(rev.contains ((orderP ws).getD k 0))) (gy_f rfl) (fun hg => x_fa (a := vat vw 3 (Int.toNat ((orderP ws).getD k 0))) (v := fat (vat vw 3 (Int.toNat ((orderP ws).getD k 0))) 0) (gd_of (c := !(rev.contains ((orderP ws).getD k 0))) hg (vat vw 3 (Int.toNat ((orderP ws).getD k 0)))) (fa_pl Fd60_0 Sz34 (Sl.pl (i := (orderP ws).getD k 0) hw (by first | omega | (simp at hg; omega) | (simp [inB] at hg; omega)) (by first | omega | (simp at hg; omega) | (simp [inB] at hg; omega))))) ?_
   obtain ⟨u34, ha_u34, hs35⟩ := gd_ex (c := !(rev.contains ((orderP ws).getD k 0))) fun hg => Work_at0 hw (i := (orderP ws).getD k 0) (by first | omega | (simp at hg; omega) | (simp [inB] at hg; omega)) (by first | omega | (simp at hg; omega) | (simp [inB] at hg; omega))
   replace hs35 : (!(rev.contains ((orderP ws).getD k 0))) = true → Sl _ u34 (ws.getD (Int.toNat ((orderP ws).getD k 0)) default).of := hs35
   refine g_val (!(rev.contains ((orderP ws).getD k 0))) (gy_f rfl) (fun hg => x_ld (p := fat (vat vw 3 (Int.toNat ((orderP ws).getD k 0))) 0) (v := u34) (gd_of (c := !(rev.contains ((orderP ws).getD k 0))) hg (fat (vat vw 3 (Int.toNat ((orderP ws).getD k 0))) 0)) (ld_sc Sc34 (At.to (ha_u34 hg) K1))) <| g_val (!(rev.contains ((orderP ws).getD k 0))) (gy_f rfl) (fun hg => x_mf (fs := []) (cs := [Pz b4]) rfl rfl) ?_
   refine g_call (!(rev.contains ((orderP ws).getD k 0))) (gy_f rfl) cf48 (B (((ws.getD (Int.toNat ((orderP ws).getD k 0)) default).of).any (fun x : Int => (staleF ws rev ((orderP ws).take k) (List.replicate 30 false)).getD x.toNat false))) (fun _ => [u34, .func (.func 146) #[] #[Pz b4]]) (fun hg => lst2 (gd_of (c := !(rev.contains ((orderP ws).getD k 0))) hg (u34)) (gd_of (c := !(rev.contains ((orderP ws).getD k 0))) hg (.func (.func 146) #[] #[Pz b4]))) (fun hg => (containsFunc_int _ ((hs35 hg).to K1) ⟨146, [Pz b4], rfl, cf146, fun w' v x hE hD hA => by obtain rfl := Arg.int hA; exact (asked1 _ _ (hE.get h_b4) hst (right_of hr30 (by omega) _ hD).1 (by have := (right_of hr30 (by omega) _ hD).2.1; omega))⟩)) ?_
   intro w36 x37
   replace E := E.trans x37
   replace K1 := K1.ext x37
   replace K21 := K21.ext x37
   replace h_b2 := x37.get h_b2
   replace h_b4 := x37.get h_b4
   replace h_b11 := x37.get h_b11
   clear x37
   refine s_val (x_por (b := rev.contains ((orderP ws).getD k 0)) (r := ((ws.getD (Int.toNat ((orderP ws).getD k 0)) default).of).any (fun x : Int => (staleF ws rev ((orderP ws).take k) (List.replicate 30 false)).getD x.toNat false)) rfl rfl (fun hb => gd_of (c := !(rev.contains ((orderP ws).getD k 0))) (by simp_all) (B (((ws.getD (Int.toNat ((orderP ws).getD k 0)) default).of).any (fun x : Int => (staleF ws rev ((orderP ws).take k) (List.replicate 30 false)).getD x.toNat false))))) <| s_val (x_ix (a := Pz b4) (b := I ((orderP ws).getD k 0)) (v := .pointer (some ⟨b4, 0 + Int.toNat ((orderP ws).getD k 0), none⟩)) rfl rfl (run_indexArr Try.underlying141 Sz4 (by omega) (by omega))) ?_
   refine s_stArr (b := b4) (l := staleF ws rev ((orderP ws).take k) (List.replicate 30 false)) (i := (orderP ws).getD k 0) (v := ((rev.contains ((orderP ws).getD k 0)) || (((ws.getD (Int.toNat ((orderP ws).getD k 0)) default).of).any (fun x : Int => (staleF ws rev ((orderP ws).take k) (List.replicate 30 false)).getD x.toNat false)))) rfl rfl Sz4 h_b4 (by omega) (by omega) ?_
   intro w38 p39
   replace E := E.put (by omega) p39
   replace K1 := K1.put p39 (by omega)
   replace K21 := K21.put p39 (by omega)
   replace h_b2 := p39.get (by omega) h_b2
   replace h_b11 := p39.get (by omega) h_b11
   replace h_b4 := p39.same
   clear p39
   have hl40 : ((staleF ws rev ((orderP ws).take k) (List.replicate 30 false)).set (Int.toNat ((orderP ws).getD k 0)) (((rev.contains ((orderP ws).getD k 0)) || (((ws.getD (Int.toNat ((orderP ws).getD k 0)) default).of).any (fun x : Int => (staleF ws rev ((orderP ws).take k) (List.replicate 30 false)).getD x.toNat false))))).length = 30 := List.length_set.trans hst
   refine s_nil <| W.region rfl <| sR k 1 (k + 1) rfl rfl rfl (by omega) <| sM (I (k + 1)) rfl <| s_nil ?_
   exact ⟨_, (by omega), k+1, _, upds_of _ _ ⟨rfl, rfl, rfl, rfl, rfl, rfl, rfl, rfl, (eqI (by omega)), trivial⟩, rfl, E, K1, K21, h_b2, (by rw [staleF_next ws rev (orderP ws) c31]; exact h_b4), (by rw [staleF_len]; simp), h_b11, (by omega)⟩
  simp only [qz1, qz2, qz3, qz4, qz5, qz6, ne_eq, qz7] at c31
  refine W.exit ?_
  refine W.seq ?_
  refine W.draw (fun W => Ext w W ∧ KF 0 w W ∧ KF w5.heap.size w6 W ∧ W.heap[b4]? = some (.cells (encB (staleF ws rev ((orderP ws).take k) (List.replicate 30 false))).toArray 141 (0, 0)) ∧ W.heap[b11]? = some (.cells #[vw] 187 (0, 0))) [(0, true), (1, true), (2, true), (3, true), (4, true), (5, false), (6, true)] mixed (by decide +kernel) rfl ?_
  intro w41 x42
  replace E := E.trans x42
  replace K1 := K1.ext x42
  replace K21 := K21.ext x42
  replace h_b2 := x42.get h_b2
  replace h_b4 := x42.get h_b4
  replace h_b11 := x42.get h_b11
  clear x42
  refine ⟨⟨E, K1, K21, h_b4, h_b11⟩, ?_⟩
  refine d_q rfl (fun w' hC => by obtain ⟨E, K1, K21, h_b4, h_b11⟩ := hC; exact x_mv (v := Pz b11) rfl) ?_
  refine d_q rfl (fun w' hC => by obtain ⟨E, K1, K21, h_b4, h_b11⟩ := hC; exact x_mv (v := so12) rfl) ?_
  refine d_q rfl (fun w' hC => by obtain ⟨E, K1, K21, h_b4, h_b11⟩ := hC; exact x_ld (p := Pz b4) (v := .agg (encB (staleF ws rev ((orderP ws).take k) (List.replicate 30 false))).toArray) rfl (ldArrA Ag141 Sz141 hst h_b4)) ?_
  refine d_q rfl (fun w' hC => by obtain ⟨E, K1, K21, h_b4, h_b11⟩ := hC; exact x_as (v := Pz b11) rfl) ?_
  refine d_q rfl (fun w' hC => by obtain ⟨E, K1, K21, h_b4, h_b11⟩ := hC; exact x_as (v := so12) rfl) ?_
  refine d_l rfl ?_
  refine s_stArrA (b := b2) (l := List.replicate 30 false) (l' := staleF ws rev ((orderP ws).take k) (List.replicate 30 false)) rfl rfl Sz141 h_b2 hl_b2 hst ?_
  intro w43 p44
  replace E := E.put (by omega) p44
  replace K1 := K1.put p44 (by omega)
  replace K21 := K21.put p44 (by omega)
  replace h_b4 := p44.get (by omega) h_b4
  replace h_b11 := p44.get (by omega) h_b11
  replace h_b2 := p44.same
  clear p44
  refine s_nil ⟨⟨E, K1, K21, h_b4, h_b11⟩, ?_⟩
  refine d_q rfl (fun w' hC => by obtain ⟨E, K1, K21, h_b4, h_b11⟩ := hC; exact x_as (v := I 0) rfl) ?_
  refine d_nil ?_
  refine W.ret ?_
  exact ⟨_, (resE_ofn (vs := [Pz b11, so12, .agg (encB (staleF ws rev ((orderP ws).take k) (List.replicate 30 false))).toArray, I 0]) rfl rfl (.tmp (v := Pz b11) rfl <| .tmp (v := so12) rfl <| .cell (v := .agg (encB (staleF ws rev ((orderP ws).take k) (List.replicate 30 false))).toArray) rfl (run_loadVar_arr Ag141 Sz141 hst h_b2) <| .tmp (v := I 0) rfl <| .nil)), .inr ⟨(by rw [asked_list h10]; exact c25), b11, _, (by rw [staleL_done c31 iv0_0]), ⟨E, o_b11, h_b11⟩, (hs14.kf K21).mono (frm_mono _ (by omega))⟩⟩
 simp only [qz1, qz2, qz3, qz4, qz5, qz6, ne_eq, qz7] at c22
 exact absurd c22 (by decide)

end Go.Proofs.Ytndobgodeicloaa
end
section
set_option maxRecDepth 100000
set_option maxHeartbeats 16000000
namespace Go.Proofs.Ytndobgodeicloaa
open Go Go.Nm
theorem repeat_int {vx : Value} {x n : Int} (w : World) (hx : Sl w.cell? vx [x]) (h1 : 1 ≤ n) (h2 : n ≤ 1000) : Ret Try.prog 86 #[vx, I n] w fun v w' => OwnF w.heap.size 3 w' v (List.replicate (Int.toNat n) x) ∧ Ext w w' := by
 refine ret_of_W Try.func86 rfl rfl rfl ?_
 have E := Ext.refl w
 have K1 := KF.refl 0 w
 have hl_hx := hx.len_le
 have hx := hx.par
 refine sQ rfl <| sA (.slice none 0 0) rfl <| s_nil <| W.seq <| sQ rfl <| sM (I n) rfl <| sC n 0 (decide ((n : Int) < 0)) rfl rfl rfl <| s_nil ?_
 refine W.cond (decide ((n : Int) < 0)) rfl (fun c2 => ?_) (fun c2 => ?_)
 ·simp only [qz1, qz2, qz3, qz4, qz5, qz6, ne_eq, qz7] at c2
  exfalso; omega
 simp only [qz1, qz2, qz3, qz4, qz5, qz6, ne_eq, qz7] at c2
 refine W.skip <| sQ rfl <| sM vx rfl <| s_val (x_lenS T34.und rfl (hx.to K1)) <| s_val (x_convU (kd := .i64) (a := ([x]).length) Try.underlying3 Try.underlying205 rfl (by omega)) <| sM (I n) rfl <| s_val (x_convU (kd := .i64) (a := n) Try.underlying3 Try.underlying205 rfl (by omega)) ?_
 refine s_call cf142 [.int .u64 (([x]).length), .int .u64 n] rfl (mul_any (by omega) (by omega) _) ?_
 rintro _ w3 ⟨rfl, x4⟩
 replace E := E.trans x4
 replace K1 := K1.ext x4
 clear x4
 refine sM (.tuple #[.int .u64 0, .int .u64 n]) rfl <| sX [.int .u64 0, .int .u64 n] (.int .u64 0) rfl rfl <| sX [.int .u64 0, .int .u64 n] (.int .u64 n) rfl rfl <| sA (.int .u64 0) rfl <| sA (.int .u64 n) rfl <| s_nil <| W.seq <| sQ rfl <| sM (.int .u64 0) rfl <| s_val (x_cmp (kd := .u64) (a := 0) (b := 0) (r := decide ((0 : Int) < 0)) rfl rfl rfl) <| sM (B (decide ((0 : Int) < 0))) rfl ?_
 refine g_val (!(decide ((0 : Int) < 0))) (gy_f rfl) (fun hg => x_mv (v := .int .u64 n) rfl) <| g_val (!(decide ((0 : Int) < 0))) (gy_f rfl) (fun hg => x_cmp (kd := .u64) (a := n) (b := 9223372036854775807) (r := decide ((9223372036854775807 : Int) < n)) (gd_of (c := !(decide ((0 : Int) < 0))) hg (.int .u64 n)) rfl rfl) <| s_val (x_por (b := decide ((0 : Int) < 0)) (r := decide ((9223372036854775807 : Int) < n)) rfl rfl (fun hb => gd_of (c := !(decide ((0 : Int) < 0))) (by simp_all) (B (decide ((9223372036854775807 : Int) < n))))) <| s_nil ?_
 refine W.cond (((decide ((0 : Int) < 0)) || (decide ((9223372036854775807 : Int) < n)))) rfl (fun c5 => ?_) (fun c5 => ?_)
 ·skip
  exfalso; simp at c5; omega
 skip
 refine W.skip <| sQ rfl <| sM (.int .u64 n) rfl <| s_val (x_conv64 (kd := .u64) (a := n) Try.underlying205 Try.underlying3 rfl (by omega)) ?_
 refine s_mk (α := Int) T34 0 rfl (n := n) rfl rfl (by omega) (by omega) (by omega) ?_
 intro v6 w7 ho8 x9
 have z10 := Nat.le_refl w3.heap.size
 have B_v6 := E.size
 have B_v6_K1 := K1.size
 replace E := E.trans x9
 replace z10 := Nat.le_trans z10 x9.size
 replace K1 := K1.ext x9
 refine sA v6 rfl <| s_nil <| sQ rfl <| sM v6 rfl <| sM vx rfl ?_
 refine s_copy (v := v6) (l := List.replicate (Int.toNat n) 0) (l2 := [x]) (o := 0) (vy := vx) T34 ((sufV_zero ho8 1).symm) rfl ho8 (by first | omega | (simp; done) | (simp; omega)) (hx.to K1) (Cells.Le.refl _) (by first | omega | (simp; done) | (simp; omega)) ?_
 intro w11 ho13 g12
 replace E := E.grow g12 (by omega)
 replace z10 := Nat.le_trans z10 g12.size
 replace K1 := K1.grow g12 (by omega)
 replace ho8 := ho13
 clear g12
 refine sA (I ((min ([x]).length ((List.replicate (Int.toNat n) 0).length - 0) : Nat))) rfl <| s_nil <| W.seq <| W.block ?_
 refine W.loop (fun m σ W => ∃ (k : Nat) (l : List Int) (vo : Value) (ρ : Env), σ = upds ρ [(7, vo), (8, I k)] ∧ m = Int.toNat n - k ∧ Ext w W ∧ w3.heap.size ≤ W.heap.size ∧ OwnF w3.heap.size 3 W vo l ∧ l.length = Int.toNat n ∧ 1 ≤ k ∧ k ≤ Int.toNat n ∧ (∀ y ∈ l.take k, y = x)) ?_ ?_
 ·exact ⟨_, 1, ([x] ++ List.replicate (Int.toNat n - 1) 0), v6, _, upds_of _ _ ⟨rfl, (eqI (by simp; omega)), trivial⟩, rfl, E, z10, (by have hq := ho8; rw [rep_init (n := Int.toNat n) x (by omega)] at hq; exact hq), (by simp; omega), (Nat.le_refl _), (by omega), (by simp)⟩
 rintro m σ w14 ⟨k, l, vo, ρ, rfl, rfl, E, z10, ho_vo, iv0_0, iv0_1, iv0_2, iv0_3⟩
 refine W.seq <| sQ rfl <| sM (I k) rfl <| sM vo rfl <| s_val (x_lenS T34.und rfl (ho_vo.sl.mono (frm_le _ _))) <| sC k l.length (decide ((k : Int) < l.length)) rfl rfl rfl <| s_nil ?_
 refine W.cond (decide ((k : Int) < l.length)) rfl (fun c15 => ?_) (fun c15 => ?_)
 ·simp only [qz1, qz2, qz3, qz4, qz5, qz6, ne_eq, qz7] at c15
  refine W.skip <| W.block ?_
  refine W.draw (fun W => Ext w W) [(0, true), (1, true), (2, true), (3, true), (4, true), (5, true), (6, true), (7, false), (8, true), (9, true)] mixed (by decide +kernel) rfl ?_
  intro w16 x17
  replace E := E.trans x17
  replace z10 := Nat.le_trans z10 x17.size
  replace ho_vo := ho_vo.ext x17
  clear x17
  refine ⟨E, ?_⟩
  refine d_q rfl (fun w' hC => by have E := hC; exact x_mv (v := I k) rfl) ?_
  refine d_q rfl (fun w' hC => by have E := hC; exact x_mv (v := vo) rfl) ?_
  refine d_q rfl (fun w' hC => by have E := hC; exact x_mv (v := I k) rfl) ?_
  refine d_q rfl (fun w' hC => by have E := hC; exact x_sl (v := vo) (u := sufV 1 vo (Int.toNat k)) (lo' := some (I k)) (hi' := none) (mx' := none) rfl rfl rfl rfl (OwnF.suf (i := k) T34.und T34.size ho_vo (by omega) (by omega) _)) ?_
  refine d_q rfl (fun w' hC => by have E := hC; exact x_mv (v := vo) rfl) ?_
  refine d_q rfl (fun w' hC => by have E := hC; exact x_mv (v := I k) rfl) ?_
  obtain ⟨u18, hr_u18, hs19⟩ := sl_hi T34.und T34.size ho_vo.sl (j := k) (by omega) (by omega)
  replace hs19 := hs19.mono (frm_le _ _)
  replace hs19 : Sl _ u18 (l.take k) := hs19
  refine d_q rfl (fun w' hC => by have E := hC; exact x_sl (v := vo) (u := u18) (lo' := none) (hi' := some (I k)) (mx' := none) rfl rfl rfl rfl (hr_u18 _)) ?_
  refine d_l rfl ?_
  refine s_copy (v := vo) (l := l) (l2 := l.take k) (o := (Int.toNat k)) (vy := u18) T34 rfl rfl ho_vo (by first | omega | (simp; done) | (simp; omega)) hs19 (Cells.Le.refl _) (by first | omega | (simp; done) | (simp; omega)) ?_
  intro w20 ho22 g21
  replace E := E.grow g21 (by omega)
  replace z10 := Nat.le_trans z10 g21.size
  replace ho_vo := ho22
  clear g21
  refine s_nil ⟨E, ?_⟩
  refine d_q rfl (fun w' hC => by have E := hC; exact x_ari (a := k) (b := (min (l.take k).length ((l).length - (Int.toNat k)) : Nat)) (r := k + ((min (l.take k).length ((l).length - (Int.toNat k)) : Nat))) rfl rfl rfl (by omega)) ?_
  refine d_q rfl (fun w' hC => by have E := hC; exact x_as (v := I (k + ((min (l.take k).length ((l).length - (Int.toNat k)) : Nat)))) rfl) ?_
  refine d_nil ?_
  have hmk : (l.take k).length = k := by simp; omega
  exact ⟨_, (by omega), (k + min (l.take k).length (l.length - Int.toNat k)), _, vo, _, upds_of _ _ ⟨rfl, (eqI (by omega)), trivial⟩, rfl, E, z10, (by first | exact ho_vo | simpa using ho_vo), (by simp only [List.length_append, List.length_take, List.length_drop]; omega), (by omega), (by omega), (rep_step iv0_3 (by omega))⟩
 simp only [qz1, qz2, qz3, qz4, qz5, qz6, ne_eq, qz7] at c15
 refine W.exit ?_
 refine sQ rfl <| sM vo rfl <| sA vo rfl <| s_nil ?_
 refine W.ret ?_
 exact ⟨_, resE_tmp rfl, ((rep_done iv0_0 iv0_3 (by omega)) ▸ ho_vo.dn (by omega)), E⟩

theorem ready_any {vw vd : Value} {ws : List Work} {ord : List Int} {st : List Bool} (w : World) (hw : Sl w.cell? vw ws) (hd : Sl w.cell? vd ord) (hst : st.length = 30) (hR : rightE ws = 0) (hrg : ∀ x ∈ ord, 0 ≤ x ∧ x < (ws.length : Int)) (hol : ord.length ≤ 30) : Ret Try.prog 99 #[vw, vd, .agg (encB st).toArray] w fun v w' => Sl (frm w' w.heap.size) v (readyL ws ord st) ∧ Ext w w' := by
 refine ret_of_W Try.func99 rfl rfl rfl ?_
 have E := Ext.refl w
 have K1 := KF.refl 0 w
 have hl_hw := hw.len_le
 have hw := hw.par
 have hl_hd := hd.len_le
 have hd := hd.par
 have hn30 := right_len hR
 refine sQ rfl ?_
 refine s_box (v := .agg (encB st).toArray) (cs := encB st) rfl rfl ?_
 intro b2 w3 Nb2
 have o_K1_b2 := Nat.le_trans K1.size Nb2.ge
 have o_b2 := Nat.le_trans E.size Nb2.ge
 replace E := E.trans Nb2.ext
 replace K1 := K1.ext Nb2.ext
 have h_b2 := Nb2.same
 clear Nb2
 refine sA (.slice none 0 0) rfl <| s_nil <| sQ rfl ?_
 refine s_bsl (α := Int) T34 w3.heap.size [I (-1)] [(-1 : Int)] rfl (.cons rfl (Flat.rep_enc _ _) <| .nil) (Nat.le_refl _) rfl (by decide) (by decide) ?_
 intro u4 w5 hs6 x7 nn_u4
 replace E := E.trans x7
 replace K1 := K1.ext x7
 replace h_b2 := x7.get h_b2
 clear x7
 have K8 := KF.refl w3.heap.size w5
 refine sM vw rfl <| s_val (x_lenS T22.und rfl (hw.to K1)) ?_
 refine s_call cf86 [u4, I ws.length] rfl (repeat_int _ (hs6.to K8) (by omega) (by omega)) ?_
 rintro v11 w9 ⟨ho12, x10⟩
 have n_v11_b2 := ho12.ne' (heap_lt h_b2)
 have z13 := Nat.le_refl w5.heap.size
 have B_v11 := E.size
 have B_v11_K1 := K1.size
 have B_v11_K8 := K8.size
 replace E := E.trans x10
 replace z13 := Nat.le_trans z13 x10.size
 replace K1 := K1.ext x10
 replace K8 := K8.ext x10
 replace h_b2 := x10.get h_b2
 clear x10
 refine sA v11 rfl <| s_nil <| W.seq <| sQ rfl <| sM vd rfl <| s_val (x_lenS T34.und rfl (hd.to K1)) <| sM (I 0) rfl <| s_nil <| W.block ?_
 refine W.loop (fun m σ W => ∃ (k : Nat) (vo : Value) (ρ : Env), σ = upds ρ [(0, vw), (5, Pz b2), (7, vo), (17, vd), (18, I ord.length), (19, I k)] ∧ m = ord.length - k ∧ Ext w W ∧ KF 0 w W ∧ W.heap[b2]? = some (.cells (encB st).toArray 141 (0, 0)) ∧ w5.heap.size ≤ W.heap.size ∧ OwnF w5.heap.size 3 W vo (readyF ws st (ord.take k) (List.replicate ws.length (-1))) ∧ vo.ownBlock ≠ some b2 ∧ k ≤ ord.length) ?_ ?_
 ·exact ⟨_, 0, v11, _, upds_of _ _ ⟨rfl, rfl, rfl, rfl, rfl, (eqI (by omega)), trivial⟩, rfl, E, K1, h_b2, z13, ho12, n_v11_b2, (Nat.zero_le _)⟩
 rintro m σ w14 ⟨k, vo, ρ, rfl, rfl, E, K1, h_b2, z13, ho_vo, n_vo_b2, iv0_0⟩
 have hbd := readyF_bound hR st (List.replicate ws.length (-1)) ord hrg (fun y hy => by have := List.eq_of_mem_replicate hy; omega) k iv0_0
 have hrl : (readyF ws st (ord.take k) (List.replicate ws.length (-1))).length = ws.length := by rw [readyF_len]; simp
 refine sQ rfl <| sC k ord.length (decide ((k : Int) < ord.length)) rfl rfl rfl <| s_nil <| W.seq ?_
 refine W.cond (decide ((k : Int) < ord.length)) rfl (fun c15 => ?_) (fun c15 => ?_)
 ·simp only [qz1, qz2, qz3, qz4, qz5, qz6, ne_eq, qz7] at c15
  have hik := hrg _ (getD_memN ord c15 0)
  have hof := right_of hR (i := (ord.getD k 0).toNat) (by omega)
  refine W.skip <| W.seq <| W.block <| sQ rfl <| s_val (x_ix (a := vd) (b := I k) (v := vat vd 1 (Int.toNat k)) rfl rfl (Sl.ix (α := Int) T34.und T34.size (hd.to K1) (by omega) (by omega))) <| s_val (x_ld (p := vat vd 1 (Int.toNat k)) (v := I (ord.getD k 0)) rfl (ld_sc Sc3 (At.to (Int_at hd (i := k) (by omega) (by omega)) K1))) <| sA (I (ord.getD k 0)) rfl <| s_nil <| W.seq <| sQ rfl ?_
  refine sM (I (ord.getD k 0)) rfl <| s_val (x_ix (a := Pz b2) (b := I (ord.getD k 0)) (v := .pointer (some ⟨b2, 0 + Int.toNat (ord.getD k 0), none⟩)) rfl rfl (run_indexArr Try.underlying141 Sz4 (by omega) (by omega))) <| s_val (x_ld (p := .pointer (some ⟨b2, 0 + Int.toNat (ord.getD k 0), none⟩)) (v := B (st.getD (Int.toNat (ord.getD k 0)) false)) rfl (ldArr Sc4 h_b2 (by omega) (by omega))) <| s_val (x_not (b := st.getD (Int.toNat (ord.getD k 0)) false) rfl) <| s_nil ?_
  refine W.cond (!(st.getD (Int.toNat (ord.getD k 0)) false)) rfl (fun c16 => ?_) (fun c16 => ?_)
  ·skip
   refine W.exit ?_
   refine W.region rfl <| sR k 1 (k + 1) rfl rfl rfl (by omega) <| sM (I (k + 1)) rfl <| s_nil ?_
   exact ⟨_, (by omega), k+1, vo, _, upds_of _ _ ⟨rfl, rfl, rfl, rfl, rfl, (eqI (by omega)), trivial⟩, rfl, E, K1, h_b2, z13, (by rw [readyF_next ws st ord _ c15]; unfold readyStep; rw [if_neg (by simpa using c16)]; exact ho_vo), n_vo_b2, (by omega)⟩
  skip
  refine W.skip <| sQ rfl <| sA (I 0) rfl <| s_nil <| W.seq <| sQ rfl <| sM vw rfl <| sM (I (ord.getD k 0)) rfl <| s_val (x_ix (a := vw) (b := I (ord.getD k 0)) (v := vat vw 3 (Int.toNat (ord.getD k 0))) rfl rfl (Sl.ix (α := Work) T22.und T22.size (hw.to K1) (by omega) (by omega))) <| s_val (x_fa (a := vat vw 3 (Int.toNat (ord.getD k 0))) (v := fat (vat vw 3 (Int.toNat (ord.getD k 0))) 0) rfl (fa_pl Fd60_0 Sz34 (Sl.pl (i := ord.getD k 0) hw (by omega) (by omega)))) ?_
  obtain ⟨u17, ha_u17, hs18⟩ := Work_at0 hw (i := ord.getD k 0) (by omega) (by omega)
  replace hs18 : Sl _ u17 (ws.getD (Int.toNat (ord.getD k 0)) default).of := hs18
  have hl_hs18 := hs18.len_le
  refine s_val (x_ld (p := fat (vat vw 3 (Int.toNat (ord.getD k 0))) 0) (v := u17) rfl (ld_sc Sc34 (At.to ha_u17 K1))) <| s_val (x_lenS T34.und rfl (hs18.to K1)) <| sM (I 0) rfl <| s_nil <| W.block ?_
  refine W.loop (fun m σ W => ∃ (j : Nat) (ρ : Env), σ = upds ρ [(0, vw), (5, Pz b2), (7, vo), (9, I (ord.getD k 0)), (10, I (begF (readyF ws st (ord.take k) (List.replicate ws.length (-1))) ((ws.getD (ord.getD k 0).toNat default).of.take j))), (17, vd), (18, I ord.length), (19, I k), (31, u17), (32, I (((ws.getD (Int.toNat (ord.getD k 0)) default).of).length)), (33, I j)] ∧ m = (ws.getD (ord.getD k 0).toNat default).of.length - j ∧ Ext w W ∧ KF 0 w W ∧ W.heap[b2]? = some (.cells (encB st).toArray 141 (0, 0)) ∧ w5.heap.size ≤ W.heap.size ∧ OwnF w5.heap.size 3 W vo (readyF ws st (ord.take k) (List.replicate ws.length (-1))) ∧ j ≤ (ws.getD (ord.getD k 0).toNat default).of.length) ?_ ?_
  ·exact ⟨_, 0, _, upds_of _ _ ⟨rfl, rfl, rfl, rfl, rfl, rfl, rfl, rfl, rfl, rfl, (eqI (by omega)), trivial⟩, rfl, E, K1, h_b2, z13, ho_vo, (Nat.zero_le _)⟩
  rintro m σ w19 ⟨j, ρ, rfl, rfl, E, K1, h_b2, z13, ho_vo, iv1_0⟩
  refine sQ rfl <| sC j (((ws.getD (Int.toNat (ord.getD k 0)) default).of).length) (decide ((j : Int) < (((ws.getD (Int.toNat (ord.getD k 0)) default).of).length))) rfl rfl rfl <| s_nil <| W.seq ?_
  refine W.cond (decide ((j : Int) < (((ws.getD (Int.toNat (ord.getD k 0)) default).of).length))) rfl (fun c20 => ?_) (fun c20 => ?_)
  ·simp only [qz1, qz2, qz3, qz4, qz5, qz6, ne_eq, qz7] at c20
   have hj := hof _ (getD_memN _ c20 0)
   refine W.skip <| W.seq <| W.block <| sQ rfl <| s_val (x_ix (a := u17) (b := I j) (v := vat u17 1 (Int.toNat j)) rfl rfl (Sl.ix (α := Int) T34.und T34.size (hs18.to K1) (by omega) (by omega))) <| s_val (x_ld (p := vat u17 1 (Int.toNat j)) (v := I (((ws.getD (Int.toNat (ord.getD k 0)) default).of).getD j 0)) rfl (ld_sc Sc3 (At.to (Int_at hs18 (i := j) (by omega) (by omega)) K1))) <| sA (I (((ws.getD (Int.toNat (ord.getD k 0)) default).of).getD j 0)) rfl <| s_nil <| W.region rfl <| sM (I (begF (readyF ws st (ord.take k) (List.replicate ws.length (-1))) ((ws.getD (ord.getD k 0).toNat default).of.take j))) rfl <| sM vo rfl ?_
   refine sM (I (((ws.getD (Int.toNat (ord.getD k 0)) default).of).getD j 0)) rfl <| s_val (x_ix (a := vo) (b := I (((ws.getD (Int.toNat (ord.getD k 0)) default).of).getD j 0)) (v := vat vo 1 (Int.toNat (((ws.getD (Int.toNat (ord.getD k 0)) default).of).getD j 0))) rfl rfl (Sl.ix (α := Int) T34.und T34.size (ho_vo.sl.mono (frm_le _ _)) (by omega) (by omega))) <| s_val (x_ld (p := vat vo 1 (Int.toNat (((ws.getD (Int.toNat (ord.getD k 0)) default).of).getD j 0))) (v := I ((readyF ws st (ord.take k) (List.replicate ws.length (-1))).getD (Int.toNat (((ws.getD (Int.toNat (ord.getD k 0)) default).of).getD j 0)) 0)) rfl (ld_sc Sc3 (At.up (Int_at ho_vo.sl (i := ((ws.getD (Int.toNat (ord.getD k 0)) default).of).getD j 0) (by omega) (by omega))))) <| s_val (x_max (kd := .i64) (a := begF (readyF ws st (ord.take k) (List.replicate ws.length (-1))) ((ws.getD (ord.getD k 0).toNat default).of.take j)) (b := (readyF ws st (ord.take k) (List.replicate ws.length (-1))).getD (Int.toNat (((ws.getD (Int.toNat (ord.getD k 0)) default).of).getD j 0)) 0) rfl rfl) <| sA (I (max (begF (readyF ws st (ord.take k) (List.replicate ws.length (-1))) ((ws.getD (ord.getD k 0).toNat default).of.take j)) ((readyF ws st (ord.take k) (List.replicate ws.length (-1))).getD (Int.toNat (((ws.getD (Int.toNat (ord.getD k 0)) default).of).getD j 0)) 0))) rfl <| s_nil <| W.region rfl <| sR j 1 (j + 1) rfl rfl rfl (by omega) <| sM (I (j + 1)) rfl <| s_nil ?_
   exact ⟨_, (by omega), j+1, _, upds_of _ _ ⟨rfl, rfl, rfl, rfl, (eqI (begF_next _ _ c20).symm), rfl, rfl, rfl, rfl, rfl, (eqI (by omega)), trivial⟩, rfl, E, K1, h_b2, z13, ho_vo, (by omega)⟩
  simp only [qz1, qz2, qz3, qz4, qz5, qz6, ne_eq, qz7] at c20
  have hbg := begF_le (readyF ws st (ord.take k) (List.replicate ws.length (-1))) ((ws.getD (ord.getD k 0).toNat default).of.take j) (10000 * (k : Int)) (by omega) (fun y hy => (hbd y hy).2)
  have hmn := right_nums hR (i := (ord.getD k 0).toNat) (by omega)
  refine W.exit ?_
  refine W.region rfl <| sM vo rfl <| sM (I (ord.getD k 0)) rfl <| sM (I (begF (readyF ws st (ord.take k) (List.replicate ws.length (-1))) ((ws.getD (ord.getD k 0).toNat default).of.take j))) rfl <| sM vw rfl <| sM (I (ord.getD k 0)) rfl <| s_val (x_ix (a := vw) (b := I (ord.getD k 0)) (v := vat vw 3 (Int.toNat (ord.getD k 0))) rfl rfl (Sl.ix (α := Work) T22.und T22.size (hw.to K1) (by omega) (by omega))) <| s_val (x_fa (a := vat vw 3 (Int.toNat (ord.getD k 0))) (v := fat (vat vw 3 (Int.toNat (ord.getD k 0))) 2) rfl (fa_pl Fd60_2 Sz3 (Sl.pl (i := ord.getD k 0) hw (by omega) (by omega)))) <| s_val (x_ld (p := fat (vat vw 3 (Int.toNat (ord.getD k 0))) 2) (v := I ((ws.getD (Int.toNat (ord.getD k 0)) default).minutes)) rfl (ld_sc Sc3 (At.to (Work_at2 hw (i := ord.getD k 0) (by omega) (by omega)) K1))) <| sR (begF (readyF ws st (ord.take k) (List.replicate ws.length (-1))) ((ws.getD (ord.getD k 0).toNat default).of.take j)) ((ws.getD (Int.toNat (ord.getD k 0)) default).minutes) ((begF (readyF ws st (ord.take k) (List.replicate ws.length (-1))) ((ws.getD (ord.getD k 0).toNat default).of.take j)) + ((ws.getD (Int.toNat (ord.getD k 0)) default).minutes)) rfl rfl rfl (by omega) <| s_val (x_ix (a := vo) (b := I (ord.getD k 0)) (v := vat vo 1 (Int.toNat (ord.getD k 0))) rfl rfl (Sl.ix (α := Int) T34.und T34.size (ho_vo.sl.mono (frm_le _ _)) (by omega) (by omega))) ?_
  refine s_ost ho_vo Sz3 (i := ord.getD k 0) (by omega) (by omega) ((begF (readyF ws st (ord.take k) (List.replicate ws.length (-1))) ((ws.getD (ord.getD k 0).toNat default).of.take j)) + ((ws.getD (Int.toNat (ord.getD k 0)) default).minutes) : Int) (val := I ((begF (readyF ws st (ord.take k) (List.replicate ws.length (-1))) ((ws.getD (ord.getD k 0).toNat default).of.take j)) + ((ws.getD (Int.toNat (ord.getD k 0)) default).minutes))) rfl rfl rfl ?_
  intro w23 ho2 g24
  replace E := E.grow g24 (by omega)
  replace z13 := Nat.le_trans z13 g24.size
  replace K1 := K1.grow g24 (by omega)
  replace h_b2 := g24.get n_vo_b2 h_b2
  replace ho_vo := ho2
  clear g24
  refine s_nil <| W.region rfl <| sR k 1 (k + 1) rfl rfl rfl (by omega) <| sM (I (k + 1)) rfl <| s_nil ?_
  exact ⟨_, (by omega), k+1, vo, _, upds_of _ _ ⟨rfl, rfl, rfl, rfl, rfl, (eqI (by omega)), trivial⟩, rfl, E, K1, h_b2, z13, (by rw [readyF_next ws st ord _ c15]; unfold readyStep; rw [if_pos (by simpa using c16), ← begF_done _ _ c20]; exact ho_vo), n_vo_b2, (by omega)⟩
 simp only [qz1, qz2, qz3, qz4, qz5, qz6, ne_eq, qz7] at c15
 refine W.exit ?_
 refine sQ rfl <| sM vo rfl <| sA vo rfl <| s_nil ?_
 refine W.ret ?_
 exact ⟨_, resE_tmp rfl, (by have hq := (ho_vo.dn (B' := w.heap.size) (by omega)).sl; rw [readyF_done _ _ _ _ c15] at hq; exact hq), E⟩

theorem Stale_any {vw vr : Value} {ws : List Work} {rev : List Int} (w : World) (hw : Sl w.cell? vw ws) (hr : Sl w.cell? vr rev) : Ret Try.prog 32 #[vw, vr] w fun v w' => ∃ u, v = .tuple #[u, I (askedE ws rev)] ∧ Sl (frm w' w.heap.size) u (staleR ws rev) ∧ Ext w w' := by
 refine ret_of_W Try.func32 rfl rfl rfl ?_
 have E := Ext.refl w
 have K1 := KF.refl 0 w
 have hl_hw := hw.len_le
 have hw := hw.par
 have hl_hr := hr.len_le
 have hr := hr.par
 refine sQ rfl <| sA (.slice none 0 0) rfl <| sA (I 0) rfl <| s_nil <| sQ rfl <| sM vw rfl <| sM vr rfl ?_
 refine s_call cf92 [vw, vr] rfl (asked_any _ (hw.to K1) (hr.to K1)) ?_
 rintro _ w2 (⟨h4, rfl, x5⟩ | ⟨h6, b7, so8, rfl, n9, hs10⟩)
 ·replace E := E.trans x5
  replace K1 := K1.ext x5
  refine sM (.tuple #[.pointer none, .slice none 0 0, .agg (encB (List.replicate 30 false)).toArray, I (askedE ws rev)]) rfl <| sX [.pointer none, .slice none 0 0, .agg (encB (List.replicate 30 false)).toArray, I (askedE ws rev)] (.pointer none) rfl rfl <| sX [.pointer none, .slice none 0 0, .agg (encB (List.replicate 30 false)).toArray, I (askedE ws rev)] (.slice none 0 0) rfl rfl <| sX [.pointer none, .slice none 0 0, .agg (encB (List.replicate 30 false)).toArray, I (askedE ws rev)] (.agg (encB (List.replicate 30 false)).toArray) rfl rfl <| sX [.pointer none, .slice none 0 0, .agg (encB (List.replicate 30 false)).toArray, I (askedE ws rev)] (I (askedE ws rev)) rfl rfl ?_
  refine s_alloc (cs := encB (List.replicate 30 false)) Al141 rfl ?_
  intro b11 w12 Nb11
  have o_K1_b11 := Nat.le_trans K1.size Nb11.ge
  have o_b11 := Nat.le_trans E.size Nb11.ge
  replace E := E.trans Nb11.ext
  replace K1 := K1.ext Nb11.ext
  have h_b11 := Nb11.same
  clear Nb11
  have hl_b11 : (List.replicate 30 false).length = 30 := by simp
  refine sA (.pointer none) rfl <| sA (.slice none 0 0) rfl ?_
  refine s_stArrA (b := b11) (l := List.replicate 30 false) (l' := List.replicate 30 false) rfl rfl Sz141 h_b11 hl_b11 (List.length_replicate) ?_
  intro w13 p14
  replace E := E.put (by omega) p14
  replace K1 := K1.put p14 (by omega)
  replace h_b11 := p14.same
  clear p14
  refine sA (I (askedE ws rev)) rfl <| s_nil <| sQ rfl <| sA (.slice none 0 0) rfl <| s_nil <| W.seq <| sQ rfl <| sM vw rfl <| s_val (x_lenS T22.und rfl (hw.to K1)) <| sM (I 0) rfl ?_
  refine s_nil <| W.block ?_
  refine W.loop (fun m σ W => ∃ (i : Nat) (ρ : Env), σ = upds ρ [(8, Pz b11), (9, I (askedE ws rev)), (10, .slice none 0 0), (21, I ws.length), (22, I i)] ∧ m = ws.length - i ∧ Ext w W ∧ W.heap[b11]? = some (.cells (encB (List.replicate 30 false)).toArray 141 (0, 0)) ∧ i ≤ ws.length) ?_ ?_
  ·exact ⟨_, 0, _, upds_of _ _ ⟨rfl, rfl, rfl, rfl, (eqI (by omega)), trivial⟩, rfl, E, h_b11, (Nat.zero_le _)⟩
  rintro m σ w15 ⟨i, ρ, rfl, rfl, E, h_b11, iv0_0⟩
  refine sQ rfl <| sC i ws.length (decide ((i : Int) < ws.length)) rfl rfl rfl <| s_nil <| W.seq ?_
  refine W.cond (decide ((i : Int) < ws.length)) rfl (fun c16 => ?_) (fun c16 => ?_)
  ·simp only [qz1, qz2, qz3, qz4, qz5, qz6, ne_eq, qz7] at c16
   refine W.skip <| W.seq <| W.block <| sQ rfl <| sM (I i) rfl <| sA (I i) rfl <| s_nil <| sQ rfl <| sM (I (askedE ws rev)) rfl <| sC (askedE ws rev) 0 ((askedE ws rev : Int) == 0) rfl rfl rfl ?_
   refine sM (B ((askedE ws rev : Int) == 0)) rfl <| g_val ((askedE ws rev : Int) == 0) (gy_t rfl) (fun hg => x_mv (v := I i) rfl) <| g_val ((askedE ws rev : Int) == 0) (gy_t rfl) (fun hg => x_ix (a := Pz b11) (b := I i) (v := .pointer (some ⟨b11, 0 + Int.toNat i, none⟩)) rfl (gd_of (c := (askedE ws rev : Int) == 0) hg (I i)) (run_indexArr Try.underlying141 Sz4 (by first | omega | (simp at hg; omega)) (by first | omega | (simp at hg; omega)))) <| g_val ((askedE ws rev : Int) == 0) (gy_t rfl) (fun hg => x_ld (p := .pointer (some ⟨b11, 0 + Int.toNat i, none⟩)) (v := B ((List.replicate 30 false).getD i false)) (gd_of (c := (askedE ws rev : Int) == 0) hg (.pointer (some ⟨b11, 0 + Int.toNat i, none⟩))) (ldArr Sc4 h_b11 (by first | omega | (simp at hg; omega) | (simp [inB] at hg; omega)) (by first | omega | (simp at hg; omega) | (simp [inB] at hg; omega)))) <| s_val (x_pand (b := (askedE ws rev : Int) == 0) (r := (List.replicate 30 false).getD i false) rfl (fun hb => gd_of (c := (askedE ws rev : Int) == 0) (by simp_all) (B ((List.replicate 30 false).getD i false))) rfl) <| s_nil ?_
   refine W.cond ((((askedE ws rev : Int) == 0) && ((List.replicate 30 false).getD i false))) rfl (fun c17 => ?_) (fun c17 => ?_)
   ·skip
    simp [h4] at c17
   skip
   refine W.skip <| W.region rfl <| sR i 1 (i + 1) rfl rfl rfl (by omega) <| sM (I (i + 1)) rfl <| s_nil ?_
   exact ⟨_, (by omega), i+1, _, upds_of _ _ ⟨rfl, rfl, rfl, rfl, (eqI (by omega)), trivial⟩, rfl, E, h_b11, (by omega)⟩
  simp only [qz1, qz2, qz3, qz4, qz5, qz6, ne_eq, qz7] at c16
  refine W.exit ?_
  refine sQ rfl <| sM (.slice none 0 0) rfl <| sM (I (askedE ws rev)) rfl <| sA (.slice none 0 0) rfl <| sA (I (askedE ws rev)) rfl <| s_nil ?_
  refine W.ret ?_
  exact ⟨_, resE_tmp2 rfl, .slice none 0 0, rfl, (by rw [staleR_no h4]; exact Sl.nil _), E⟩
 have hO := (asked_ok h6).1
 have hR := opened_right hO
 have hn30 := (right_len hR).2
 have hn1 := (right_len hR).1
 have hsl := staleL_len ws rev
 have sz_w2 := E.size
 have o_K1_b7 := Nat.le_trans K1.size n9.ge
 have o_b7 := Nat.le_trans E.size n9.ge
 replace E := E.trans n9.ext
 replace K1 := K1.ext n9.ext
 have h_b7 := n9.same
 clear n9
 have hl_hs10 := hs10.len_le
 have K18 := KF.refl w.heap.size w2
 refine sM (.tuple #[Pz b7, so8, .agg (encB (staleL ws rev)).toArray, I 0]) rfl <| sX [Pz b7, so8, .agg (encB (staleL ws rev)).toArray, I 0] (Pz b7) rfl rfl <| sX [Pz b7, so8, .agg (encB (staleL ws rev)).toArray, I 0] so8 rfl rfl <| sX [Pz b7, so8, .agg (encB (staleL ws rev)).toArray, I 0] (.agg (encB (staleL ws rev)).toArray) rfl rfl <| sX [Pz b7, so8, .agg (encB (staleL ws rev)).toArray, I 0] (I 0) rfl rfl ?_
 refine s_alloc (cs := encB (List.replicate 30 false)) Al141 rfl ?_
 intro b19 w20 Nb19
 have o_K1_b19 := Nat.le_trans K1.size Nb19.ge
 have o_K18_b19 := Nat.le_trans K18.size Nb19.ge
 have o_b19 := Nat.le_trans E.size Nb19.ge
 have o_b7_b19 := Nat.lt_of_lt_of_le (heap_lt h_b7) Nb19.ge
 replace E := E.trans Nb19.ext
 replace K1 := K1.ext Nb19.ext
 replace K18 := K18.ext Nb19.ext
 replace h_b7 := Nb19.ext.get h_b7
 have h_b19 := Nb19.same
 clear Nb19
 have hl_b19 : (List.replicate 30 false).length = 30 := by simp
 refine sA (Pz b7) rfl <| sA so8 rfl ?_
 refine s_stArrA (b := b19) (l := List.replicate 30 false) (l' := staleL ws rev) rfl rfl Sz141 h_b19 hl_b19 (staleL_len ws rev) ?_
 intro w21 p22
 replace E := E.put (by omega) p22
 replace K1 := K1.put p22 (by omega)
 replace K18 := K18.put p22 (by omega)
 replace h_b7 := p22.get (by omega) h_b7
 replace h_b19 := p22.same
 clear p22
 refine sA (I 0) rfl <| s_nil <| sQ rfl <| sA (.slice none 0 0) rfl <| s_nil <| W.seq <| sQ rfl <| sM vw rfl <| s_val (x_lenS T22.und rfl (hw.to K1)) <| sM (I 0) rfl ?_
 refine s_nil <| W.block ?_
 have z23 := Nat.le_refl w21.heap.size
 have B_vo := E.size
 have B_vo_K1 := K1.size
 have B_vo_K18 := K18.size
 have B_vo_b7 := heap_lt h_b7
 have B_vo_b19 := heap_lt h_b19
 refine W.loop (fun m σ W => ∃ (i : Nat) (vo : Value) (ρ : Env), σ = upds ρ [(8, Pz b19), (9, I 0), (10, vo), (21, I ws.length), (22, I i)] ∧ m = ws.length - i ∧ Ext w W ∧ KF 0 w W ∧ W.heap[b7]? = some (.cells #[vw] 187 (0, 0)) ∧ W.heap[b19]? = some (.cells (encB (staleL ws rev)).toArray 141 (0, 0)) ∧ w21.heap.size ≤ W.heap.size ∧ OwnF w21.heap.size 3 W vo (stT ws rev i) ∧ vo.ownBlock ≠ some b7 ∧ vo.ownBlock ≠ some b19 ∧ i ≤ ws.length) ?_ ?_
 ·exact ⟨_, 0, .slice none 0 0, _, upds_of _ _ ⟨rfl, rfl, rfl, rfl, (eqI (by omega)), trivial⟩, rfl, E, K1, h_b7, h_b19, z23, (OwnF.nil _ _ _), by simp [Value.ownBlock], by simp [Value.ownBlock], (Nat.zero_le _)⟩
 rintro m σ w24 ⟨i, vo, ρ, rfl, rfl, E, K1, h_b7, h_b19, z23, ho_vo, n_vo_b7, n_vo_b19, iv1_0⟩
 have hsl2 := stT_len ws rev i
 refine sQ rfl <| sC i ws.length (decide ((i : Int) < ws.length)) rfl rfl rfl <| s_nil <| W.seq ?_
 refine W.cond (decide ((i : Int) < ws.length)) rfl (fun c25 => ?_) (fun c25 => ?_)
 ·simp only [qz1, qz2, qz3, qz4, qz5, qz6, ne_eq, qz7] at c25
  refine W.skip <| W.seq <| W.block <| sQ rfl <| sM (I i) rfl <| sA (I i) rfl <| s_nil <| sQ rfl <| sM (I 0) rfl <| sC 0 0 ((0 : Int) == 0) rfl rfl rfl ?_
  refine sM (B ((0 : Int) == 0)) rfl <| g_val ((0 : Int) == 0) (gy_t rfl) (fun hg => x_mv (v := I i) rfl) <| g_val ((0 : Int) == 0) (gy_t rfl) (fun hg => x_ix (a := Pz b19) (b := I i) (v := .pointer (some ⟨b19, 0 + Int.toNat i, none⟩)) rfl (gd_of (c := (0 : Int) == 0) hg (I i)) (run_indexArr Try.underlying141 Sz4 (by first | omega | (simp at hg; omega)) (by first | omega | (simp at hg; omega)))) <| g_val ((0 : Int) == 0) (gy_t rfl) (fun hg => x_ld (p := .pointer (some ⟨b19, 0 + Int.toNat i, none⟩)) (v := B ((staleL ws rev).getD i false)) (gd_of (c := (0 : Int) == 0) hg (.pointer (some ⟨b19, 0 + Int.toNat i, none⟩))) (ldArr Sc4 h_b19 (by first | omega | (simp at hg; omega) | (simp [inB] at hg; omega)) (by first | omega | (simp at hg; omega) | (simp [inB] at hg; omega)))) <| s_val (x_pand (b := (0 : Int) == 0) (r := (staleL ws rev).getD i false) rfl (fun hb => gd_of (c := (0 : Int) == 0) (by simp_all) (B ((staleL ws rev).getD i false))) rfl) <| s_nil ?_
  refine W.cond ((((0 : Int) == 0) && ((staleL ws rev).getD i false))) rfl (fun c26 => ?_) (fun c26 => ?_)
  ·skip
   refine W.region rfl <| sM vo rfl <| sM (I i) rfl ?_
   refine s_bsl (α := Int) T34 w24.heap.size [I i] [(i : Int)] rfl (.cons rfl (Flat.rep_enc _ _) <| .nil) (Nat.le_refl _) rfl (by decide) (by decide) ?_
   intro u27 w28 hs29 x30 nn_u27
   replace E := E.trans x30
   replace z23 := Nat.le_trans z23 x30.size
   replace K1 := K1.ext x30
   replace h_b7 := x30.get h_b7
   replace h_b19 := x30.get h_b19
   replace ho_vo := ho_vo.ext x30
   clear x30
   have K31 := KF.refl w24.heap.size w28
   refine s_app (α := Int) (v := vo) (vy := u27) (l := stT ws rev i) (l2 := [(i : Int)]) T34 rfl rfl ho_vo (hs29.to K31) (Cells.Le.refl _) z23 (by first | omega | (simp only [List.length_append, List.length_cons, List.length_nil, List.length_set]; omega)) (by first | omega | (simp only [List.length_append, List.length_cons, List.length_nil, List.length_set]; omega)) ?_
   intro v32 w33 ho34 g35 ne36
   have n_v32_b19 := ne36 b19 (heap_lt h_b19) n_vo_b19
   have n_v32_b7 := ne36 b7 (heap_lt h_b7) n_vo_b7
   replace E := E.grow g35 (by omega)
   replace z23 := Nat.le_trans z23 g35.size
   replace K1 := K1.grow g35 (by omega)
   replace h_b7 := g35.get n_vo_b7 h_b7
   replace h_b19 := g35.get n_vo_b19 h_b19
   clear g35 ne36
   refine sA v32 rfl <| s_nil <| W.region rfl <| sR i 1 (i + 1) rfl rfl rfl (by omega) <| sM (I (i + 1)) rfl <| s_nil ?_
   exact ⟨_, (by omega), i+1, v32, _, upds_of _ _ ⟨rfl, rfl, rfl, rfl, (eqI (by omega)), trivial⟩, rfl, E, K1, h_b7, h_b19, z23, (by rw [stT_next, if_pos (by simpa using c26)]; exact ho34), n_v32_b7, n_v32_b19, (by omega)⟩
  skip
  refine W.skip <| W.region rfl <| sR i 1 (i + 1) rfl rfl rfl (by omega) <| sM (I (i + 1)) rfl <| s_nil ?_
  exact ⟨_, (by omega), i+1, vo, _, upds_of _ _ ⟨rfl, rfl, rfl, rfl, (eqI (by omega)), trivial⟩, rfl, E, K1, h_b7, h_b19, z23, (by rw [stT_next, if_neg (by simpa using c26)]; exact ho_vo), n_vo_b7, n_vo_b19, (by omega)⟩
 simp only [qz1, qz2, qz3, qz4, qz5, qz6, ne_eq, qz7] at c25
 refine W.exit ?_
 refine sQ rfl <| sM vo rfl <| sM (I 0) rfl <| sA vo rfl <| sA (I 0) rfl <| s_nil ?_
 refine W.ret ?_
 exact ⟨_, resE_tmp2 rfl, vo, (by rw [h6]; rfl), (by have hq := (ho_vo.dn (B' := w.heap.size) (by omega)).sl; rw [staleR_ok h6 c25 iv1_0] at hq; exact hq), E⟩

theorem Ready_any {vw vr : Value} {ws : List Work} {rev : List Int} (w : World) (hw : Sl w.cell? vw ws) (hr : Sl w.cell? vr rev) : Ret Try.prog 36 #[vw, vr] w fun v w' => ∃ u, v = .tuple #[u, I (askedE ws rev)] ∧ Sl (frm w' w.heap.size) u (readyR ws rev) ∧ Ext w w' := by
 refine ret_of_W Try.func36 rfl rfl rfl ?_
 have E := Ext.refl w
 have K1 := KF.refl 0 w
 have hl_hw := hw.len_le
 have hw := hw.par
 have hl_hr := hr.len_le
 have hr := hr.par
 refine sQ rfl <| sA (.slice none 0 0) rfl <| sA (I 0) rfl <| s_nil <| sQ rfl <| sM vw rfl <| sM vr rfl ?_
 refine s_call cf92 [vw, vr] rfl (asked_any _ (hw.to K1) (hr.to K1)) ?_
 rintro _ w2 (⟨h4, rfl, x5⟩ | ⟨h6, b7, so8, rfl, n9, hs10⟩)
 ·replace E := E.trans x5
  replace K1 := K1.ext x5
  refine sM (.tuple #[.pointer none, .slice none 0 0, .agg (encB (List.replicate 30 false)).toArray, I (askedE ws rev)]) rfl <| sX [.pointer none, .slice none 0 0, .agg (encB (List.replicate 30 false)).toArray, I (askedE ws rev)] (.pointer none) rfl rfl <| sX [.pointer none, .slice none 0 0, .agg (encB (List.replicate 30 false)).toArray, I (askedE ws rev)] (.slice none 0 0) rfl rfl <| sX [.pointer none, .slice none 0 0, .agg (encB (List.replicate 30 false)).toArray, I (askedE ws rev)] (.agg (encB (List.replicate 30 false)).toArray) rfl rfl <| sX [.pointer none, .slice none 0 0, .agg (encB (List.replicate 30 false)).toArray, I (askedE ws rev)] (I (askedE ws rev)) rfl rfl ?_
  refine s_alloc (cs := encB (List.replicate 30 false)) Al141 rfl ?_
  intro b11 w12 Nb11
  have o_K1_b11 := Nat.le_trans K1.size Nb11.ge
  have o_b11 := Nat.le_trans E.size Nb11.ge
  replace E := E.trans Nb11.ext
  replace K1 := K1.ext Nb11.ext
  have h_b11 := Nb11.same
  clear Nb11
  have hl_b11 : (List.replicate 30 false).length = 30 := by simp
  refine sA (.pointer none) rfl <| sA (.slice none 0 0) rfl ?_
  refine s_stArrA (b := b11) (l := List.replicate 30 false) (l' := List.replicate 30 false) rfl rfl Sz141 h_b11 hl_b11 (List.length_replicate) ?_
  intro w13 p14
  replace E := E.put (by omega) p14
  replace K1 := K1.put p14 (by omega)
  replace h_b11 := p14.same
  clear p14
  refine sA (I (askedE ws rev)) rfl <| s_nil <| W.seq <| sQ rfl <| sM (I (askedE ws rev)) rfl <| sC (askedE ws rev) 0 ((askedE ws rev : Int) != 0) rfl rfl rfl <| s_nil ?_
  refine W.cond ((askedE ws rev : Int) != 0) rfl (fun c15 => ?_) (fun c15 => ?_)
  ·simp only [qz1, qz2, qz3, qz4, qz5, qz6, ne_eq, qz7] at c15
   refine sQ rfl <| sM (I (askedE ws rev)) rfl <| sA (.slice none 0 0) rfl <| sA (I (askedE ws rev)) rfl <| s_nil ?_
   refine W.ret ?_
   exact ⟨_, resE_tmp2 rfl, .slice none 0 0, rfl, (by rw [readyR_no h4]; exact Sl.nil _), E⟩
  simp only [qz1, qz2, qz3, qz4, qz5, qz6, ne_eq, qz7] at c15
  exact absurd c15 h4
 have hO := (asked_ok h6).1
 have hR := opened_right hO
 have hn30 := (right_len hR).2
 have hn1 := (right_len hR).1
 have hsl := staleL_len ws rev
 have sz_w2 := E.size
 have o_K1_b7 := Nat.le_trans K1.size n9.ge
 have o_b7 := Nat.le_trans E.size n9.ge
 replace E := E.trans n9.ext
 replace K1 := K1.ext n9.ext
 have h_b7 := n9.same
 clear n9
 have hl_hs10 := hs10.len_le
 have K16 := KF.refl w.heap.size w2
 refine sM (.tuple #[Pz b7, so8, .agg (encB (staleL ws rev)).toArray, I 0]) rfl <| sX [Pz b7, so8, .agg (encB (staleL ws rev)).toArray, I 0] (Pz b7) rfl rfl <| sX [Pz b7, so8, .agg (encB (staleL ws rev)).toArray, I 0] so8 rfl rfl <| sX [Pz b7, so8, .agg (encB (staleL ws rev)).toArray, I 0] (.agg (encB (staleL ws rev)).toArray) rfl rfl <| sX [Pz b7, so8, .agg (encB (staleL ws rev)).toArray, I 0] (I 0) rfl rfl ?_
 refine s_alloc (cs := encB (List.replicate 30 false)) Al141 rfl ?_
 intro b17 w18 Nb17
 have o_K1_b17 := Nat.le_trans K1.size Nb17.ge
 have o_K16_b17 := Nat.le_trans K16.size Nb17.ge
 have o_b17 := Nat.le_trans E.size Nb17.ge
 have o_b7_b17 := Nat.lt_of_lt_of_le (heap_lt h_b7) Nb17.ge
 replace E := E.trans Nb17.ext
 replace K1 := K1.ext Nb17.ext
 replace K16 := K16.ext Nb17.ext
 replace h_b7 := Nb17.ext.get h_b7
 have h_b17 := Nb17.same
 clear Nb17
 have hl_b17 : (List.replicate 30 false).length = 30 := by simp
 refine sA (Pz b7) rfl <| sA so8 rfl ?_
 refine s_stArrA (b := b17) (l := List.replicate 30 false) (l' := staleL ws rev) rfl rfl Sz141 h_b17 hl_b17 (staleL_len ws rev) ?_
 intro w19 p20
 replace E := E.put (by omega) p20
 replace K1 := K1.put p20 (by omega)
 replace K16 := K16.put p20 (by omega)
 replace h_b7 := p20.get (by omega) h_b7
 replace h_b17 := p20.same
 clear p20
 refine sA (I 0) rfl <| s_nil <| W.seq <| sQ rfl <| sM (I 0) rfl <| sC 0 0 ((0 : Int) != 0) rfl rfl rfl <| s_nil ?_
 refine W.cond ((0 : Int) != 0) rfl (fun c21 => ?_) (fun c21 => ?_)
 ·simp only [qz1, qz2, qz3, qz4, qz5, qz6, ne_eq, qz7] at c21
  exact absurd c21 (by decide)
 simp only [qz1, qz2, qz3, qz4, qz5, qz6, ne_eq, qz7] at c21
 refine W.skip <| sQ rfl <| sM vw rfl <| sM so8 rfl <| s_val (x_ld (p := Pz b17) (v := .agg (encB (staleL ws rev)).toArray) rfl (ldArrA Ag141 Sz141 (staleL_len ws rev) h_b17)) ?_
 refine s_call cf99 [vw, so8, .agg (encB (staleL ws rev)).toArray] rfl (ready_any _ (hw.to K1) (hs10.to K16) (staleL_len ws rev) hR (order_rng _) (by have := order_len ws; omega)) ?_
 have sz_w22 := E.size
 have lt_b7_w22 := heap_lt h_b7
 have lt_b17_w22 := heap_lt h_b17
 rintro u24 w22 ⟨hs25, x23⟩
 replace E := E.trans x23
 replace K1 := K1.ext x23
 replace K16 := K16.ext x23
 replace h_b7 := x23.get h_b7
 replace h_b17 := x23.get h_b17
 clear x23
 have hl_hs25 := hs25.len_le
 have K26 := KF.refl w19.heap.size w22
 refine sA u24 rfl <| sA (I 0) rfl <| s_nil ?_
 refine W.ret ?_
 exact ⟨_, resE_tmp2 rfl, u24, (by rw [h6]; rfl), (by have hq := (hs25.kf K26).mono (frm_mono _ (lo' := w.heap.size) (by omega)); rw [readyR_ok h6] at hq; exact hq), E⟩

end Go.Proofs.Ytndobgodeicloaa
end
section
set_option maxRecDepth 100000
set_option maxHeartbeats 16000000
namespace Go.Proofs.Ytndobgodeicloaa
open Go Go.Nm
theorem max_int {vl : Value} {l : List Int} (w : World) (hl : Sl w.cell? vl l) (h1 : 1 ≤ l.length) : Ret Try.prog 101 #[vl] w fun v w' => v = I (maxT l l.length) ∧ Ext w w' := by
 refine ret_of_W Try.func101 rfl rfl rfl ?_
 have E := Ext.refl w
 have K1 := KF.refl 0 w
 have hl_hl := hl.len_le
 have hl := hl.par
 refine sQ rfl <| sA (I 0) rfl <| s_nil <| W.seq <| sQ rfl <| sM vl rfl <| s_val (x_lenS T34.und rfl (hl.to K1)) <| sC l.length 1 (decide ((l.length : Int) < 1)) rfl rfl rfl <| s_nil ?_
 refine W.cond (decide ((l.length : Int) < 1)) rfl (fun c2 => ?_) (fun c2 => ?_)
 ·simp only [qz1, qz2, qz3, qz4, qz5, qz6, ne_eq, qz7] at c2
  exfalso; omega
 simp only [qz1, qz2, qz3, qz4, qz5, qz6, ne_eq, qz7] at c2
 refine W.skip <| sQ rfl <| sM vl rfl <| s_val (x_ix (a := vl) (b := I 0) (v := vat vl 1 (Int.toNat 0)) rfl rfl (Sl.ix (α := Int) T34.und T34.size (hl.to K1) (by omega) (by omega))) <| s_val (x_ld (p := vat vl 1 (Int.toNat 0)) (v := I (l.getD 0 0)) rfl (ld_sc Sc3 (At.to (Int_at hl (i := 0) (by omega) (by omega)) K1))) <| sA (I (l.getD 0 0)) rfl <| s_nil <| W.seq <| sQ rfl <| sA (I 1) rfl ?_
 refine s_nil <| W.block ?_
 refine W.loop (fun m σ W => ∃ (i : Nat) (ρ : Env), σ = upds ρ [(0, vl), (3, I (maxT l i)), (4, I i)] ∧ m = l.length - i ∧ Ext w W ∧ KF 0 w W ∧ 1 ≤ i ∧ i ≤ l.length) ?_ ?_
 ·exact ⟨_, 1, _, upds_of _ _ ⟨rfl, (eqI (maxT_one h1)), (eqI (by omega)), trivial⟩, rfl, E, K1, (Nat.le_refl _), (by omega)⟩
 rintro m σ w3 ⟨i, ρ, rfl, rfl, E, K1, iv0_0, iv0_1⟩
 refine W.seq <| sQ rfl <| sM (I i) rfl <| sM vl rfl <| s_val (x_lenS T34.und rfl (hl.to K1)) <| sC i l.length (decide ((i : Int) < l.length)) rfl rfl rfl <| s_nil ?_
 refine W.cond (decide ((i : Int) < l.length)) rfl (fun c4 => ?_) (fun c4 => ?_)
 ·simp only [qz1, qz2, qz3, qz4, qz5, qz6, ne_eq, qz7] at c4
  refine W.skip <| W.seq <| W.block <| W.region rfl <| sM (I (maxT l i)) rfl <| sM vl rfl <| sM (I i) rfl <| s_val (x_ix (a := vl) (b := I i) (v := vat vl 1 (Int.toNat i)) rfl rfl (Sl.ix (α := Int) T34.und T34.size (hl.to K1) (by omega) (by omega))) <| s_val (x_ld (p := vat vl 1 (Int.toNat i)) (v := I (l.getD i 0)) rfl (ld_sc Sc3 (At.to (Int_at hl (i := i) (by omega) (by omega)) K1))) <| s_val (x_max (kd := .i64) (a := maxT l i) (b := l.getD i 0) rfl rfl) <| sA (I (max (maxT l i) (l.getD i 0))) rfl <| s_nil ?_
  refine W.region rfl <| sM (I i) rfl <| sR i 1 (i + 1) rfl rfl rfl (by omega) <| sA (I (i + 1)) rfl <| s_nil ?_
  exact ⟨_, (by omega), i+1, _, upds_of _ _ ⟨rfl, (eqI (maxT_next l c4).symm), (eqI (by omega)), trivial⟩, rfl, E, K1, (by omega), (by omega)⟩
 simp only [qz1, qz2, qz3, qz4, qz5, qz6, ne_eq, qz7] at c4
 refine W.exit ?_
 refine sQ rfl <| sM (I (maxT l i)) rfl <| sA (I (maxT l i)) rfl <| s_nil ?_
 refine W.ret ?_
 exact ⟨_, resE_tmp rfl, (eqI (maxT_done l c4)), E⟩

theorem longest1 {b1 b2 b3 : Nat} {va vw : Value} {a : List Int} {ws : List Work} (x i : Int) (w : World) (h_b1 : w.heap[b1]? = some (.cells #[va] 34 (0, 0))) (h_b2 : w.heap[b2]? = some (.cells #[I i] 3 (0, 0))) (h_b3 : w.heap[b3]? = some (.cells #[vw] 22 (0, 0))) (ha : Sl w.cell? va a) (hw : Sl w.cell? vw ws) (h0 : 0 ≤ x) (h1 : x < a.length) (hi0 : 0 ≤ i) (hi1 : i < a.length) (hi2 : i < ws.length) (hb : -1000000 ≤ a.getD (Int.toNat i) 0 - (ws.getD (Int.toNat i) default).minutes ∧ a.getD (Int.toNat i) 0 - (ws.getD (Int.toNat i) default).minutes ≤ 1000000) : Ret Try.prog 103 #[I x, Pz b1, Pz b2, Pz b3] w fun v w' => v = B (a.getD (Int.toNat x) 0 == a.getD (Int.toNat i) 0 - (ws.getD (Int.toNat i) default).minutes) ∧ Ext w w' := by
 refine ret_of_W Try.func103 rfl rfl rfl ?_
 have E := Ext.refl w
 have K1 := KF.refl 0 w
 have hl_ha := ha.len_le
 have ha := ha.par
 have hl_hw := hw.len_le
 have hw := hw.par
 refine sQ rfl <| sA (B false) rfl <| s_nil <| W.seq ?_
 refine W.draw (fun W => Ext w W ∧ KF 0 w W ∧ W.heap[b1]? = some (.cells #[va] 34 (0, 0)) ∧ W.heap[b2]? = some (.cells #[I i] 3 (0, 0)) ∧ W.heap[b3]? = some (.cells #[vw] 22 (0, 0))) [(0, true), (1, true), (2, true), (3, true), (4, true), (5, true), (6, true), (7, true), (8, true), (9, true), (10, true), (11, true), (12, true), (13, true), (14, true), (15, true)] mixed (by decide +kernel) rfl ?_
 intro w2 x3
 replace E := E.trans x3
 replace K1 := K1.ext x3
 replace h_b1 := x3.get h_b1
 replace h_b2 := x3.get h_b2
 replace h_b3 := x3.get h_b3
 clear x3
 refine ⟨⟨E, K1, h_b1, h_b2, h_b3⟩, ?_⟩
 refine d_q rfl (fun w' hC => by obtain ⟨E, K1, h_b1, h_b2, h_b3⟩ := hC; exact x_ld (p := Pz b1) (v := va) rfl (ldb_sc Sc34 h_b1 rfl)) ?_
 refine d_q rfl (fun w' hC => by obtain ⟨E, K1, h_b1, h_b2, h_b3⟩ := hC; exact x_mv (v := I x) rfl) ?_
 refine d_q rfl (fun w' hC => by obtain ⟨E, K1, h_b1, h_b2, h_b3⟩ := hC; exact x_ix (a := va) (b := I x) (v := vat va 1 (Int.toNat x)) rfl rfl (Sl.ix (α := Int) T34.und T34.size (ha.to K1) (by omega) (by omega))) ?_
 refine d_q rfl (fun w' hC => by obtain ⟨E, K1, h_b1, h_b2, h_b3⟩ := hC; exact x_ld (p := vat va 1 (Int.toNat x)) (v := I (a.getD (Int.toNat x) 0)) rfl (ld_sc Sc3 (At.to (Int_at ha (i := x) (by omega) (by omega)) K1))) ?_
 refine d_q rfl (fun w' hC => by obtain ⟨E, K1, h_b1, h_b2, h_b3⟩ := hC; exact x_ld (p := Pz b1) (v := va) rfl (ldb_sc Sc34 h_b1 rfl)) ?_
 refine d_q rfl (fun w' hC => by obtain ⟨E, K1, h_b1, h_b2, h_b3⟩ := hC; exact x_ld (p := Pz b2) (v := I i) rfl (ldb_sc Sc3 h_b2 rfl)) ?_
 refine d_q rfl (fun w' hC => by obtain ⟨E, K1, h_b1, h_b2, h_b3⟩ := hC; exact x_ix (a := va) (b := I i) (v := vat va 1 (Int.toNat i)) rfl rfl (Sl.ix (α := Int) T34.und T34.size (ha.to K1) (by omega) (by omega))) ?_
 refine d_q rfl (fun w' hC => by obtain ⟨E, K1, h_b1, h_b2, h_b3⟩ := hC; exact x_ld (p := vat va 1 (Int.toNat i)) (v := I (a.getD (Int.toNat i) 0)) rfl (ld_sc Sc3 (At.to (Int_at ha (i := i) (by omega) (by omega)) K1))) ?_
 refine d_q rfl (fun w' hC => by obtain ⟨E, K1, h_b1, h_b2, h_b3⟩ := hC; exact x_ld (p := Pz b3) (v := vw) rfl (ldb_sc Sc22 h_b3 rfl)) ?_
 refine d_q rfl (fun w' hC => by obtain ⟨E, K1, h_b1, h_b2, h_b3⟩ := hC; exact x_ld (p := Pz b2) (v := I i) rfl (ldb_sc Sc3 h_b2 rfl)) ?_
 refine d_q rfl (fun w' hC => by obtain ⟨E, K1, h_b1, h_b2, h_b3⟩ := hC; exact x_ix (a := vw) (b := I i) (v := vat vw 3 (Int.toNat i)) rfl rfl (Sl.ix (α := Work) T22.und T22.size (hw.to K1) (by omega) (by omega))) ?_
 refine d_q rfl (fun w' hC => by obtain ⟨E, K1, h_b1, h_b2, h_b3⟩ := hC; exact x_fa (a := vat vw 3 (Int.toNat i)) (v := fat (vat vw 3 (Int.toNat i)) 2) rfl (fa_pl Fd60_2 Sz3 (Sl.pl (i := i) hw (by omega) (by omega)))) ?_
 refine d_q rfl (fun w' hC => by obtain ⟨E, K1, h_b1, h_b2, h_b3⟩ := hC; exact x_ld (p := fat (vat vw 3 (Int.toNat i)) 2) (v := I ((ws.getD (Int.toNat i) default).minutes)) rfl (ld_sc Sc3 (At.to (Work_at2 hw (i := i) (by omega) (by omega)) K1))) ?_
 refine d_q rfl (fun w' hC => by obtain ⟨E, K1, h_b1, h_b2, h_b3⟩ := hC; exact x_ari (a := a.getD (Int.toNat i) 0) (b := (ws.getD (Int.toNat i) default).minutes) (r := (a.getD (Int.toNat i) 0) - ((ws.getD (Int.toNat i) default).minutes)) rfl rfl rfl (by omega)) ?_
 refine d_q rfl (fun w' hC => by obtain ⟨E, K1, h_b1, h_b2, h_b3⟩ := hC; exact x_cmp (kd := .i64) (a := a.getD (Int.toNat x) 0) (b := (a.getD (Int.toNat i) 0) - ((ws.getD (Int.toNat i) default).minutes)) (r := ((a.getD (Int.toNat x) 0) : Int) == ((a.getD (Int.toNat i) 0) - ((ws.getD (Int.toNat i) default).minutes))) rfl rfl rfl) ?_
 refine d_q rfl (fun w' hC => by obtain ⟨E, K1, h_b1, h_b2, h_b3⟩ := hC; exact x_as (v := B (((a.getD (Int.toNat x) 0) : Int) == ((a.getD (Int.toNat i) 0) - ((ws.getD (Int.toNat i) default).minutes)))) rfl) ?_
 refine d_nil ?_
 refine W.ret ?_
 exact ⟨_, resE_tmp rfl, rfl, E⟩

theorem Longest_any {vw vr : Value} {ws : List Work} {rev : List Int} (w : World) (hw : Sl w.cell? vw ws) (hr : Sl w.cell? vr rev) : Ret Try.prog 38 #[vw, vr] w fun v w' => ∃ u, v = .tuple #[u, I (longestE ws rev)] ∧ Sl (frm w' w.heap.size) u (longestR ws rev) ∧ Ext w w' := by
 refine ret_of_W Try.func38 rfl rfl rfl ?_
 have E := Ext.refl w
 have K1 := KF.refl 0 w
 have hl_hw := hw.len_le
 have hw := hw.par
 have hl_hr := hr.len_le
 have hr := hr.par
 refine sQ rfl ?_
 refine s_box (v := vw) (cs := [vw]) rfl (Sl.cells (hw.to K1)) ?_
 intro b2 w3 Nb2
 have o_K1_b2 := Nat.le_trans K1.size Nb2.ge
 have o_b2 := Nat.le_trans E.size Nb2.ge
 replace E := E.trans Nb2.ext
 replace K1 := K1.ext Nb2.ext
 have h_b2 := Nb2.same
 clear Nb2
 refine sA (.slice none 0 0) rfl <| sA (I 0) rfl <| s_nil <| sQ rfl <| s_val (x_ld (p := Pz b2) (v := vw) rfl (ldb_sc Sc22 h_b2 rfl)) <| sM vr rfl ?_
 refine s_call cf92 [vw, vr] rfl (asked_any _ (hw.to K1) (hr.to K1)) ?_
 rintro _ w4 (⟨h6, rfl, x7⟩ | ⟨h8, b9, so10, rfl, n11, hs12⟩)
 ·replace E := E.trans x7
  replace K1 := K1.ext x7
  replace h_b2 := x7.get h_b2
  refine sM (.tuple #[.pointer none, .slice none 0 0, .agg (encB (List.replicate 30 false)).toArray, I (askedE ws rev)]) rfl <| sX [.pointer none, .slice none 0 0, .agg (encB (List.replicate 30 false)).toArray, I (askedE ws rev)] (.pointer none) rfl rfl <| sX [.pointer none, .slice none 0 0, .agg (encB (List.replicate 30 false)).toArray, I (askedE ws rev)] (.slice none 0 0) rfl rfl <| sX [.pointer none, .slice none 0 0, .agg (encB (List.replicate 30 false)).toArray, I (askedE ws rev)] (.agg (encB (List.replicate 30 false)).toArray) rfl rfl <| sX [.pointer none, .slice none 0 0, .agg (encB (List.replicate 30 false)).toArray, I (askedE ws rev)] (I (askedE ws rev)) rfl rfl ?_
  refine s_alloc (cs := encB (List.replicate 30 false)) Al141 rfl ?_
  intro b13 w14 Nb13
  have o_K1_b13 := Nat.le_trans K1.size Nb13.ge
  have o_b13 := Nat.le_trans E.size Nb13.ge
  have o_b2_b13 := Nat.lt_of_lt_of_le (heap_lt h_b2) Nb13.ge
  replace E := E.trans Nb13.ext
  replace K1 := K1.ext Nb13.ext
  replace h_b2 := Nb13.ext.get h_b2
  have h_b13 := Nb13.same
  clear Nb13
  have hl_b13 : (List.replicate 30 false).length = 30 := by simp
  refine sA (.pointer none) rfl <| sA (.slice none 0 0) rfl ?_
  refine s_stArrA (b := b13) (l := List.replicate 30 false) (l' := List.replicate 30 false) rfl rfl Sz141 h_b13 hl_b13 (List.length_replicate) ?_
  intro w15 p16
  replace E := E.put (by omega) p16
  replace K1 := K1.put p16 (by omega)
  replace h_b2 := p16.get (by omega) h_b2
  replace h_b13 := p16.same
  clear p16
  refine sA (I (askedE ws rev)) rfl <| s_nil <| W.seq <| W.block <| sQ rfl <| sM (I (askedE ws rev)) rfl <| sC (askedE ws rev) 0 ((askedE ws rev : Int) != 0) rfl rfl rfl <| sA (B ((askedE ws rev : Int) != 0)) rfl <| s_nil ?_
  refine W.cond ((askedE ws rev : Int) != 0) rfl (fun c17 => ?_) (fun c17 => ?_)
  ·simp only [qz1, qz2, qz3, qz4, qz5, qz6, ne_eq, qz7] at c17
   refine sQ rfl <| sM (I (askedE ws rev)) rfl <| sA (.slice none 0 0) rfl <| sA (I (askedE ws rev)) rfl <| s_nil ?_
   refine W.ret ?_
   exact ⟨_, resE_tmp2 rfl, .slice none 0 0, (by rw [(longest_wrong h6).1]; rfl), (by rw [(longest_wrong h6).2]; exact Sl.nil _), E⟩
  simp only [qz1, qz2, qz3, qz4, qz5, qz6, ne_eq, qz7] at c17
  exact absurd c17 h6
 have hO := (asked_ok h8).1
 have hR := opened_right hO
 have hn30 := (right_len hR).2
 have hn1 := (right_len hR).1
 have hsl := staleL_len ws rev
 have sz_w4 := E.size
 have lt_b2_w4 := heap_lt h_b2
 have o_K1_b9 := Nat.le_trans K1.size n11.ge
 have o_b9 := Nat.le_trans E.size n11.ge
 have o_b2_b9 := Nat.lt_of_lt_of_le (heap_lt h_b2) n11.ge
 replace E := E.trans n11.ext
 replace K1 := K1.ext n11.ext
 replace h_b2 := n11.ext.get h_b2
 have h_b9 := n11.same
 clear n11
 have hl_hs12 := hs12.len_le
 have K18 := KF.refl w3.heap.size w4
 refine sM (.tuple #[Pz b9, so10, .agg (encB (staleL ws rev)).toArray, I 0]) rfl <| sX [Pz b9, so10, .agg (encB (staleL ws rev)).toArray, I 0] (Pz b9) rfl rfl <| sX [Pz b9, so10, .agg (encB (staleL ws rev)).toArray, I 0] so10 rfl rfl <| sX [Pz b9, so10, .agg (encB (staleL ws rev)).toArray, I 0] (.agg (encB (staleL ws rev)).toArray) rfl rfl <| sX [Pz b9, so10, .agg (encB (staleL ws rev)).toArray, I 0] (I 0) rfl rfl ?_
 refine s_alloc (cs := encB (List.replicate 30 false)) Al141 rfl ?_
 intro b19 w20 Nb19
 have o_K1_b19 := Nat.le_trans K1.size Nb19.ge
 have o_K18_b19 := Nat.le_trans K18.size Nb19.ge
 have o_b19 := Nat.le_trans E.size Nb19.ge
 have o_b2_b19 := Nat.lt_of_lt_of_le (heap_lt h_b2) Nb19.ge
 have o_b9_b19 := Nat.lt_of_lt_of_le (heap_lt h_b9) Nb19.ge
 replace E := E.trans Nb19.ext
 replace K1 := K1.ext Nb19.ext
 replace K18 := K18.ext Nb19.ext
 replace h_b2 := Nb19.ext.get h_b2
 replace h_b9 := Nb19.ext.get h_b9
 have h_b19 := Nb19.same
 clear Nb19
 have hl_b19 : (List.replicate 30 false).length = 30 := by simp
 refine sA (Pz b9) rfl <| sA so10 rfl ?_
 refine s_stArrA (b := b19) (l := List.replicate 30 false) (l' := staleL ws rev) rfl rfl Sz141 h_b19 hl_b19 (staleL_len ws rev) ?_
 intro w21 p22
 replace E := E.put (by omega) p22
 replace K1 := K1.put p22 (by omega)
 replace K18 := K18.put p22 (by omega)
 replace h_b2 := p22.get (by omega) h_b2
 replace h_b9 := p22.get (by omega) h_b9
 replace h_b19 := p22.same
 clear p22
 refine sA (I 0) rfl <| s_nil <| W.seq <| W.block <| sQ rfl <| sM (I 0) rfl <| sC 0 0 ((0 : Int) != 0) rfl rfl rfl <| sA (B ((0 : Int) != 0)) rfl <| s_nil ?_
 refine W.cond ((0 : Int) != 0) rfl (fun c23 => ?_) (fun c23 => ?_)
 ·simp only [qz1, qz2, qz3, qz4, qz5, qz6, ne_eq, qz7] at c23
  exact absurd c23 (by decide)
 simp only [qz1, qz2, qz3, qz4, qz5, qz6, ne_eq, qz7] at c23
 refine sQ rfl <| sM vr rfl <| s_val (x_lenS T34.und rfl (hr.to K1)) <| sC rev.length 0 ((rev.length : Int) == 0) rfl rfl rfl <| sA (B ((rev.length : Int) == 0)) rfl <| s_nil ?_
 refine W.cond ((rev.length : Int) == 0) rfl (fun c24 => ?_) (fun c24 => ?_)
 ·simp only [qz1, qz2, qz3, qz4, qz5, qz6, ne_eq, qz7] at c24
  refine sQ rfl <| sA (.slice none 0 0) rfl <| sA (I 5) rfl <| s_nil ?_
  refine W.ret ?_
  exact ⟨_, resE_tmp2 rfl, .slice none 0 0, (by rw [(longest_none h8 c24).1]; rfl), (by rw [(longest_none h8 c24).2]; exact Sl.nil _), E⟩
 simp only [qz1, qz2, qz3, qz4, qz5, qz6, ne_eq, qz7] at c24
 have hal := readyL_len ws (orderP ws) (staleL ws rev)
 have hla := lastL_rng (a := readyL ws (orderP ws) (staleL ws rev)) (by omega)
 refine W.skip <| sQ rfl <| s_val (x_ld (p := Pz b2) (v := vw) rfl (ldb_sc Sc22 h_b2 rfl)) <| sM so10 rfl <| s_val (x_ld (p := Pz b19) (v := .agg (encB (staleL ws rev)).toArray) rfl (ldArrA Ag141 Sz141 (staleL_len ws rev) h_b19)) ?_
 refine s_call cf99 [vw, so10, .agg (encB (staleL ws rev)).toArray] rfl (ready_any _ (hw.to K1) (hs12.to K18) (staleL_len ws rev) hR (order_rng _) (by have := order_len ws; omega)) ?_
 have sz_w25 := E.size
 have lt_b2_w25 := heap_lt h_b2
 have lt_b9_w25 := heap_lt h_b9
 have lt_b19_w25 := heap_lt h_b19
 rintro u27 w25 ⟨hs28, x26⟩
 replace E := E.trans x26
 replace K1 := K1.ext x26
 replace K18 := K18.ext x26
 replace h_b2 := x26.get h_b2
 replace h_b9 := x26.get h_b9
 replace h_b19 := x26.get h_b19
 clear x26
 have hl_hs28 := hs28.len_le
 have K29 := KF.refl w21.heap.size w25
 refine s_alloc (cs := [.slice none 0 0]) Al34 rfl ?_
 intro b30 w31 Nb30
 have o_K1_b30 := Nat.le_trans K1.size Nb30.ge
 have o_K18_b30 := Nat.le_trans K18.size Nb30.ge
 have o_K29_b30 := Nat.le_trans K29.size Nb30.ge
 have o_b30 := Nat.le_trans E.size Nb30.ge
 have o_b2_b30 := Nat.lt_of_lt_of_le (heap_lt h_b2) Nb30.ge
 have o_b9_b30 := Nat.lt_of_lt_of_le (heap_lt h_b9) Nb30.ge
 have o_b19_b30 := Nat.lt_of_lt_of_le (heap_lt h_b19) Nb30.ge
 replace E := E.trans Nb30.ext
 replace K1 := K1.ext Nb30.ext
 replace K18 := K18.ext Nb30.ext
 replace K29 := K29.ext Nb30.ext
 replace h_b2 := Nb30.ext.get h_b2
 replace h_b9 := Nb30.ext.get h_b9
 replace h_b19 := Nb30.ext.get h_b19
 have h_b30 := Nb30.same
 clear Nb30
 refine s_st (b := b30) (off := 0) (vs := [u27]) (cs' := [u27]) (v := u27) rfl rfl Sz34 h_b30 (Sl.cells (hs28.to K29)) rfl rfl (by simp only [List.all_cons, List.all_nil, Bool.true_and, Bool.and_true, Sl.oc (hs28.to K29)]; try rfl) rfl ?_
 intro w32 p33
 replace E := E.put (by omega) p33
 replace K1 := K1.put p33 (by omega)
 replace K18 := K18.put p33 (by omega)
 replace K29 := K29.put p33 (by omega)
 replace h_b2 := p33.get (by omega) h_b2
 replace h_b9 := p33.get (by omega) h_b9
 replace h_b19 := p33.get (by omega) h_b19
 replace h_b30 := p33.same
 clear p33
 refine s_nil <| W.seq ?_
 refine W.drawT (fun W => Ext w W ∧ KF 0 w W ∧ KF w3.heap.size w4 W ∧ KF w21.heap.size w25 W ∧ W.heap[b2]? = some (.cells #[vw] 22 (0, 0)) ∧ W.heap[b9]? = some (.cells #[vw] 187 (0, 0)) ∧ W.heap[b19]? = some (.cells (encB (staleL ws rev)).toArray 141 (0, 0)) ∧ W.heap[b30]? = some (.cells #[u27] 34 (0, 0))) (.q 0 (.q 1 (.l2 2 (.l2 3 (.l 4 (.l 5 .nil)) 4 (.l 3 (.l 5 .nil))) 4 (.l 2 (.l 3 (.l 5 .nil)))))) mixed (by decide +kernel) rfl ?_
 intro w34 x35
 replace E := E.trans x35
 replace K1 := K1.ext x35
 replace K18 := K18.ext x35
 replace K29 := K29.ext x35
 replace h_b2 := x35.get h_b2
 replace h_b9 := x35.get h_b9
 replace h_b19 := x35.get h_b19
 replace h_b30 := x35.get h_b30
 clear x35
 refine ⟨⟨E, K1, K18, K29, h_b2, h_b9, h_b19, h_b30⟩, ?_⟩
 refine t_q rfl (fun w' hC => by obtain ⟨E, K1, K18, K29, h_b2, h_b9, h_b19, h_b30⟩ := hC; exact x_ld (p := Pz b30) (v := u27) rfl (ldb_sc Sc34 h_b30 rfl)) ?_
 refine t_q rfl (fun w' hC => by obtain ⟨E, K1, K18, K29, h_b2, h_b9, h_b19, h_b30⟩ := hC; exact x_ld (p := Pz b30) (v := u27) rfl (ldb_sc Sc34 h_b30 rfl)) ?_
 refine t_l2 rfl rfl ?_ ?_
 ·refine s_call cf101 [u27] rfl (max_int _ (hs28.to K29) (by omega)) ?_
  rintro _ w36 ⟨rfl, x37⟩
  replace E := E.trans x37
  replace K1 := K1.ext x37
  replace K18 := K18.ext x37
  replace K29 := K29.ext x37
  replace h_b2 := x37.get h_b2
  replace h_b9 := x37.get h_b9
  replace h_b19 := x37.get h_b19
  replace h_b30 := x37.get h_b30
  clear x37
  refine s_nil ⟨⟨E, K1, K18, K29, h_b2, h_b9, h_b19, h_b30⟩, ?_⟩
  refine t_l2 rfl rfl ?_ ?_
  ·refine s_call cf100 [u27, I (maxT (readyL ws (orderP ws) (staleL ws rev)) (readyL ws (orderP ws) (staleL ws rev)).length)] rfl (index_int (maxT (readyL ws (orderP ws) (staleL ws rev)) (readyL ws (orderP ws) (staleL ws rev)).length) _ (hs28.to K29)) ?_
   rintro _ w38 ⟨rfl, x39⟩
   replace E := E.trans x39
   replace K1 := K1.ext x39
   replace K18 := K18.ext x39
   replace K29 := K29.ext x39
   replace h_b2 := x39.get h_b2
   replace h_b9 := x39.get h_b9
   replace h_b19 := x39.get h_b19
   replace h_b30 := x39.get h_b30
   clear x39
   refine s_nil ⟨⟨E, K1, K18, K29, h_b2, h_b9, h_b19, h_b30⟩, ?_⟩
   refine t_l rfl ?_
   refine s_alloc (cs := [I 0]) Al3 rfl ?_
   intro b40 w41 Nb40
   have o_K1_b40 := Nat.le_trans K1.size Nb40.ge
   have o_K18_b40 := Nat.le_trans K18.size Nb40.ge
   have o_K29_b40 := Nat.le_trans K29.size Nb40.ge
   have o_b40 := Nat.le_trans E.size Nb40.ge
   have o_b2_b40 := Nat.lt_of_lt_of_le (heap_lt h_b2) Nb40.ge
   have o_b9_b40 := Nat.lt_of_lt_of_le (heap_lt h_b9) Nb40.ge
   have o_b19_b40 := Nat.lt_of_lt_of_le (heap_lt h_b19) Nb40.ge
   have o_b30_b40 := Nat.lt_of_lt_of_le (heap_lt h_b30) Nb40.ge
   replace E := E.trans Nb40.ext
   replace K1 := K1.ext Nb40.ext
   replace K18 := K18.ext Nb40.ext
   replace K29 := K29.ext Nb40.ext
   replace h_b2 := Nb40.ext.get h_b2
   replace h_b9 := Nb40.ext.get h_b9
   replace h_b19 := Nb40.ext.get h_b19
   replace h_b30 := Nb40.ext.get h_b30
   have h_b40 := Nb40.same
   clear Nb40
   refine s_nil ⟨⟨E, K1, K18, K29, h_b2, h_b9, h_b19, h_b30⟩, ?_⟩
   refine t_l rfl ?_
   refine s_st (b := b40) (off := 0) (vs := [I (idxI (readyL ws (orderP ws) (staleL ws rev)) (maxT (readyL ws (orderP ws) (staleL ws rev)) (readyL ws (orderP ws) (staleL ws rev)).length))]) (cs' := [I (idxI (readyL ws (orderP ws) (staleL ws rev)) (maxT (readyL ws (orderP ws) (staleL ws rev)) (readyL ws (orderP ws) (staleL ws rev)).length))]) (v := I (idxI (readyL ws (orderP ws) (staleL ws rev)) (maxT (readyL ws (orderP ws) (staleL ws rev)) (readyL ws (orderP ws) (staleL ws rev)).length))) rfl rfl Sz3 h_b40 rfl rfl rfl rfl rfl ?_
   intro w42 p43
   replace E := E.put (by omega) p43
   replace K1 := K1.put p43 (by omega)
   replace K18 := K18.put p43 (by omega)
   replace K29 := K29.put p43 (by omega)
   replace h_b2 := p43.get (by omega) h_b2
   replace h_b9 := p43.get (by omega) h_b9
   replace h_b19 := p43.get (by omega) h_b19
   replace h_b30 := p43.get (by omega) h_b30
   replace h_b40 := p43.same
   clear p43
   refine s_nil ⟨⟨E, K1, K18, K29, h_b2, h_b9, h_b19, h_b30⟩, ?_⟩
   refine t_nil ?_
   refine sQ rfl <| s_val (x_ld (p := Pz b40) (v := I (idxI (readyL ws (orderP ws) (staleL ws rev)) (maxT (readyL ws (orderP ws) (staleL ws rev)) (readyL ws (orderP ws) (staleL ws rev)).length))) rfl (ldb_sc Sc3 h_b40 rfl)) ?_
   refine s_bs1O (α := Int) T34 ((idxI (readyL ws (orderP ws) (staleL ws rev)) (maxT (readyL ws (orderP ws) (staleL ws rev)) (readyL ws (orderP ws) (staleL ws rev)).length) : Int)) rfl rfl rfl ?_
   intro v44 w45 ho46 x47
   have n_v44_b2 := ho46.ne' (heap_lt h_b2)
   have n_v44_b9 := ho46.ne' (heap_lt h_b9)
   have n_v44_b19 := ho46.ne' (heap_lt h_b19)
   have n_v44_b30 := ho46.ne' (heap_lt h_b30)
   have n_v44_b40 := ho46.ne' (heap_lt h_b40)
   have z48 := Nat.le_refl w42.heap.size
   have B_v44 := E.size
   have B_v44_K1 := K1.size
   have B_v44_K18 := K18.size
   have B_v44_K29 := K29.size
   replace E := E.trans x47
   replace z48 := Nat.le_trans z48 x47.size
   replace K1 := K1.ext x47
   replace K18 := K18.ext x47
   replace K29 := K29.ext x47
   replace h_b2 := x47.get h_b2
   replace h_b9 := x47.get h_b9
   replace h_b19 := x47.get h_b19
   replace h_b30 := x47.get h_b30
   replace h_b40 := x47.get h_b40
   clear x47
   refine sA v44 rfl <| s_nil <| W.seq <| W.block ?_
   refine W.loop (fun m σ W => ∃ (i : Int) (out : List Int) (f : Nat) (vo : Value) (ρ : Env), σ = upds ρ [(2, Pz b2), (10, Pz b30), (11, Pz b40), (12, vo)] ∧ m = f + 1 ∧ Ext w W ∧ KF 0 w W ∧ KF w21.heap.size w25 W ∧ W.heap[b2]? = some (.cells #[vw] 22 (0, 0)) ∧ W.heap[b9]? = some (.cells #[vw] 187 (0, 0)) ∧ W.heap[b19]? = some (.cells (encB (staleL ws rev)).toArray 141 (0, 0)) ∧ W.heap[b30]? = some (.cells #[u27] 34 (0, 0)) ∧ W.heap[b40]? = some (.cells #[I i] 3 (0, 0)) ∧ w42.heap.size ≤ W.heap.size ∧ OwnF w42.heap.size 3 W vo out ∧ vo.ownBlock ≠ some b2 ∧ vo.ownBlock ≠ some b9 ∧ vo.ownBlock ≠ some b19 ∧ vo.ownBlock ≠ some b30 ∧ vo.ownBlock ≠ some b40 ∧ 0 ≤ i ∧ i < (ws.length : Int) ∧ posO ws i ≤ f ∧ longF ws (readyL ws (orderP ws) (staleL ws rev)) f i out = longF ws (readyL ws (orderP ws) (staleL ws rev)) ws.length (lastL (readyL ws (orderP ws) (staleL ws rev))) [lastL (readyL ws (orderP ws) (staleL ws rev))] ∧ out.length + f ≤ ws.length + 1) ?_ ?_
   ·exact ⟨_, lastL (readyL ws (orderP ws) (staleL ws rev)), [lastL (readyL ws (orderP ws) (staleL ws rev))], ws.length, v44, _, upds_of _ _ ⟨rfl, rfl, rfl, rfl, trivial⟩, rfl, E, K1, K29, h_b2, h_b9, h_b19, h_b30, h_b40, z48, ho46, n_v44_b2, n_v44_b9, n_v44_b19, n_v44_b30, n_v44_b40, hla.1, (by have := hla.2.1; omega), (Nat.le_of_lt (posO_le (order_all hO hla.1 (by have := hla.2.1; omega)))), rfl, (by simp; omega)⟩
   rintro m σ w49 ⟨i, out, f, vo, ρ, rfl, rfl, E, K1, K29, h_b2, h_b9, h_b19, h_b30, h_b40, z48, ho_vo, n_vo_b2, n_vo_b9, n_vo_b19, n_vo_b30, n_vo_b40, iv0_0, iv0_1, iv0_2, iv0_3, iv0_4⟩
   have hof := right_of hR (i := Int.toNat i) (by omega)
   have hmn := right_nums hR (i := Int.toNat i) (by omega)
   have hai := readyL_at hR (staleL ws rev) (i := Int.toNat i) (by omega)
   refine W.seq <| W.seq ?_
   refine W.draw (fun W => Ext w W ∧ KF 0 w W ∧ KF w21.heap.size w25 W ∧ W.heap[b2]? = some (.cells #[vw] 22 (0, 0)) ∧ W.heap[b9]? = some (.cells #[vw] 187 (0, 0)) ∧ W.heap[b19]? = some (.cells (encB (staleL ws rev)).toArray 141 (0, 0)) ∧ W.heap[b30]? = some (.cells #[u27] 34 (0, 0)) ∧ W.heap[b40]? = some (.cells #[I i] 3 (0, 0)) ∧ OwnF w42.heap.size 3 W vo out) [(0, true), (1, true), (2, true), (3, true), (4, true), (5, true), (6, true), (7, true), (8, true), (9, true)] mixed (by decide +kernel) rfl ?_
   intro w50 x51
   replace E := E.trans x51
   replace z48 := Nat.le_trans z48 x51.size
   replace K1 := K1.ext x51
   replace K29 := K29.ext x51
   replace h_b2 := x51.get h_b2
   replace h_b9 := x51.get h_b9
   replace h_b19 := x51.get h_b19
   replace h_b30 := x51.get h_b30
   replace h_b40 := x51.get h_b40
   replace ho_vo := ho_vo.ext x51
   clear x51
   refine ⟨⟨E, K1, K29, h_b2, h_b9, h_b19, h_b30, h_b40, ho_vo⟩, ?_⟩
   refine d_q rfl (fun w' hC => by obtain ⟨E, K1, K29, h_b2, h_b9, h_b19, h_b30, h_b40, ho_vo⟩ := hC; exact x_ld (p := Pz b30) (v := u27) rfl (ldb_sc Sc34 h_b30 rfl)) ?_
   refine d_q rfl (fun w' hC => by obtain ⟨E, K1, K29, h_b2, h_b9, h_b19, h_b30, h_b40, ho_vo⟩ := hC; exact x_ld (p := Pz b40) (v := I i) rfl (ldb_sc Sc3 h_b40 rfl)) ?_
   refine d_q rfl (fun w' hC => by obtain ⟨E, K1, K29, h_b2, h_b9, h_b19, h_b30, h_b40, ho_vo⟩ := hC; exact x_ix (a := u27) (b := I i) (v := vat u27 1 (Int.toNat i)) rfl rfl (Sl.ix (α := Int) T34.und T34.size (hs28.to K29) (by omega) (by omega))) ?_
   refine d_q rfl (fun w' hC => by obtain ⟨E, K1, K29, h_b2, h_b9, h_b19, h_b30, h_b40, ho_vo⟩ := hC; exact x_ld (p := vat u27 1 (Int.toNat i)) (v := I ((readyL ws (orderP ws) (staleL ws rev)).getD (Int.toNat i) 0)) rfl (ld_sc Sc3 (At.to (Int_at hs28 (i := i) (by omega) (by omega)) K29))) ?_
   refine d_q rfl (fun w' hC => by obtain ⟨E, K1, K29, h_b2, h_b9, h_b19, h_b30, h_b40, ho_vo⟩ := hC; exact x_ld (p := Pz b2) (v := vw) rfl (ldb_sc Sc22 h_b2 rfl)) ?_
   refine d_q rfl (fun w' hC => by obtain ⟨E, K1, K29, h_b2, h_b9, h_b19, h_b30, h_b40, ho_vo⟩ := hC; exact x_ld (p := Pz b40) (v := I i) rfl (ldb_sc Sc3 h_b40 rfl)) ?_
   refine d_q rfl (fun w' hC => by obtain ⟨E, K1, K29, h_b2, h_b9, h_b19, h_b30, h_b40, ho_vo⟩ := hC; exact x_ix (a := vw) (b := I i) (v := vat vw 3 (Int.toNat i)) rfl rfl (Sl.ix (α := Work) T22.und T22.size (hw.to K1) (by omega) (by omega))) ?_
   refine d_q rfl (fun w' hC => by obtain ⟨E, K1, K29, h_b2, h_b9, h_b19, h_b30, h_b40, ho_vo⟩ := hC; exact x_fa (a := vat vw 3 (Int.toNat i)) (v := fat (vat vw 3 (Int.toNat i)) 2) rfl (fa_pl Fd60_2 Sz3 (Sl.pl (i := i) hw (by omega) (by omega)))) ?_
   refine d_q rfl (fun w' hC => by obtain ⟨E, K1, K29, h_b2, h_b9, h_b19, h_b30, h_b40, ho_vo⟩ := hC; exact x_ld (p := fat (vat vw 3 (Int.toNat i)) 2) (v := I ((ws.getD (Int.toNat i) default).minutes)) rfl (ld_sc Sc3 (At.to (Work_at2 hw (i := i) (by omega) (by omega)) K1))) ?_
   refine d_q rfl (fun w' hC => by obtain ⟨E, K1, K29, h_b2, h_b9, h_b19, h_b30, h_b40, ho_vo⟩ := hC; exact x_cmp (kd := .i64) (a := (readyL ws (orderP ws) (staleL ws rev)).getD (Int.toNat i) 0) (b := (ws.getD (Int.toNat i) default).minutes) (r := decide ((((ws.getD (Int.toNat i) default).minutes) : Int) < ((readyL ws (orderP ws) (staleL ws rev)).getD (Int.toNat i) 0))) rfl rfl rfl) ?_
   refine d_nil ?_
   refine W.cond (decide ((((ws.getD (Int.toNat i) default).minutes) : Int) < ((readyL ws (orderP ws) (staleL ws rev)).getD (Int.toNat i) 0))) rfl (fun c52 => ?_) (fun c52 => ?_)
   ·simp only [qz1, qz2, qz3, qz4, qz5, qz6, ne_eq, qz7] at c52
    have hnx := long_next hO iv0_0 iv0_1 c52
    have hnx1 := hnx.1
    have hnx2 := hnx.2.1
    refine W.skip <| W.block <| sQ rfl <| s_val (x_ld (p := Pz b2) (v := vw) rfl (ldb_sc Sc22 h_b2 rfl)) <| s_val (x_ld (p := Pz b40) (v := I i) rfl (ldb_sc Sc3 h_b40 rfl)) <| s_val (x_ix (a := vw) (b := I i) (v := vat vw 3 (Int.toNat i)) rfl rfl (Sl.ix (α := Work) T22.und T22.size (hw.to K1) (by omega) (by omega))) <| s_val (x_fa (a := vat vw 3 (Int.toNat i)) (v := fat (vat vw 3 (Int.toNat i)) 0) rfl (fa_pl Fd60_0 Sz34 (Sl.pl (i := i) hw (by omega) (by omega)))) ?_
    obtain ⟨u53, ha_u53, hs54⟩ := Work_at0 hw (i := i) (by omega) (by omega)
    replace hs54 : Sl _ u53 (ws.getD (Int.toNat i) default).of := hs54
    have hl_hs54 := hs54.len_le
    refine s_val (x_ld (p := fat (vat vw 3 (Int.toNat i)) 0) (v := u53) rfl (ld_sc Sc34 (At.to ha_u53 K1))) <| s_val (x_mf (fs := []) (cs := [Pz b30, Pz b40, Pz b2]) rfl rfl) ?_
    refine s_call cf102 [u53, .func (.func 103) #[] #[Pz b30, Pz b40, Pz b2]] rfl (indexFunc_int _ (hs54.to K1) ⟨103, [Pz b30, Pz b40, Pz b2], rfl, cf103, fun w' v x hE hD hA => by obtain rfl := Arg.int hA; exact (longest1 _ _ _ (hE.get h_b30) (hE.get h_b40) (hE.get h_b2) ((hs28.to K29).mono hE.le) ((hw.to K1).mono hE.le) (hof _ hD).1 (by have := (hof _ hD).2.1; omega) iv0_0 (by omega) iv0_1 (by omega))⟩) ?_
    rintro _ w55 ⟨rfl, x56⟩
    replace E := E.trans x56
    replace z48 := Nat.le_trans z48 x56.size
    replace K1 := K1.ext x56
    replace K29 := K29.ext x56
    replace h_b2 := x56.get h_b2
    replace h_b9 := x56.get h_b9
    replace h_b19 := x56.get h_b19
    replace h_b30 := x56.get h_b30
    replace h_b40 := x56.get h_b40
    replace ho_vo := ho_vo.ext x56
    clear x56
    refine sA (I (idxP (fun z_ : Int => (readyL ws (orderP ws) (staleL ws rev)).getD z_.toNat 0 == (readyL ws (orderP ws) (staleL ws rev)).getD (Int.toNat i) 0 - (ws.getD (Int.toNat i) default).minutes) ((ws.getD (Int.toNat i) default).of))) rfl <| s_nil <| sQ rfl <| s_val (x_ld (p := Pz b2) (v := vw) rfl (ldb_sc Sc22 h_b2 rfl)) <| s_val (x_ld (p := Pz b40) (v := I i) rfl (ldb_sc Sc3 h_b40 rfl)) <| s_val (x_ix (a := vw) (b := I i) (v := vat vw 3 (Int.toNat i)) rfl rfl (Sl.ix (α := Work) T22.und T22.size (hw.to K1) (by omega) (by omega))) <| s_val (x_fa (a := vat vw 3 (Int.toNat i)) (v := fat (vat vw 3 (Int.toNat i)) 0) rfl (fa_pl Fd60_0 Sz34 (Sl.pl (i := i) hw (by omega) (by omega)))) ?_
    obtain ⟨u57, ha_u57, hs58⟩ := Work_at0 hw (i := i) (by omega) (by omega)
    replace hs58 : Sl _ u57 (ws.getD (Int.toNat i) default).of := hs58
    have hl_hs58 := hs58.len_le
    refine s_val (x_ld (p := fat (vat vw 3 (Int.toNat i)) 0) (v := u57) rfl (ld_sc Sc34 (At.to ha_u57 K1))) <| sM (I (idxP (fun z_ : Int => (readyL ws (orderP ws) (staleL ws rev)).getD z_.toNat 0 == (readyL ws (orderP ws) (staleL ws rev)).getD (Int.toNat i) 0 - (ws.getD (Int.toNat i) default).minutes) ((ws.getD (Int.toNat i) default).of))) rfl <| s_val (x_ix (a := u57) (b := I (idxP (fun z_ : Int => (readyL ws (orderP ws) (staleL ws rev)).getD z_.toNat 0 == (readyL ws (orderP ws) (staleL ws rev)).getD (Int.toNat i) 0 - (ws.getD (Int.toNat i) default).minutes) ((ws.getD (Int.toNat i) default).of))) (v := vat u57 1 (Int.toNat (idxP (fun z_ : Int => (readyL ws (orderP ws) (staleL ws rev)).getD z_.toNat 0 == (readyL ws (orderP ws) (staleL ws rev)).getD (Int.toNat i) 0 - (ws.getD (Int.toNat i) default).minutes) ((ws.getD (Int.toNat i) default).of)))) rfl rfl (Sl.ix (α := Int) T34.und T34.size (hs58.to K1) (by omega) (by omega))) <| s_val (x_ld (p := vat u57 1 (Int.toNat (idxP (fun z_ : Int => (readyL ws (orderP ws) (staleL ws rev)).getD z_.toNat 0 == (readyL ws (orderP ws) (staleL ws rev)).getD (Int.toNat i) 0 - (ws.getD (Int.toNat i) default).minutes) ((ws.getD (Int.toNat i) default).of)))) (v := I (((ws.getD (Int.toNat i) default).of).getD (Int.toNat (idxP (fun z_ : Int => (readyL ws (orderP ws) (staleL ws rev)).getD z_.toNat 0 == (readyL ws (orderP ws) (staleL ws rev)).getD (Int.toNat i) 0 - (ws.getD (Int.toNat i) default).minutes) ((ws.getD (Int.toNat i) default).of))) 0)) rfl (ld_sc Sc3 (At.to (Int_at hs58 (i := idxP (fun z_ : Int => (readyL ws (orderP ws) (staleL ws rev)).getD z_.toNat 0 == (readyL ws (orderP ws) (staleL ws rev)).getD (Int.toNat i) 0 - (ws.getD (Int.toNat i) default).minutes) ((ws.getD (Int.toNat i) default).of)) (by omega) (by omega)) K1))) ?_
    refine s_st (b := b40) (off := 0) (vs := [I (((ws.getD (Int.toNat i) default).of).getD (Int.toNat (idxP (fun z_ : Int => (readyL ws (orderP ws) (staleL ws rev)).getD z_.toNat 0 == (readyL ws (orderP ws) (staleL ws rev)).getD (Int.toNat i) 0 - (ws.getD (Int.toNat i) default).minutes) ((ws.getD (Int.toNat i) default).of))) 0)]) (cs' := [I (((ws.getD (Int.toNat i) default).of).getD (Int.toNat (idxP (fun z_ : Int => (readyL ws (orderP ws) (staleL ws rev)).getD z_.toNat 0 == (readyL ws (orderP ws) (staleL ws rev)).getD (Int.toNat i) 0 - (ws.getD (Int.toNat i) default).minutes) ((ws.getD (Int.toNat i) default).of))) 0)]) (v := I (((ws.getD (Int.toNat i) default).of).getD (Int.toNat (idxP (fun z_ : Int => (readyL ws (orderP ws) (staleL ws rev)).getD z_.toNat 0 == (readyL ws (orderP ws) (staleL ws rev)).getD (Int.toNat i) 0 - (ws.getD (Int.toNat i) default).minutes) ((ws.getD (Int.toNat i) default).of))) 0)) rfl rfl Sz3 h_b40 rfl rfl rfl rfl rfl ?_
    intro w59 p60
    replace E := E.put (by omega) p60
    replace z48 := Nat.le_trans z48 (Nat.le_of_eq p60.size.symm)
    replace K1 := K1.put p60 (by omega)
    replace K29 := K29.put p60 (by omega)
    replace h_b2 := p60.get (by omega) h_b2
    replace h_b9 := p60.get (by omega) h_b9
    replace h_b19 := p60.get (by omega) h_b19
    replace h_b30 := p60.get (by omega) h_b30
    replace ho_vo := ho_vo.put p60 n_vo_b40
    replace h_b40 := p60.same
    clear p60
    refine s_nil <| W.region rfl <| sM vo rfl <| s_val (x_ld (p := Pz b40) (v := I (((ws.getD (Int.toNat i) default).of).getD (Int.toNat (idxP (fun z_ : Int => (readyL ws (orderP ws) (staleL ws rev)).getD z_.toNat 0 == (readyL ws (orderP ws) (staleL ws rev)).getD (Int.toNat i) 0 - (ws.getD (Int.toNat i) default).minutes) ((ws.getD (Int.toNat i) default).of))) 0)) rfl (ldb_sc Sc3 h_b40 rfl)) ?_
    refine s_bsl (α := Int) T34 w59.heap.size [I (((ws.getD (Int.toNat i) default).of).getD (Int.toNat (idxP (fun z_ : Int => (readyL ws (orderP ws) (staleL ws rev)).getD z_.toNat 0 == (readyL ws (orderP ws) (staleL ws rev)).getD (Int.toNat i) 0 - (ws.getD (Int.toNat i) default).minutes) ((ws.getD (Int.toNat i) default).of))) 0)] [(((ws.getD (Int.toNat i) default).of).getD (Int.toNat (idxP (fun z_ : Int => (readyL ws (orderP ws) (staleL ws rev)).getD z_.toNat 0 == (readyL ws (orderP ws) (staleL ws rev)).getD (Int.toNat i) 0 - (ws.getD (Int.toNat i) default).minutes) ((ws.getD (Int.toNat i) default).of))) 0 : Int)] rfl (.cons rfl (Flat.rep_enc _ _) <| .nil) (Nat.le_refl _) rfl (by decide) (by decide) ?_
    intro u61 w62 hs63 x64 nn_u61
    replace E := E.trans x64
    replace z48 := Nat.le_trans z48 x64.size
    replace K1 := K1.ext x64
    replace K29 := K29.ext x64
    replace h_b2 := x64.get h_b2
    replace h_b9 := x64.get h_b9
    replace h_b19 := x64.get h_b19
    replace h_b30 := x64.get h_b30
    replace h_b40 := x64.get h_b40
    replace ho_vo := ho_vo.ext x64
    clear x64
    have K65 := KF.refl w59.heap.size w62
    refine s_app (α := Int) (v := vo) (vy := u61) (l := out) (l2 := [(((ws.getD (Int.toNat i) default).of).getD (Int.toNat (idxP (fun z_ : Int => (readyL ws (orderP ws) (staleL ws rev)).getD z_.toNat 0 == (readyL ws (orderP ws) (staleL ws rev)).getD (Int.toNat i) 0 - (ws.getD (Int.toNat i) default).minutes) ((ws.getD (Int.toNat i) default).of))) 0 : Int)]) T34 rfl rfl ho_vo (hs63.to K65) (Cells.Le.refl _) z48 (by first | omega | (simp only [List.length_append, List.length_cons, List.length_nil, List.length_set]; omega)) (by first | omega | (simp only [List.length_append, List.length_cons, List.length_nil, List.length_set]; omega)) ?_
    intro v66 w67 ho68 g69 ne70
    have n_v66_b19 := ne70 b19 (heap_lt h_b19) n_vo_b19
    have n_v66_b2 := ne70 b2 (heap_lt h_b2) n_vo_b2
    have n_v66_b30 := ne70 b30 (heap_lt h_b30) n_vo_b30
    have n_v66_b40 := ne70 b40 (heap_lt h_b40) n_vo_b40
    have n_v66_b9 := ne70 b9 (heap_lt h_b9) n_vo_b9
    replace E := E.grow g69 (by omega)
    replace z48 := Nat.le_trans z48 g69.size
    replace K1 := K1.grow g69 (by omega)
    replace K29 := K29.grow g69 (by omega)
    replace h_b2 := g69.get n_vo_b2 h_b2
    replace h_b9 := g69.get n_vo_b9 h_b9
    replace h_b19 := g69.get n_vo_b19 h_b19
    replace h_b30 := g69.get n_vo_b30 h_b30
    replace h_b40 := g69.get n_vo_b40 h_b40
    clear g69 ne70
    refine sA v66 rfl <| s_nil ?_
    exact ⟨_, (by have := hnx.2.2.2.2.1; omega), nextL ws (readyL ws (orderP ws) (staleL ws rev)) i, (out ++ [nextL ws (readyL ws (orderP ws) (staleL ws rev)) i]), (f - 1), v66, _, upds_of _ _ ⟨rfl, rfl, rfl, rfl, trivial⟩, rfl, E, K1, K29, h_b2, h_b9, h_b19, h_b30, h_b40, z48, ho68, n_v66_b2, n_v66_b9, n_v66_b19, n_v66_b30, n_v66_b40, hnx.2.2.1, hnx.2.2.2.1, (by have := hnx.2.2.2.2.1; omega), (by rw [← longF_step (by have := hnx.2.2.2.2.1; omega) c52]; exact iv0_3), (by have := hnx.2.2.2.2.1; simp only [List.length_append, List.length_singleton]; omega)⟩
   simp only [qz1, qz2, qz3, qz4, qz5, qz6, ne_eq, qz7] at c52
   refine W.exit ?_
   refine sQ rfl <| sM vo rfl ?_
   refine s_call cf104 [vo] rfl (reverse_any ho_vo) ?_
   rintro _ w73 ⟨rfl, ho74, g75⟩
   replace E := E.grow g75 (by omega)
   replace z48 := Nat.le_trans z48 g75.size
   replace K1 := K1.grow g75 (by omega)
   replace K29 := K29.grow g75 (by omega)
   replace h_b2 := g75.get n_vo_b2 h_b2
   replace h_b9 := g75.get n_vo_b9 h_b9
   replace h_b19 := g75.get n_vo_b19 h_b19
   replace h_b30 := g75.get n_vo_b30 h_b30
   replace h_b40 := g75.get n_vo_b40 h_b40
   replace ho_vo := ho74
   clear g75
   refine s_nil <| sQ rfl <| sM vo rfl <| sA vo rfl <| sA (I 0) rfl <| s_nil ?_
   refine W.ret ?_
   exact ⟨_, resE_tmp2 rfl, vo, (by rw [(longest_ok h8 c24).1]; rfl), (by have hq := (ho_vo.dn (B' := w.heap.size) (by omega)).sl; rw [(longest_ok h8 c24).2]; unfold longL; rw [← iv0_3, longF_end c52]; exact hq), E⟩
  refine s_alloc (cs := [I 0]) Al3 rfl ?_
  intro b76 w77 Nb76
  have o_K1_b76 := Nat.le_trans K1.size Nb76.ge
  have o_K18_b76 := Nat.le_trans K18.size Nb76.ge
  have o_K29_b76 := Nat.le_trans K29.size Nb76.ge
  have o_b76 := Nat.le_trans E.size Nb76.ge
  have o_b2_b76 := Nat.lt_of_lt_of_le (heap_lt h_b2) Nb76.ge
  have o_b9_b76 := Nat.lt_of_lt_of_le (heap_lt h_b9) Nb76.ge
  have o_b19_b76 := Nat.lt_of_lt_of_le (heap_lt h_b19) Nb76.ge
  have o_b30_b76 := Nat.lt_of_lt_of_le (heap_lt h_b30) Nb76.ge
  replace E := E.trans Nb76.ext
  replace K1 := K1.ext Nb76.ext
  replace K18 := K18.ext Nb76.ext
  replace K29 := K29.ext Nb76.ext
  replace h_b2 := Nb76.ext.get h_b2
  replace h_b9 := Nb76.ext.get h_b9
  replace h_b19 := Nb76.ext.get h_b19
  replace h_b30 := Nb76.ext.get h_b30
  have h_b76 := Nb76.same
  clear Nb76
  refine s_nil ⟨⟨E, K1, K18, K29, h_b2, h_b9, h_b19, h_b30⟩, ?_⟩
  refine t_l rfl ?_
  refine s_call cf100 [u27, I (maxT (readyL ws (orderP ws) (staleL ws rev)) (readyL ws (orderP ws) (staleL ws rev)).length)] rfl (index_int (maxT (readyL ws (orderP ws) (staleL ws rev)) (readyL ws (orderP ws) (staleL ws rev)).length) _ (hs28.to K29)) ?_
  rintro _ w78 ⟨rfl, x79⟩
  replace E := E.trans x79
  replace K1 := K1.ext x79
  replace K18 := K18.ext x79
  replace K29 := K29.ext x79
  replace h_b2 := x79.get h_b2
  replace h_b9 := x79.get h_b9
  replace h_b19 := x79.get h_b19
  replace h_b30 := x79.get h_b30
  replace h_b76 := x79.get h_b76
  clear x79
  refine s_nil ⟨⟨E, K1, K18, K29, h_b2, h_b9, h_b19, h_b30⟩, ?_⟩
  refine t_l rfl ?_
  refine s_st (b := b76) (off := 0) (vs := [I (idxI (readyL ws (orderP ws) (staleL ws rev)) (maxT (readyL ws (orderP ws) (staleL ws rev)) (readyL ws (orderP ws) (staleL ws rev)).length))]) (cs' := [I (idxI (readyL ws (orderP ws) (staleL ws rev)) (maxT (readyL ws (orderP ws) (staleL ws rev)) (readyL ws (orderP ws) (staleL ws rev)).length))]) (v := I (idxI (readyL ws (orderP ws) (staleL ws rev)) (maxT (readyL ws (orderP ws) (staleL ws rev)) (readyL ws (orderP ws) (staleL ws rev)).length))) rfl rfl Sz3 h_b76 rfl rfl rfl rfl rfl ?_
  intro w80 p81
  replace E := E.put (by omega) p81
  replace K1 := K1.put p81 (by omega)
  replace K18 := K18.put p81 (by omega)
  replace K29 := K29.put p81 (by omega)
  replace h_b2 := p81.get (by omega) h_b2
  replace h_b9 := p81.get (by omega) h_b9
  replace h_b19 := p81.get (by omega) h_b19
  replace h_b30 := p81.get (by omega) h_b30
  replace h_b76 := p81.same
  clear p81
  refine s_nil ⟨⟨E, K1, K18, K29, h_b2, h_b9, h_b19, h_b30⟩, ?_⟩
  refine t_nil ?_
  refine sQ rfl <| s_val (x_ld (p := Pz b76) (v := I (idxI (readyL ws (orderP ws) (staleL ws rev)) (maxT (readyL ws (orderP ws) (staleL ws rev)) (readyL ws (orderP ws) (staleL ws rev)).length))) rfl (ldb_sc Sc3 h_b76 rfl)) ?_
  refine s_bs1O (α := Int) T34 ((idxI (readyL ws (orderP ws) (staleL ws rev)) (maxT (readyL ws (orderP ws) (staleL ws rev)) (readyL ws (orderP ws) (staleL ws rev)).length) : Int)) rfl rfl rfl ?_
  intro v82 w83 ho84 x85
  have n_v82_b2 := ho84.ne' (heap_lt h_b2)
  have n_v82_b9 := ho84.ne' (heap_lt h_b9)
  have n_v82_b19 := ho84.ne' (heap_lt h_b19)
  have n_v82_b30 := ho84.ne' (heap_lt h_b30)
  have n_v82_b76 := ho84.ne' (heap_lt h_b76)
  have z86 := Nat.le_refl w80.heap.size
  have B_v82 := E.size
  have B_v82_K1 := K1.size
  have B_v82_K18 := K18.size
  have B_v82_K29 := K29.size
  replace E := E.trans x85
  replace z86 := Nat.le_trans z86 x85.size
  replace K1 := K1.ext x85
  replace K18 := K18.ext x85
  replace K29 := K29.ext x85
  replace h_b2 := x85.get h_b2
  replace h_b9 := x85.get h_b9
  replace h_b19 := x85.get h_b19
  replace h_b30 := x85.get h_b30
  replace h_b76 := x85.get h_b76
  clear x85
  refine sA v82 rfl <| s_nil <| W.seq <| W.block ?_
  refine W.loop (fun m σ W => ∃ (i : Int) (out : List Int) (f : Nat) (vo : Value) (ρ : Env), σ = upds ρ [(2, Pz b2), (10, Pz b30), (11, Pz b76), (12, vo)] ∧ m = f + 1 ∧ Ext w W ∧ KF 0 w W ∧ KF w21.heap.size w25 W ∧ W.heap[b2]? = some (.cells #[vw] 22 (0, 0)) ∧ W.heap[b9]? = some (.cells #[vw] 187 (0, 0)) ∧ W.heap[b19]? = some (.cells (encB (staleL ws rev)).toArray 141 (0, 0)) ∧ W.heap[b30]? = some (.cells #[u27] 34 (0, 0)) ∧ W.heap[b76]? = some (.cells #[I i] 3 (0, 0)) ∧ w80.heap.size ≤ W.heap.size ∧ OwnF w80.heap.size 3 W vo out ∧ vo.ownBlock ≠ some b2 ∧ vo.ownBlock ≠ some b9 ∧ vo.ownBlock ≠ some b19 ∧ vo.ownBlock ≠ some b30 ∧ vo.ownBlock ≠ some b76 ∧ 0 ≤ i ∧ i < (ws.length : Int) ∧ posO ws i ≤ f ∧ longF ws (readyL ws (orderP ws) (staleL ws rev)) f i out = longF ws (readyL ws (orderP ws) (staleL ws rev)) ws.length (lastL (readyL ws (orderP ws) (staleL ws rev))) [lastL (readyL ws (orderP ws) (staleL ws rev))] ∧ out.length + f ≤ ws.length + 1) ?_ ?_
  ·exact ⟨_, lastL (readyL ws (orderP ws) (staleL ws rev)), [lastL (readyL ws (orderP ws) (staleL ws rev))], ws.length, v82, _, upds_of _ _ ⟨rfl, rfl, rfl, rfl, trivial⟩, rfl, E, K1, K29, h_b2, h_b9, h_b19, h_b30, h_b76, z86, ho84, n_v82_b2, n_v82_b9, n_v82_b19, n_v82_b30, n_v82_b76, hla.1, (by have := hla.2.1; omega), (Nat.le_of_lt (posO_le (order_all hO hla.1 (by have := hla.2.1; omega)))), rfl, (by simp; omega)⟩
  rintro m σ w87 ⟨i, out, f, vo, ρ, rfl, rfl, E, K1, K29, h_b2, h_b9, h_b19, h_b30, h_b76, z86, ho_vo, n_vo_b2, n_vo_b9, n_vo_b19, n_vo_b30, n_vo_b76, iv0_0, iv0_1, iv0_2, iv0_3, iv0_4⟩
  have hof := right_of hR (i := Int.toNat i) (by omega)
  have hmn := right_nums hR (i := Int.toNat i) (by omega)
  have hai := readyL_at hR (staleL ws rev) (i := Int.toNat i) (by omega)
  refine W.seq <| W.seq ?_
  refine W.draw (fun W => Ext w W ∧ KF 0 w W ∧ KF w21.heap.size w25 W ∧ W.heap[b2]? = some (.cells #[vw] 22 (0, 0)) ∧ W.heap[b9]? = some (.cells #[vw] 187 (0, 0)) ∧ W.heap[b19]? = some (.cells (encB (staleL ws rev)).toArray 141 (0, 0)) ∧ W.heap[b30]? = some (.cells #[u27] 34 (0, 0)) ∧ W.heap[b76]? = some (.cells #[I i] 3 (0, 0)) ∧ OwnF w80.heap.size 3 W vo out) [(0, true), (1, true), (2, true), (3, true), (4, true), (5, true), (6, true), (7, true), (8, true), (9, true)] mixed (by decide +kernel) rfl ?_
  intro w88 x89
  replace E := E.trans x89
  replace z86 := Nat.le_trans z86 x89.size
  replace K1 := K1.ext x89
  replace K29 := K29.ext x89
  replace h_b2 := x89.get h_b2
  replace h_b9 := x89.get h_b9
  replace h_b19 := x89.get h_b19
  replace h_b30 := x89.get h_b30
  replace h_b76 := x89.get h_b76
  replace ho_vo := ho_vo.ext x89
  clear x89
  refine ⟨⟨E, K1, K29, h_b2, h_b9, h_b19, h_b30, h_b76, ho_vo⟩, ?_⟩
  refine d_q rfl (fun w' hC => by obtain ⟨E, K1, K29, h_b2, h_b9, h_b19, h_b30, h_b76, ho_vo⟩ := hC; exact x_ld (p := Pz b30) (v := u27) rfl (ldb_sc Sc34 h_b30 rfl)) ?_
  refine d_q rfl (fun w' hC => by obtain ⟨E, K1, K29, h_b2, h_b9, h_b19, h_b30, h_b76, ho_vo⟩ := hC; exact x_ld (p := Pz b76) (v := I i) rfl (ldb_sc Sc3 h_b76 rfl)) ?_
  refine d_q rfl (fun w' hC => by obtain ⟨E, K1, K29, h_b2, h_b9, h_b19, h_b30, h_b76, ho_vo⟩ := hC; exact x_ix (a := u27) (b := I i) (v := vat u27 1 (Int.toNat i)) rfl rfl (Sl.ix (α := Int) T34.und T34.size (hs28.to K29) (by omega) (by omega))) ?_
  refine d_q rfl (fun w' hC => by obtain ⟨E, K1, K29, h_b2, h_b9, h_b19, h_b30, h_b76, ho_vo⟩ := hC; exact x_ld (p := vat u27 1 (Int.toNat i)) (v := I ((readyL ws (orderP ws) (staleL ws rev)).getD (Int.toNat i) 0)) rfl (ld_sc Sc3 (At.to (Int_at hs28 (i := i) (by omega) (by omega)) K29))) ?_
  refine d_q rfl (fun w' hC => by obtain ⟨E, K1, K29, h_b2, h_b9, h_b19, h_b30, h_b76, ho_vo⟩ := hC; exact x_ld (p := Pz b2) (v := vw) rfl (ldb_sc Sc22 h_b2 rfl)) ?_
  refine d_q rfl (fun w' hC => by obtain ⟨E, K1, K29, h_b2, h_b9, h_b19, h_b30, h_b76, ho_vo⟩ := hC; exact x_ld (p := Pz b76) (v := I i) rfl (ldb_sc Sc3 h_b76 rfl)) ?_
  refine d_q rfl (fun w' hC => by obtain ⟨E, K1, K29, h_b2, h_b9, h_b19, h_b30, h_b76, ho_vo⟩ := hC; exact x_ix (a := vw) (b := I i) (v := vat vw 3 (Int.toNat i)) rfl rfl (Sl.ix (α := Work) T22.und T22.size (hw.to K1) (by omega) (by omega))) ?_
  refine d_q rfl (fun w' hC => by obtain ⟨E, K1, K29, h_b2, h_b9, h_b19, h_b30, h_b76, ho_vo⟩ := hC; exact x_fa (a := vat vw 3 (Int.toNat i)) (v := fat (vat vw 3 (Int.toNat i)) 2) rfl (fa_pl Fd60_2 Sz3 (Sl.pl (i := i) hw (by omega) (by omega)))) ?_
  refine d_q rfl (fun w' hC => by obtain ⟨E, K1, K29, h_b2, h_b9, h_b19, h_b30, h_b76, ho_vo⟩ := hC; exact x_ld (p := fat (vat vw 3 (Int.toNat i)) 2) (v := I ((ws.getD (Int.toNat i) default).minutes)) rfl (ld_sc Sc3 (At.to (Work_at2 hw (i := i) (by omega) (by omega)) K1))) ?_
  refine d_q rfl (fun w' hC => by obtain ⟨E, K1, K29, h_b2, h_b9, h_b19, h_b30, h_b76, ho_vo⟩ := hC; exact x_cmp (kd := .i64) (a := (readyL ws (orderP ws) (staleL ws rev)).getD (Int.toNat i) 0) (b := (ws.getD (Int.toNat i) default).minutes) (r := decide ((((ws.getD (Int.toNat i) default).minutes) : Int) < ((readyL ws (orderP ws) (staleL ws rev)).getD (Int.toNat i) 0))) rfl rfl rfl) ?_
  refine d_nil ?_
  refine W.cond (decide ((((ws.getD (Int.toNat i) default).minutes) : Int) < ((readyL ws (orderP ws) (staleL ws rev)).getD (Int.toNat i) 0))) rfl (fun c90 => ?_) (fun c90 => ?_)
  ·simp only [qz1, qz2, qz3, qz4, qz5, qz6, ne_eq, qz7] at c90
   have hnx := long_next hO iv0_0 iv0_1 c90
   have hnx1 := hnx.1
   have hnx2 := hnx.2.1
   refine W.skip <| W.block <| sQ rfl <| s_val (x_ld (p := Pz b2) (v := vw) rfl (ldb_sc Sc22 h_b2 rfl)) <| s_val (x_ld (p := Pz b76) (v := I i) rfl (ldb_sc Sc3 h_b76 rfl)) <| s_val (x_ix (a := vw) (b := I i) (v := vat vw 3 (Int.toNat i)) rfl rfl (Sl.ix (α := Work) T22.und T22.size (hw.to K1) (by omega) (by omega))) <| s_val (x_fa (a := vat vw 3 (Int.toNat i)) (v := fat (vat vw 3 (Int.toNat i)) 0) rfl (fa_pl Fd60_0 Sz34 (Sl.pl (i := i) hw (by omega) (by omega)))) ?_
   obtain ⟨u91, ha_u91, hs92⟩ := Work_at0 hw (i := i) (by omega) (by omega)
   replace hs92 : Sl _ u91 (ws.getD (Int.toNat i) default).of := hs92
   have hl_hs92 := hs92.len_le
   refine s_val (x_ld (p := fat (vat vw 3 (Int.toNat i)) 0) (v := u91) rfl (ld_sc Sc34 (At.to ha_u91 K1))) <| s_val (x_mf (fs := []) (cs := [Pz b30, Pz b76, Pz b2]) rfl rfl) ?_
   refine s_call cf102 [u91, .func (.func 103) #[] #[Pz b30, Pz b76, Pz b2]] rfl (indexFunc_int _ (hs92.to K1) ⟨103, [Pz b30, Pz b76, Pz b2], rfl, cf103, fun w' v x hE hD hA => by obtain rfl := Arg.int hA; exact (longest1 _ _ _ (hE.get h_b30) (hE.get h_b76) (hE.get h_b2) ((hs28.to K29).mono hE.le) ((hw.to K1).mono hE.le) (hof _ hD).1 (by have := (hof _ hD).2.1; omega) iv0_0 (by omega) iv0_1 (by omega))⟩) ?_
   rintro _ w93 ⟨rfl, x94⟩
   replace E := E.trans x94
   replace z86 := Nat.le_trans z86 x94.size
   replace K1 := K1.ext x94
   replace K29 := K29.ext x94
   replace h_b2 := x94.get h_b2
   replace h_b9 := x94.get h_b9
   replace h_b19 := x94.get h_b19
   replace h_b30 := x94.get h_b30
   replace h_b76 := x94.get h_b76
   replace ho_vo := ho_vo.ext x94
   clear x94
   refine sA (I (idxP (fun z_ : Int => (readyL ws (orderP ws) (staleL ws rev)).getD z_.toNat 0 == (readyL ws (orderP ws) (staleL ws rev)).getD (Int.toNat i) 0 - (ws.getD (Int.toNat i) default).minutes) ((ws.getD (Int.toNat i) default).of))) rfl <| s_nil <| sQ rfl <| s_val (x_ld (p := Pz b2) (v := vw) rfl (ldb_sc Sc22 h_b2 rfl)) <| s_val (x_ld (p := Pz b76) (v := I i) rfl (ldb_sc Sc3 h_b76 rfl)) <| s_val (x_ix (a := vw) (b := I i) (v := vat vw 3 (Int.toNat i)) rfl rfl (Sl.ix (α := Work) T22.und T22.size (hw.to K1) (by omega) (by omega))) <| s_val (x_fa (a := vat vw 3 (Int.toNat i)) (v := fat (vat vw 3 (Int.toNat i)) 0) rfl (fa_pl Fd60_0 Sz34 (Sl.pl (i := i) hw (by omega) (by omega)))) ?_
   obtain ⟨u95, ha_u95, hs96⟩ := Work_at0 hw (i := i) (by omega) (by omega)
   replace hs96 : Sl _ u95 (ws.getD (Int.toNat i) default).of := hs96
   have hl_hs96 := hs96.len_le
   refine s_val (x_ld (p := fat (vat vw 3 (Int.toNat i)) 0) (v := u95) rfl (ld_sc Sc34 (At.to ha_u95 K1))) <| sM (I (idxP (fun z_ : Int => (readyL ws (orderP ws) (staleL ws rev)).getD z_.toNat 0 == (readyL ws (orderP ws) (staleL ws rev)).getD (Int.toNat i) 0 - (ws.getD (Int.toNat i) default).minutes) ((ws.getD (Int.toNat i) default).of))) rfl <| s_val (x_ix (a := u95) (b := I (idxP (fun z_ : Int => (readyL ws (orderP ws) (staleL ws rev)).getD z_.toNat 0 == (readyL ws (orderP ws) (staleL ws rev)).getD (Int.toNat i) 0 - (ws.getD (Int.toNat i) default).minutes) ((ws.getD (Int.toNat i) default).of))) (v := vat u95 1 (Int.toNat (idxP (fun z_ : Int => (readyL ws (orderP ws) (staleL ws rev)).getD z_.toNat 0 == (readyL ws (orderP ws) (staleL ws rev)).getD (Int.toNat i) 0 - (ws.getD (Int.toNat i) default).minutes) ((ws.getD (Int.toNat i) default).of)))) rfl rfl (Sl.ix (α := Int) T34.und T34.size (hs96.to K1) (by omega) (by omega))) <| s_val (x_ld (p := vat u95 1 (Int.toNat (idxP (fun z_ : Int => (readyL ws (orderP ws) (staleL ws rev)).getD z_.toNat 0 == (readyL ws (orderP ws) (staleL ws rev)).getD (Int.toNat i) 0 - (ws.getD (Int.toNat i) default).minutes) ((ws.getD (Int.toNat i) default).of)))) (v := I (((ws.getD (Int.toNat i) default).of).getD (Int.toNat (idxP (fun z_ : Int => (readyL ws (orderP ws) (staleL ws rev)).getD z_.toNat 0 == (readyL ws (orderP ws) (staleL ws rev)).getD (Int.toNat i) 0 - (ws.getD (Int.toNat i) default).minutes) ((ws.getD (Int.toNat i) default).of))) 0)) rfl (ld_sc Sc3 (At.to (Int_at hs96 (i := idxP (fun z_ : Int => (readyL ws (orderP ws) (staleL ws rev)).getD z_.toNat 0 == (readyL ws (orderP ws) (staleL ws rev)).getD (Int.toNat i) 0 - (ws.getD (Int.toNat i) default).minutes) ((ws.getD (Int.toNat i) default).of)) (by omega) (by omega)) K1))) ?_
   refine s_st (b := b76) (off := 0) (vs := [I (((ws.getD (Int.toNat i) default).of).getD (Int.toNat (idxP (fun z_ : Int => (readyL ws (orderP ws) (staleL ws rev)).getD z_.toNat 0 == (readyL ws (orderP ws) (staleL ws rev)).getD (Int.toNat i) 0 - (ws.getD (Int.toNat i) default).minutes) ((ws.getD (Int.toNat i) default).of))) 0)]) (cs' := [I (((ws.getD (Int.toNat i) default).of).getD (Int.toNat (idxP (fun z_ : Int => (readyL ws (orderP ws) (staleL ws rev)).getD z_.toNat 0 == (readyL ws (orderP ws) (staleL ws rev)).getD (Int.toNat i) 0 - (ws.getD (Int.toNat i) default).minutes) ((ws.getD (Int.toNat i) default).of))) 0)]) (v := I (((ws.getD (Int.toNat i) default).of).getD (Int.toNat (idxP (fun z_ : Int => (readyL ws (orderP ws) (staleL ws rev)).getD z_.toNat 0 == (readyL ws (orderP ws) (staleL ws rev)).getD (Int.toNat i) 0 - (ws.getD (Int.toNat i) default).minutes) ((ws.getD (Int.toNat i) default).of))) 0)) rfl rfl Sz3 h_b76 rfl rfl rfl rfl rfl ?_
   intro w97 p98
   replace E := E.put (by omega) p98
   replace z86 := Nat.le_trans z86 (Nat.le_of_eq p98.size.symm)
   replace K1 := K1.put p98 (by omega)
   replace K29 := K29.put p98 (by omega)
   replace h_b2 := p98.get (by omega) h_b2
   replace h_b9 := p98.get (by omega) h_b9
   replace h_b19 := p98.get (by omega) h_b19
   replace h_b30 := p98.get (by omega) h_b30
   replace ho_vo := ho_vo.put p98 n_vo_b76
   replace h_b76 := p98.same
   clear p98
   refine s_nil <| W.region rfl <| sM vo rfl <| s_val (x_ld (p := Pz b76) (v := I (((ws.getD (Int.toNat i) default).of).getD (Int.toNat (idxP (fun z_ : Int => (readyL ws (orderP ws) (staleL ws rev)).getD z_.toNat 0 == (readyL ws (orderP ws) (staleL ws rev)).getD (Int.toNat i) 0 - (ws.getD (Int.toNat i) default).minutes) ((ws.getD (Int.toNat i) default).of))) 0)) rfl (ldb_sc Sc3 h_b76 rfl)) ?_
   refine s_bsl (α := Int) T34 w97.heap.size [I (((ws.getD (Int.toNat i) default).of).getD (Int.toNat (idxP (fun z_ : Int => (readyL ws (orderP ws) (staleL ws rev)).getD z_.toNat 0 == (readyL ws (orderP ws) (staleL ws rev)).getD (Int.toNat i) 0 - (ws.getD (Int.toNat i) default).minutes) ((ws.getD (Int.toNat i) default).of))) 0)] [(((ws.getD (Int.toNat i) default).of).getD (Int.toNat (idxP (fun z_ : Int => (readyL ws (orderP ws) (staleL ws rev)).getD z_.toNat 0 == (readyL ws (orderP ws) (staleL ws rev)).getD (Int.toNat i) 0 - (ws.getD (Int.toNat i) default).minutes) ((ws.getD (Int.toNat i) default).of))) 0 : Int)] rfl (.cons rfl (Flat.rep_enc _ _) <| .nil) (Nat.le_refl _) rfl (by decide) (by decide) ?_
   intro u99 w100 hs101 x102 nn_u99
   replace E := E.trans x102
   replace z86 := Nat.le_trans z86 x102.size
   replace K1 := K1.ext x102
   replace K29 := K29.ext x102
   replace h_b2 := x102.get h_b2
   replace h_b9 := x102.get h_b9
   replace h_b19 := x102.get h_b19
   replace h_b30 := x102.get h_b30
   replace h_b76 := x102.get h_b76
   replace ho_vo := ho_vo.ext x102
   clear x102
   have K103 := KF.refl w97.heap.size w100
   refine s_app (α := Int) (v := vo) (vy := u99) (l := out) (l2 := [(((ws.getD (Int.toNat i) default).of).getD (Int.toNat (idxP (fun z_ : Int => (readyL ws (orderP ws) (staleL ws rev)).getD z_.toNat 0 == (readyL ws (orderP ws) (staleL ws rev)).getD (Int.toNat i) 0 - (ws.getD (Int.toNat i) default).minutes) ((ws.getD (Int.toNat i) default).of))) 0 : Int)]) T34 rfl rfl ho_vo (hs101.to K103) (Cells.Le.refl _) z86 (by first | omega | (simp only [List.length_append, List.length_cons, List.length_nil, List.length_set]; omega)) (by first | omega | (simp only [List.length_append, List.length_cons, List.length_nil, List.length_set]; omega)) ?_
   intro v104 w105 ho106 g107 ne108
   have n_v104_b19 := ne108 b19 (heap_lt h_b19) n_vo_b19
   have n_v104_b2 := ne108 b2 (heap_lt h_b2) n_vo_b2
   have n_v104_b30 := ne108 b30 (heap_lt h_b30) n_vo_b30
   have n_v104_b76 := ne108 b76 (heap_lt h_b76) n_vo_b76
   have n_v104_b9 := ne108 b9 (heap_lt h_b9) n_vo_b9
   replace E := E.grow g107 (by omega)
   replace z86 := Nat.le_trans z86 g107.size
   replace K1 := K1.grow g107 (by omega)
   replace K29 := K29.grow g107 (by omega)
   replace h_b2 := g107.get n_vo_b2 h_b2
   replace h_b9 := g107.get n_vo_b9 h_b9
   replace h_b19 := g107.get n_vo_b19 h_b19
   replace h_b30 := g107.get n_vo_b30 h_b30
   replace h_b76 := g107.get n_vo_b76 h_b76
   clear g107 ne108
   refine sA v104 rfl <| s_nil ?_
   exact ⟨_, (by have := hnx.2.2.2.2.1; omega), nextL ws (readyL ws (orderP ws) (staleL ws rev)) i, (out ++ [nextL ws (readyL ws (orderP ws) (staleL ws rev)) i]), (f - 1), v104, _, upds_of _ _ ⟨rfl, rfl, rfl, rfl, trivial⟩, rfl, E, K1, K29, h_b2, h_b9, h_b19, h_b30, h_b76, z86, ho106, n_v104_b2, n_v104_b9, n_v104_b19, n_v104_b30, n_v104_b76, hnx.2.2.1, hnx.2.2.2.1, (by have := hnx.2.2.2.2.1; omega), (by rw [← longF_step (by have := hnx.2.2.2.2.1; omega) c90]; exact iv0_3), (by have := hnx.2.2.2.2.1; simp only [List.length_append, List.length_singleton]; omega)⟩
  simp only [qz1, qz2, qz3, qz4, qz5, qz6, ne_eq, qz7] at c90
  refine W.exit ?_
  refine sQ rfl <| sM vo rfl ?_
  refine s_call cf104 [vo] rfl (reverse_any ho_vo) ?_
  rintro _ w111 ⟨rfl, ho112, g113⟩
  replace E := E.grow g113 (by omega)
  replace z86 := Nat.le_trans z86 g113.size
  replace K1 := K1.grow g113 (by omega)
  replace K29 := K29.grow g113 (by omega)
  replace h_b2 := g113.get n_vo_b2 h_b2
  replace h_b9 := g113.get n_vo_b9 h_b9
  replace h_b19 := g113.get n_vo_b19 h_b19
  replace h_b30 := g113.get n_vo_b30 h_b30
  replace h_b76 := g113.get n_vo_b76 h_b76
  replace ho_vo := ho112
  clear g113
  refine s_nil <| sQ rfl <| sM vo rfl <| sA vo rfl <| sA (I 0) rfl <| s_nil ?_
  refine W.ret ?_
  exact ⟨_, resE_tmp2 rfl, vo, (by rw [(longest_ok h8 c24).1]; rfl), (by have hq := (ho_vo.dn (B' := w.heap.size) (by omega)).sl; rw [(longest_ok h8 c24).2]; unfold longL; rw [← iv0_3, longF_end c90]; exact hq), E⟩
 refine s_alloc (cs := [I 0]) Al3 rfl ?_
 intro b114 w115 Nb114
 have o_K1_b114 := Nat.le_trans K1.size Nb114.ge
 have o_K18_b114 := Nat.le_trans K18.size Nb114.ge
 have o_K29_b114 := Nat.le_trans K29.size Nb114.ge
 have o_b114 := Nat.le_trans E.size Nb114.ge
 have o_b2_b114 := Nat.lt_of_lt_of_le (heap_lt h_b2) Nb114.ge
 have o_b9_b114 := Nat.lt_of_lt_of_le (heap_lt h_b9) Nb114.ge
 have o_b19_b114 := Nat.lt_of_lt_of_le (heap_lt h_b19) Nb114.ge
 have o_b30_b114 := Nat.lt_of_lt_of_le (heap_lt h_b30) Nb114.ge
 replace E := E.trans Nb114.ext
 replace K1 := K1.ext Nb114.ext
 replace K18 := K18.ext Nb114.ext
 replace K29 := K29.ext Nb114.ext
 replace h_b2 := Nb114.ext.get h_b2
 replace h_b9 := Nb114.ext.get h_b9
 replace h_b19 := Nb114.ext.get h_b19
 replace h_b30 := Nb114.ext.get h_b30
 have h_b114 := Nb114.same
 clear Nb114
 refine s_nil ⟨⟨E, K1, K18, K29, h_b2, h_b9, h_b19, h_b30⟩, ?_⟩
 refine t_l rfl ?_
 refine s_call cf101 [u27] rfl (max_int _ (hs28.to K29) (by omega)) ?_
 rintro _ w116 ⟨rfl, x117⟩
 replace E := E.trans x117
 replace K1 := K1.ext x117
 replace K18 := K18.ext x117
 replace K29 := K29.ext x117
 replace h_b2 := x117.get h_b2
 replace h_b9 := x117.get h_b9
 replace h_b19 := x117.get h_b19
 replace h_b30 := x117.get h_b30
 replace h_b114 := x117.get h_b114
 clear x117
 refine s_nil ⟨⟨E, K1, K18, K29, h_b2, h_b9, h_b19, h_b30⟩, ?_⟩
 refine t_l rfl ?_
 refine s_call cf100 [u27, I (maxT (readyL ws (orderP ws) (staleL ws rev)) (readyL ws (orderP ws) (staleL ws rev)).length)] rfl (index_int (maxT (readyL ws (orderP ws) (staleL ws rev)) (readyL ws (orderP ws) (staleL ws rev)).length) _ (hs28.to K29)) ?_
 rintro _ w118 ⟨rfl, x119⟩
 replace E := E.trans x119
 replace K1 := K1.ext x119
 replace K18 := K18.ext x119
 replace K29 := K29.ext x119
 replace h_b2 := x119.get h_b2
 replace h_b9 := x119.get h_b9
 replace h_b19 := x119.get h_b19
 replace h_b30 := x119.get h_b30
 replace h_b114 := x119.get h_b114
 clear x119
 refine s_nil ⟨⟨E, K1, K18, K29, h_b2, h_b9, h_b19, h_b30⟩, ?_⟩
 refine t_l rfl ?_
 refine s_st (b := b114) (off := 0) (vs := [I (idxI (readyL ws (orderP ws) (staleL ws rev)) (maxT (readyL ws (orderP ws) (staleL ws rev)) (readyL ws (orderP ws) (staleL ws rev)).length))]) (cs' := [I (idxI (readyL ws (orderP ws) (staleL ws rev)) (maxT (readyL ws (orderP ws) (staleL ws rev)) (readyL ws (orderP ws) (staleL ws rev)).length))]) (v := I (idxI (readyL ws (orderP ws) (staleL ws rev)) (maxT (readyL ws (orderP ws) (staleL ws rev)) (readyL ws (orderP ws) (staleL ws rev)).length))) rfl rfl Sz3 h_b114 rfl rfl rfl rfl rfl ?_
 intro w120 p121
 replace E := E.put (by omega) p121
 replace K1 := K1.put p121 (by omega)
 replace K18 := K18.put p121 (by omega)
 replace K29 := K29.put p121 (by omega)
 replace h_b2 := p121.get (by omega) h_b2
 replace h_b9 := p121.get (by omega) h_b9
 replace h_b19 := p121.get (by omega) h_b19
 replace h_b30 := p121.get (by omega) h_b30
 replace h_b114 := p121.same
 clear p121
 refine s_nil ⟨⟨E, K1, K18, K29, h_b2, h_b9, h_b19, h_b30⟩, ?_⟩
 refine t_nil ?_
 refine sQ rfl <| s_val (x_ld (p := Pz b114) (v := I (idxI (readyL ws (orderP ws) (staleL ws rev)) (maxT (readyL ws (orderP ws) (staleL ws rev)) (readyL ws (orderP ws) (staleL ws rev)).length))) rfl (ldb_sc Sc3 h_b114 rfl)) ?_
 refine s_bs1O (α := Int) T34 ((idxI (readyL ws (orderP ws) (staleL ws rev)) (maxT (readyL ws (orderP ws) (staleL ws rev)) (readyL ws (orderP ws) (staleL ws rev)).length) : Int)) rfl rfl rfl ?_
 intro v122 w123 ho124 x125
 have n_v122_b2 := ho124.ne' (heap_lt h_b2)
 have n_v122_b9 := ho124.ne' (heap_lt h_b9)
 have n_v122_b19 := ho124.ne' (heap_lt h_b19)
 have n_v122_b30 := ho124.ne' (heap_lt h_b30)
 have n_v122_b114 := ho124.ne' (heap_lt h_b114)
 have z126 := Nat.le_refl w120.heap.size
 have B_v122 := E.size
 have B_v122_K1 := K1.size
 have B_v122_K18 := K18.size
 have B_v122_K29 := K29.size
 replace E := E.trans x125
 replace z126 := Nat.le_trans z126 x125.size
 replace K1 := K1.ext x125
 replace K18 := K18.ext x125
 replace K29 := K29.ext x125
 replace h_b2 := x125.get h_b2
 replace h_b9 := x125.get h_b9
 replace h_b19 := x125.get h_b19
 replace h_b30 := x125.get h_b30
 replace h_b114 := x125.get h_b114
 clear x125
 refine sA v122 rfl <| s_nil <| W.seq <| W.block ?_
 refine W.loop (fun m σ W => ∃ (i : Int) (out : List Int) (f : Nat) (vo : Value) (ρ : Env), σ = upds ρ [(2, Pz b2), (10, Pz b30), (11, Pz b114), (12, vo)] ∧ m = f + 1 ∧ Ext w W ∧ KF 0 w W ∧ KF w21.heap.size w25 W ∧ W.heap[b2]? = some (.cells #[vw] 22 (0, 0)) ∧ W.heap[b9]? = some (.cells #[vw] 187 (0, 0)) ∧ W.heap[b19]? = some (.cells (encB (staleL ws rev)).toArray 141 (0, 0)) ∧ W.heap[b30]? = some (.cells #[u27] 34 (0, 0)) ∧ W.heap[b114]? = some (.cells #[I i] 3 (0, 0)) ∧ w120.heap.size ≤ W.heap.size ∧ OwnF w120.heap.size 3 W vo out ∧ vo.ownBlock ≠ some b2 ∧ vo.ownBlock ≠ some b9 ∧ vo.ownBlock ≠ some b19 ∧ vo.ownBlock ≠ some b30 ∧ vo.ownBlock ≠ some b114 ∧ 0 ≤ i ∧ i < (ws.length : Int) ∧ posO ws i ≤ f ∧ longF ws (readyL ws (orderP ws) (staleL ws rev)) f i out = longF ws (readyL ws (orderP ws) (staleL ws rev)) ws.length (lastL (readyL ws (orderP ws) (staleL ws rev))) [lastL (readyL ws (orderP ws) (staleL ws rev))] ∧ out.length + f ≤ ws.length + 1) ?_ ?_
 ·exact ⟨_, lastL (readyL ws (orderP ws) (staleL ws rev)), [lastL (readyL ws (orderP ws) (staleL ws rev))], ws.length, v122, _, upds_of _ _ ⟨rfl, rfl, rfl, rfl, trivial⟩, rfl, E, K1, K29, h_b2, h_b9, h_b19, h_b30, h_b114, z126, ho124, n_v122_b2, n_v122_b9, n_v122_b19, n_v122_b30, n_v122_b114, hla.1, (by have := hla.2.1; omega), (Nat.le_of_lt (posO_le (order_all hO hla.1 (by have := hla.2.1; omega)))), rfl, (by simp; omega)⟩
 rintro m σ w127 ⟨i, out, f, vo, ρ, rfl, rfl, E, K1, K29, h_b2, h_b9, h_b19, h_b30, h_b114, z126, ho_vo, n_vo_b2, n_vo_b9, n_vo_b19, n_vo_b30, n_vo_b114, iv0_0, iv0_1, iv0_2, iv0_3, iv0_4⟩
 have hof := right_of hR (i := Int.toNat i) (by omega)
 have hmn := right_nums hR (i := Int.toNat i) (by omega)
 have hai := readyL_at hR (staleL ws rev) (i := Int.toNat i) (by omega)
 refine W.seq <| W.seq ?_
 refine W.draw (fun W => Ext w W ∧ KF 0 w W ∧ KF w21.heap.size w25 W ∧ W.heap[b2]? = some (.cells #[vw] 22 (0, 0)) ∧ W.heap[b9]? = some (.cells #[vw] 187 (0, 0)) ∧ W.heap[b19]? = some (.cells (encB (staleL ws rev)).toArray 141 (0, 0)) ∧ W.heap[b30]? = some (.cells #[u27] 34 (0, 0)) ∧ W.heap[b114]? = some (.cells #[I i] 3 (0, 0)) ∧ OwnF w120.heap.size 3 W vo out) [(0, true), (1, true), (2, true), (3, true), (4, true), (5, true), (6, true), (7, true), (8, true), (9, true)] mixed (by decide +kernel) rfl ?_
 intro w128 x129
 replace E := E.trans x129
 replace z126 := Nat.le_trans z126 x129.size
 replace K1 := K1.ext x129
 replace K29 := K29.ext x129
 replace h_b2 := x129.get h_b2
 replace h_b9 := x129.get h_b9
 replace h_b19 := x129.get h_b19
 replace h_b30 := x129.get h_b30
 replace h_b114 := x129.get h_b114
 replace ho_vo := ho_vo.ext x129
 clear x129
 refine ⟨⟨E, K1, K29, h_b2, h_b9, h_b19, h_b30, h_b114, ho_vo⟩, ?_⟩
 refine d_q rfl (fun w' hC => by obtain ⟨E, K1, K29, h_b2, h_b9, h_b19, h_b30, h_b114, ho_vo⟩ := hC; exact x_ld (p := Pz b30) (v := u27) rfl (ldb_sc Sc34 h_b30 rfl)) ?_
 refine d_q rfl (fun w' hC => by obtain ⟨E, K1, K29, h_b2, h_b9, h_b19, h_b30, h_b114, ho_vo⟩ := hC; exact x_ld (p := Pz b114) (v := I i) rfl (ldb_sc Sc3 h_b114 rfl)) ?_
 refine d_q rfl (fun w' hC => by obtain ⟨E, K1, K29, h_b2, h_b9, h_b19, h_b30, h_b114, ho_vo⟩ := hC; exact x_ix (a := u27) (b := I i) (v := vat u27 1 (Int.toNat i)) rfl rfl (Sl.ix (α := Int) T34.und T34.size (hs28.to K29) (by omega) (by omega))) ?_
 refine d_q rfl (fun w' hC => by obtain ⟨E, K1, K29, h_b2, h_b9, h_b19, h_b30, h_b114, ho_vo⟩ := hC; exact x_ld (p := vat u27 1 (Int.toNat i)) (v := I ((readyL ws (orderP ws) (staleL ws rev)).getD (Int.toNat i) 0)) rfl (ld_sc Sc3 (At.to (Int_at hs28 (i := i) (by omega) (by omega)) K29))) ?_
 refine d_q rfl (fun w' hC => by obtain ⟨E, K1, K29, h_b2, h_b9, h_b19, h_b30, h_b114, ho_vo⟩ := hC; exact x_ld (p := Pz b2) (v := vw) rfl (ldb_sc Sc22 h_b2 rfl)) ?_
 refine d_q rfl (fun w' hC => by obtain ⟨E, K1, K29, h_b2, h_b9, h_b19, h_b30, h_b114, ho_vo⟩ := hC; exact x_ld (p := Pz b114) (v := I i) rfl (ldb_sc Sc3 h_b114 rfl)) ?_
 refine d_q rfl (fun w' hC => by obtain ⟨E, K1, K29, h_b2, h_b9, h_b19, h_b30, h_b114, ho_vo⟩ := hC; exact x_ix (a := vw) (b := I i) (v := vat vw 3 (Int.toNat i)) rfl rfl (Sl.ix (α := Work) T22.und T22.size (hw.to K1) (by omega) (by omega))) ?_
 refine d_q rfl (fun w' hC => by obtain ⟨E, K1, K29, h_b2, h_b9, h_b19, h_b30, h_b114, ho_vo⟩ := hC; exact x_fa (a := vat vw 3 (Int.toNat i)) (v := fat (vat vw 3 (Int.toNat i)) 2) rfl (fa_pl Fd60_2 Sz3 (Sl.pl (i := i) hw (by omega) (by omega)))) ?_
 refine d_q rfl (fun w' hC => by obtain ⟨E, K1, K29, h_b2, h_b9, h_b19, h_b30, h_b114, ho_vo⟩ := hC; exact x_ld (p := fat (vat vw 3 (Int.toNat i)) 2) (v := I ((ws.getD (Int.toNat i) default).minutes)) rfl (ld_sc Sc3 (At.to (Work_at2 hw (i := i) (by omega) (by omega)) K1))) ?_
 refine d_q rfl (fun w' hC => by obtain ⟨E, K1, K29, h_b2, h_b9, h_b19, h_b30, h_b114, ho_vo⟩ := hC; exact x_cmp (kd := .i64) (a := (readyL ws (orderP ws) (staleL ws rev)).getD (Int.toNat i) 0) (b := (ws.getD (Int.toNat i) default).minutes) (r := decide ((((ws.getD (Int.toNat i) default).minutes) : Int) < ((readyL ws (orderP ws) (staleL ws rev)).getD (Int.toNat i) 0))) rfl rfl rfl) ?_
 refine d_nil ?_
 refine W.cond (decide ((((ws.getD (Int.toNat i) default).minutes) : Int) < ((readyL ws (orderP ws) (staleL ws rev)).getD (Int.toNat i) 0))) rfl (fun c130 => ?_) (fun c130 => ?_)
 ·simp only [qz1, qz2, qz3, qz4, qz5, qz6, ne_eq, qz7] at c130
  have hnx := long_next hO iv0_0 iv0_1 c130
  have hnx1 := hnx.1
  have hnx2 := hnx.2.1
  refine W.skip <| W.block <| sQ rfl <| s_val (x_ld (p := Pz b2) (v := vw) rfl (ldb_sc Sc22 h_b2 rfl)) <| s_val (x_ld (p := Pz b114) (v := I i) rfl (ldb_sc Sc3 h_b114 rfl)) <| s_val (x_ix (a := vw) (b := I i) (v := vat vw 3 (Int.toNat i)) rfl rfl (Sl.ix (α := Work) T22.und T22.size (hw.to K1) (by omega) (by omega))) <| s_val (x_fa (a := vat vw 3 (Int.toNat i)) (v := fat (vat vw 3 (Int.toNat i)) 0) rfl (fa_pl Fd60_0 Sz34 (Sl.pl (i := i) hw (by omega) (by omega)))) ?_
  obtain ⟨u131, ha_u131, hs132⟩ := Work_at0 hw (i := i) (by omega) (by omega)
  replace hs132 : Sl _ u131 (ws.getD (Int.toNat i) default).of := hs132
  have hl_hs132 := hs132.len_le
  refine s_val (x_ld (p := fat (vat vw 3 (Int.toNat i)) 0) (v := u131) rfl (ld_sc Sc34 (At.to ha_u131 K1))) <| s_val (x_mf (fs := []) (cs := [Pz b30, Pz b114, Pz b2]) rfl rfl) ?_
  refine s_call cf102 [u131, .func (.func 103) #[] #[Pz b30, Pz b114, Pz b2]] rfl (indexFunc_int _ (hs132.to K1) ⟨103, [Pz b30, Pz b114, Pz b2], rfl, cf103, fun w' v x hE hD hA => by obtain rfl := Arg.int hA; exact (longest1 _ _ _ (hE.get h_b30) (hE.get h_b114) (hE.get h_b2) ((hs28.to K29).mono hE.le) ((hw.to K1).mono hE.le) (hof _ hD).1 (by have := (hof _ hD).2.1; omega) iv0_0 (by omega) iv0_1 (by omega))⟩) ?_
  rintro _ w133 ⟨rfl, x134⟩
  replace E := E.trans x134
  replace z126 := Nat.le_trans z126 x134.size
  replace K1 := K1.ext x134
  replace K29 := K29.ext x134
  replace h_b2 := x134.get h_b2
  replace h_b9 := x134.get h_b9
  replace h_b19 := x134.get h_b19
  replace h_b30 := x134.get h_b30
  replace h_b114 := x134.get h_b114
  replace ho_vo := ho_vo.ext x134
  clear x134
  refine sA (I (idxP (fun z_ : Int => (readyL ws (orderP ws) (staleL ws rev)).getD z_.toNat 0 == (readyL ws (orderP ws) (staleL ws rev)).getD (Int.toNat i) 0 - (ws.getD (Int.toNat i) default).minutes) ((ws.getD (Int.toNat i) default).of))) rfl <| s_nil <| sQ rfl <| s_val (x_ld (p := Pz b2) (v := vw) rfl (ldb_sc Sc22 h_b2 rfl)) <| s_val (x_ld (p := Pz b114) (v := I i) rfl (ldb_sc Sc3 h_b114 rfl)) <| s_val (x_ix (a := vw) (b := I i) (v := vat vw 3 (Int.toNat i)) rfl rfl (Sl.ix (α := Work) T22.und T22.size (hw.to K1) (by omega) (by omega))) <| s_val (x_fa (a := vat vw 3 (Int.toNat i)) (v := fat (vat vw 3 (Int.toNat i)) 0) rfl (fa_pl Fd60_0 Sz34 (Sl.pl (i := i) hw (by omega) (by omega)))) ?_
  obtain ⟨u135, ha_u135, hs136⟩ := Work_at0 hw (i := i) (by omega) (by omega)
  replace hs136 : Sl _ u135 (ws.getD (Int.toNat i) default).of := hs136
  have hl_hs136 := hs136.len_le
  refine s_val (x_ld (p := fat (vat vw 3 (Int.toNat i)) 0) (v := u135) rfl (ld_sc Sc34 (At.to ha_u135 K1))) <| sM (I (idxP (fun z_ : Int => (readyL ws (orderP ws) (staleL ws rev)).getD z_.toNat 0 == (readyL ws (orderP ws) (staleL ws rev)).getD (Int.toNat i) 0 - (ws.getD (Int.toNat i) default).minutes) ((ws.getD (Int.toNat i) default).of))) rfl <| s_val (x_ix (a := u135) (b := I (idxP (fun z_ : Int => (readyL ws (orderP ws) (staleL ws rev)).getD z_.toNat 0 == (readyL ws (orderP ws) (staleL ws rev)).getD (Int.toNat i) 0 - (ws.getD (Int.toNat i) default).minutes) ((ws.getD (Int.toNat i) default).of))) (v := vat u135 1 (Int.toNat (idxP (fun z_ : Int => (readyL ws (orderP ws) (staleL ws rev)).getD z_.toNat 0 == (readyL ws (orderP ws) (staleL ws rev)).getD (Int.toNat i) 0 - (ws.getD (Int.toNat i) default).minutes) ((ws.getD (Int.toNat i) default).of)))) rfl rfl (Sl.ix (α := Int) T34.und T34.size (hs136.to K1) (by omega) (by omega))) <| s_val (x_ld (p := vat u135 1 (Int.toNat (idxP (fun z_ : Int => (readyL ws (orderP ws) (staleL ws rev)).getD z_.toNat 0 == (readyL ws (orderP ws) (staleL ws rev)).getD (Int.toNat i) 0 - (ws.getD (Int.toNat i) default).minutes) ((ws.getD (Int.toNat i) default).of)))) (v := I (((ws.getD (Int.toNat i) default).of).getD (Int.toNat (idxP (fun z_ : Int => (readyL ws (orderP ws) (staleL ws rev)).getD z_.toNat 0 == (readyL ws (orderP ws) (staleL ws rev)).getD (Int.toNat i) 0 - (ws.getD (Int.toNat i) default).minutes) ((ws.getD (Int.toNat i) default).of))) 0)) rfl (ld_sc Sc3 (At.to (Int_at hs136 (i := idxP (fun z_ : Int => (readyL ws (orderP ws) (staleL ws rev)).getD z_.toNat 0 == (readyL ws (orderP ws) (staleL ws rev)).getD (Int.toNat i) 0 - (ws.getD (Int.toNat i) default).minutes) ((ws.getD (Int.toNat i) default).of)) (by omega) (by omega)) K1))) ?_
  refine s_st (b := b114) (off := 0) (vs := [I (((ws.getD (Int.toNat i) default).of).getD (Int.toNat (idxP (fun z_ : Int => (readyL ws (orderP ws) (staleL ws rev)).getD z_.toNat 0 == (readyL ws (orderP ws) (staleL ws rev)).getD (Int.toNat i) 0 - (ws.getD (Int.toNat i) default).minutes) ((ws.getD (Int.toNat i) default).of))) 0)]) (cs' := [I (((ws.getD (Int.toNat i) default).of).getD (Int.toNat (idxP (fun z_ : Int => (readyL ws (orderP ws) (staleL ws rev)).getD z_.toNat 0 == (readyL ws (orderP ws) (staleL ws rev)).getD (Int.toNat i) 0 - (ws.getD (Int.toNat i) default).minutes) ((ws.getD (Int.toNat i) default).of))) 0)]) (v := I (((ws.getD (Int.toNat i) default).of).getD (Int.toNat (idxP (fun z_ : Int => (readyL ws (orderP ws) (staleL ws rev)).getD z_.toNat 0 == (readyL ws (orderP ws) (staleL ws rev)).getD (Int.toNat i) 0 - (ws.getD (Int.toNat i) default).minutes) ((ws.getD (Int.toNat i) default).of))) 0)) rfl rfl Sz3 h_b114 rfl rfl rfl rfl rfl ?_
  intro w137 p138
  replace E := E.put (by omega) p138
  replace z126 := Nat.le_trans z126 (Nat.le_of_eq p138.size.symm)
  replace K1 := K1.put p138 (by omega)
  replace K29 := K29.put p138 (by omega)
  replace h_b2 := p138.get (by omega) h_b2
  replace h_b9 := p138.get (by omega) h_b9
  replace h_b19 := p138.get (by omega) h_b19
  replace h_b30 := p138.get (by omega) h_b30
  replace ho_vo := ho_vo.put p138 n_vo_b114
  replace h_b114 := p138.same
  clear p138
  refine s_nil <| W.region rfl <| sM vo rfl <| s_val (x_ld (p := Pz b114) (v := I (((ws.getD (Int.toNat i) default).of).getD (Int.toNat (idxP (fun z_ : Int => (readyL ws (orderP ws) (staleL ws rev)).getD z_.toNat 0 == (readyL ws (orderP ws) (staleL ws rev)).getD (Int.toNat i) 0 - (ws.getD (Int.toNat i) default).minutes) ((ws.getD (Int.toNat i) default).of))) 0)) rfl (ldb_sc Sc3 h_b114 rfl)) ?_
  refine s_bsl (α := Int) T34 w137.heap.size [I (((ws.getD (Int.toNat i) default).of).getD (Int.toNat (idxP (fun z_ : Int => (readyL ws (orderP ws) (staleL ws rev)).getD z_.toNat 0 == (readyL ws (orderP ws) (staleL ws rev)).getD (Int.toNat i) 0 - (ws.getD (Int.toNat i) default).minutes) ((ws.getD (Int.toNat i) default).of))) 0)] [(((ws.getD (Int.toNat i) default).of).getD (Int.toNat (idxP (fun z_ : Int => (readyL ws (orderP ws) (staleL ws rev)).getD z_.toNat 0 == (readyL ws (orderP ws) (staleL ws rev)).getD (Int.toNat i) 0 - (ws.getD (Int.toNat i) default).minutes) ((ws.getD (Int.toNat i) default).of))) 0 : Int)] rfl (.cons rfl (Flat.rep_enc _ _) <| .nil) (Nat.le_refl _) rfl (by decide) (by decide) ?_
  intro u139 w140 hs141 x142 nn_u139
  replace E := E.trans x142
  replace z126 := Nat.le_trans z126 x142.size
  replace K1 := K1.ext x142
  replace K29 := K29.ext x142
  replace h_b2 := x142.get h_b2
  replace h_b9 := x142.get h_b9
  replace h_b19 := x142.get h_b19
  replace h_b30 := x142.get h_b30
  replace h_b114 := x142.get h_b114
  replace ho_vo := ho_vo.ext x142
  clear x142
  have K143 := KF.refl w137.heap.size w140
  refine s_app (α := Int) (v := vo) (vy := u139) (l := out) (l2 := [(((ws.getD (Int.toNat i) default).of).getD (Int.toNat (idxP (fun z_ : Int => (readyL ws (orderP ws) (staleL ws rev)).getD z_.toNat 0 == (readyL ws (orderP ws) (staleL ws rev)).getD (Int.toNat i) 0 - (ws.getD (Int.toNat i) default).minutes) ((ws.getD (Int.toNat i) default).of))) 0 : Int)]) T34 rfl rfl ho_vo (hs141.to K143) (Cells.Le.refl _) z126 (by first | omega | (simp only [List.length_append, List.length_cons, List.length_nil, List.length_set]; omega)) (by first | omega | (simp only [List.length_append, List.length_cons, List.length_nil, List.length_set]; omega)) ?_
  intro v144 w145 ho146 g147 ne148
  have n_v144_b114 := ne148 b114 (heap_lt h_b114) n_vo_b114
  have n_v144_b19 := ne148 b19 (heap_lt h_b19) n_vo_b19
  have n_v144_b2 := ne148 b2 (heap_lt h_b2) n_vo_b2
  have n_v144_b30 := ne148 b30 (heap_lt h_b30) n_vo_b30
  have n_v144_b9 := ne148 b9 (heap_lt h_b9) n_vo_b9
  replace E := E.grow g147 (by omega)
  replace z126 := Nat.le_trans z126 g147.size
  replace K1 := K1.grow g147 (by omega)
  replace K29 := K29.grow g147 (by omega)
  replace h_b2 := g147.get n_vo_b2 h_b2
  replace h_b9 := g147.get n_vo_b9 h_b9
  replace h_b19 := g147.get n_vo_b19 h_b19
  replace h_b30 := g147.get n_vo_b30 h_b30
  replace h_b114 := g147.get n_vo_b114 h_b114
  clear g147 ne148
  refine sA v144 rfl <| s_nil ?_
  exact ⟨_, (by have := hnx.2.2.2.2.1; omega), nextL ws (readyL ws (orderP ws) (staleL ws rev)) i, (out ++ [nextL ws (readyL ws (orderP ws) (staleL ws rev)) i]), (f - 1), v144, _, upds_of _ _ ⟨rfl, rfl, rfl, rfl, trivial⟩, rfl, E, K1, K29, h_b2, h_b9, h_b19, h_b30, h_b114, z126, ho146, n_v144_b2, n_v144_b9, n_v144_b19, n_v144_b30, n_v144_b114, hnx.2.2.1, hnx.2.2.2.1, (by have := hnx.2.2.2.2.1; omega), (by rw [← longF_step (by have := hnx.2.2.2.2.1; omega) c130]; exact iv0_3), (by have := hnx.2.2.2.2.1; simp only [List.length_append, List.length_singleton]; omega)⟩
 simp only [qz1, qz2, qz3, qz4, qz5, qz6, ne_eq, qz7] at c130
 refine W.exit ?_
 refine sQ rfl <| sM vo rfl ?_
 refine s_call cf104 [vo] rfl (reverse_any ho_vo) ?_
 rintro _ w151 ⟨rfl, ho152, g153⟩
 replace E := E.grow g153 (by omega)
 replace z126 := Nat.le_trans z126 g153.size
 replace K1 := K1.grow g153 (by omega)
 replace K29 := K29.grow g153 (by omega)
 replace h_b2 := g153.get n_vo_b2 h_b2
 replace h_b9 := g153.get n_vo_b9 h_b9
 replace h_b19 := g153.get n_vo_b19 h_b19
 replace h_b30 := g153.get n_vo_b30 h_b30
 replace h_b114 := g153.get n_vo_b114 h_b114
 replace ho_vo := ho152
 clear g153
 refine s_nil <| sQ rfl <| sM vo rfl <| sA vo rfl <| sA (I 0) rfl <| s_nil ?_
 refine W.ret ?_
 exact ⟨_, resE_tmp2 rfl, vo, (by rw [(longest_ok h8 c24).1]; rfl), (by have hq := (ho_vo.dn (B' := w.heap.size) (by omega)).sl; rw [(longest_ok h8 c24).2]; unfold longL; rw [← iv0_3, longF_end c130]; exact hq), E⟩

end Go.Proofs.Ytndobgodeicloaa
end
