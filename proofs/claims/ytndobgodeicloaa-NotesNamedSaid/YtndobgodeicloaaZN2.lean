/- Part 2 of the texts on which the proof rests. Conditions: none. -/
import Derived.Test.YtndobgodeicloaaProg
import Derived.Ground.NamesProg
import Derived.Shelf.Slices.Cells
import Derived.Shelf.Bits.Mul64
import Derived.Test.YtndobgodeicloaaZN1
set_option linter.unusedVariables false
set_option linter.unusedSimpArgs false
set_option linter.unusedSectionVars false
namespace Go.Nm
/-- Do two notes contradict each other? -/
def twP (m n : Note) : Bool := ((m.work == n.work) && (m.version == n.version)) && !(decide (m = n))
def twAt (l : List Note) (i : Nat) : Bool := (l.take i).any fun m => twP m (l.getD i default)
def newStep (f : Int -> Option Note) (n : Note) : Int -> Option Note := if !((f n.work).isSome) || decide (((f n.work).getD default).version < n.version) then updF f n.work n else f
/-- The newest note of each work. -/
def newF (l : List Note) : Int -> Option Note := l.foldl newStep fun _ => none
theorem newF_next (l : List Note) {i : Nat} (h : (i : Int) < l.length) : newF (l.take (i + 1)) = newStep (newF (l.take i)) (l.getD i default) := by
  unfold newF
  rw [take_succ_getD l (by omega) default, List.foldl_append]; rfl
def sumV (out : List Int) (base : Int) (of : List Int) : Nat -> Int
  | 0 => base
  | j + 1 => sumV out base of j + ((j : Int) + 1) * out.getD (of.getD j 0).toNat 0
def noteV (f : Int -> Option Note) (out : List Int) (i : Int) : List Int := if (f i).isSome then out.set i.toNat ((f i).getD default).value else out
def valStep (ws : List Work) (f : Int -> Option Note) (out : List Int) (i : Int) : List Int :=
  if (((ws.getD i.toNat default).of.length : Int) == 0) || !((ws.getD i.toNat default).of.all fun k => (noteV f out i).getD k.toNat 0 != -1) then noteV f out i
  else (noteV f out i).set i.toNat (sumV (noteV f out i) (ws.getD i.toNat default).base (ws.getD i.toNat default).of (ws.getD i.toNat default).of.length % 1000003)
def valF (ws : List Work) (f : Int -> Option Note) (l out : List Int) : List Int := l.foldl (valStep ws f) out
def valL (ws : List Work) (l : List Note) : List Int := valF ws (newF l) (orderP ws) (List.replicate ws.length (-1))
theorem valF_next (ws : List Work) (f : Int -> Option Note) (l out : List Int) {k : Nat} (h : (k : Int) < l.length) : valF ws f (l.take (k + 1)) out = valStep ws f (valF ws f (l.take k) out) (l.getD k 0) := by
  unfold valF
  rw [take_succ_getD l (by omega) 0, List.foldl_append]; rfl
def argB (ws : List Work) (l : List Note) : Bool := l.all fun n => inB n.work 0 ((ws.length : Int) - 1) && (((ws.getD n.work.toNat default).of.length : Int) == 0)
def rngB (l : List Note) : Bool := l.all fun n => inB n.version 0 1000000 && inB n.value 0 1000002
/-- The error of works and notes. -/
def valuesE (ws : List Work) (l : List Note) : Int :=
  if openedE ws ≠ 0 then openedE ws else if 200 < (l.length : Int) then 3 else if !(argB ws l) then 2 else if !(rngB l) then 4 else if (List.range l.length).any (twAt l) then 10 else 0
/-- The values of works, if there is no error. -/
def valuesR (ws : List Work) (l : List Note) : List Int := if valuesE ws l = 0 then valL ws l else []
end Go.Nm
namespace Go.Nm
theorem tw_step {l : List Note} {n : Note} {j : Nat} (h : (l.take j).any (fun m => twP m n) = false) (hj : (j : Int) < l.length) (c : twP (l.getD j default) n = false) : (l.take (j + 1)).any (fun m => twP m n) = false := by
  rw [any_take_succ (fun m => twP m n) l (by omega) default, h, c]; rfl
theorem tw_end {l : List Note} {i j : Nat} (hb : (List.range i).any (twAt l) = false) (h : ((l.take i).take j).any (fun m => twP m (l.getD i default)) = false) (hj : ¬ (j : Int) < (l.take i).length) : (List.range (i + 1)).any (twAt l) = false := by
  rw [List.take_of_length_le (by omega)] at h
  rw [any_range_succ, hb]
  exact h
theorem tw_yes {l : List Note} {i j : Nat} (hi : (i : Int) < l.length) (hj : (j : Int) < (l.take i).length) (c : twP ((l.take i).getD j default) (l.getD i default) = true) : (List.range l.length).any (twAt l) = true := by
  refine List.any_eq_true.2 ⟨i, List.mem_range.2 (by omega), List.any_eq_true.2 ⟨_, getD_memN _ hj default, c⟩⟩
theorem v_wrong {ws : List Work} {l : List Note} (h : openedE ws ≠ 0) : valuesE ws l = openedE ws /\ valuesR ws l = [] := by
  have : valuesE ws l = openedE ws := by unfold valuesE; rw [if_pos h]
  exact ⟨this, by unfold valuesR; rw [this, if_neg h]⟩
theorem v_err {ws : List Work} {l : List Note} {e : Int} (h : valuesE ws l = e) (he : e ≠ 0) : valuesR ws l = [] := by unfold valuesR; rw [h, if_neg he]
theorem v_many {ws : List Work} {l : List Note} (h : openedE ws = 0) (c : 200 < (l.length : Int)) : valuesE ws l = 3 := by unfold valuesE; rw [if_neg (by simp [h]), if_pos c]
theorem v_arg {ws : List Work} {l : List Note} (h : openedE ws = 0) (c : ¬ 200 < (l.length : Int)) (c2 : (!(argB ws l)) = true) : valuesE ws l = 2 := by unfold valuesE; rw [if_neg (by simp [h]), if_neg c, if_pos c2]
theorem v_rng {ws : List Work} {l : List Note} (h : openedE ws = 0) (c : ¬ 200 < (l.length : Int)) (c2 : (!(argB ws l)) = false) (c3 : (!(rngB l)) = true) : valuesE ws l = 4 := by
  unfold valuesE; rw [if_neg (by simp [h]), if_neg c, if_neg (by simp [c2]), if_pos c3]
theorem v_twice {ws : List Work} {l : List Note} (h : openedE ws = 0) (c : ¬ 200 < (l.length : Int)) (c2 : (!(argB ws l)) = false) (c3 : (!(rngB l)) = false) (c4 : (List.range l.length).any (twAt l) = true) : valuesE ws l = 10 := by
  unfold valuesE; rw [if_neg (by simp [h]), if_neg c, if_neg (by simp [c2]), if_neg (by simp [c3]), if_pos c4]
theorem v_ok {ws : List Work} {l : List Note} {i : Nat} (h : openedE ws = 0) (c : ¬ 200 < (l.length : Int)) (c2 : (!(argB ws l)) = false) (c3 : (!(rngB l)) = false) (hi : ¬ (i : Int) < l.length) (hle : i <= l.length) (c4 : (List.range i).any (twAt l) = false) :
    valuesE ws l = 0 /\ valuesR ws l = valL ws l := by
  obtain rfl : i = l.length := by omega
  have : valuesE ws l = 0 := by unfold valuesE; rw [if_neg (by simp [h]), if_neg c, if_neg (by simp [c2]), if_neg (by simp [c3]), if_neg (by simp [c4])]
  exact ⟨this, by unfold valuesR; rw [this, if_pos rfl]⟩
theorem newStep_yes {f : Int -> Option Note} {n : Note} (c : (!((f n.work).isSome) || decide (((f n.work).getD default).version < n.version)) = true) : newStep f n = updF f n.work n := by unfold newStep; rw [if_pos c]
theorem newStep_no {f : Int -> Option Note} {n : Note} (c : (!((f n.work).isSome) || decide (((f n.work).getD default).version < n.version)) = false) : newStep f n = f := by unfold newStep; rw [if_neg (by rw [c]; decide)]
theorem newF_memA : ∀ (l : List Note) (f : Int -> Option Note) (k : Int) (n : Note), l.foldl newStep f k = some n -> f k = some n ∨ n ∈ l
  | [], _, _, _, h => .inl h
  | m :: l, f, k, n, h => by
    simp only [List.foldl_cons] at h
    rcases newF_memA l (newStep f m) k n h with h1 | h1
    · unfold newStep at h1
      split at h1
      · unfold updF at h1
        split at h1
        · injection h1 with h1; subst h1; exact .inr (by simp)
        · exact .inl h1
      · exact .inl h1
    · exact .inr (by simp [h1])
theorem newF_mem {l : List Note} {k : Int} {n : Note} (h : newF l k = some n) : n ∈ l := by
  rcases newF_memA l _ k n h with h1 | h1
  · cases h1
  · exact h1
theorem newF_val {l : List Note} (c3 : (!(rngB l)) = false) (i : Nat) (k : Int) (h : (newF (l.take i) k).isSome = true) : 0 <= ((newF (l.take i) k).getD default).value /\ ((newF (l.take i) k).getD default).value <= 1000002 := by
  obtain ⟨n, hn⟩ := Option.isSome_iff_exists.1 h
  have hm := List.mem_of_mem_take (newF_mem hn)
  rw [hn]
  simp only [Bool.not_eq_false'] at c3
  have := List.all_eq_true.1 c3 n hm
  simp [inB] at this
  simp only [Option.getD_some]
  omega
theorem noteV_yes {f : Int -> Option Note} {R : List Int} {i : Int} (h : (f i).isSome = true) : noteV f R i = R.set i.toNat ((f i).getD default).value := by unfold noteV; rw [if_pos h]
theorem noteV_no {f : Int -> Option Note} {R : List Int} {i : Int} (h : (f i).isSome = false) : noteV f R i = R := by unfold noteV; rw [if_neg (by simp [h])]
theorem val_skip {ws : List Work} {f : Int -> Option Note} {R O : List Int} {i : Int} (hO : noteV f R i = O)
    (c : (((((ws.getD i.toNat default).of.length : Int) == 0)) || !((ws.getD i.toNat default).of.all fun k => O.getD k.toNat 0 != -1)) = true) : valStep ws f R i = O := by
  unfold valStep; rw [hO, if_pos c]
theorem val_set {ws : List Work} {f : Int -> Option Note} {R O : List Int} {i : Int} (hO : noteV f R i = O)
    (c : (((((ws.getD i.toNat default).of.length : Int) == 0)) || !((ws.getD i.toNat default).of.all fun k => O.getD k.toNat 0 != -1)) = false) {j : Nat} (hj : ¬ (j : Int) < (ws.getD i.toNat default).of.length) (hle : j <= (ws.getD i.toNat default).of.length) :
    valStep ws f R i = O.set i.toNat (sumV O (ws.getD i.toNat default).base (ws.getD i.toNat default).of j % 1000003) := by
  obtain rfl : j = (ws.getD i.toNat default).of.length := by omega
  unfold valStep; rw [hO, if_neg (by simp only [c]; simp)]
theorem noteV_len (f : Int -> Option Note) (R : List Int) (i : Int) : (noteV f R i).length = R.length := by unfold noteV; split <;> simp
theorem valStep_len (ws : List Work) (f : Int -> Option Note) (R : List Int) (i : Int) : (valStep ws f R i).length = R.length := by
  unfold valStep; split <;> simp [noteV_len]
theorem valF_len (ws : List Work) (f : Int -> Option Note) : ∀ (l out : List Int), (valF ws f l out).length = out.length
  | [], _ => rfl
  | i :: l, out => (valF_len ws f l _).trans (valStep_len ws f out i)
def VB (l : List Int) : Prop := ∀ y ∈ l, -1 <= y /\ y <= 1000002
theorem VB.set {l : List Int} (h : VB l) {v : Int} (h1 : -1 <= v) (h2 : v <= 1000002) (k : Nat) : VB (l.set k v) := by
  intro y hy
  rcases List.mem_or_eq_of_mem_set hy with h3 | h3
  · exact h y h3
  · omega
theorem VB.at {l : List Int} (h : VB l) {k : Nat} (hk : (k : Int) < l.length) : -1 <= l.getD k 0 /\ l.getD k 0 <= 1000002 := h _ (getD_memN l hk 0)
theorem valStep_VB {ws : List Work} {f : Int -> Option Note} (hf : ∀ k, (f k).isSome = true -> 0 <= ((f k).getD default).value /\ ((f k).getD default).value <= 1000002) {R : List Int} (h : VB R) (i : Int) : VB (valStep ws f R i) := by
  have hn : VB (noteV f R i) := by
    unfold noteV
    split
    · rename_i h1
      have := hf i h1
      exact h.set (by omega) (by omega) _
    · exact h
  unfold valStep
  split
  · exact hn
  · exact hn.set (by have := Int.emod_nonneg (sumV (noteV f R i) (ws.getD i.toNat default).base (ws.getD i.toNat default).of (ws.getD i.toNat default).of.length) (show (1000003 : Int) ≠ 0 by decide); omega)
      (by have := Int.emod_lt_of_pos (sumV (noteV f R i) (ws.getD i.toNat default).base (ws.getD i.toNat default).of (ws.getD i.toNat default).of.length) (show (0 : Int) < 1000003 by decide); omega) _
theorem valF_VB {ws : List Work} {f : Int -> Option Note} (hf : ∀ k, (f k).isSome = true -> 0 <= ((f k).getD default).value /\ ((f k).getD default).value <= 1000002) : ∀ (l : List Int) {R : List Int}, VB R -> VB (valF ws f l R)
  | [], _, h => h
  | i :: l, _, h => valF_VB hf l (valStep_VB hf h i)
theorem prod_b {a b : Int} (h1 : 0 <= a) (h2 : a <= 5) (h3 : 0 <= b) (h4 : b <= 1000002) : 0 <= a * b /\ a * b <= 5000010 :=
  ⟨Int.mul_nonneg h1 h3, by have := Int.mul_le_mul h2 h4 h3 (show (0 : Int) <= 5 by decide); omega⟩
theorem sumV_b {out : List Int} {base : Int} {of : List Int} (hb : 0 <= base /\ base <= 1000002) (h5 : of.length <= 5) (hof : ∀ k ∈ of, 0 <= out.getD k.toNat 0 /\ out.getD k.toNat 0 <= 1000002) : ∀ j : Nat, j <= of.length -> 0 <= sumV out base of j /\ sumV out base of j <= 1000002 + 5000010 * (j : Int)
  | 0, _ => by simp only [sumV]; omega
  | j + 1, hj => by
    have ih := sumV_b hb h5 hof j (by omega)
    have hm := hof _ (getD_memN of (i := j) (by omega) 0)
    have := prod_b (a := (j : Int) + 1) (by omega) (by omega) hm.1 hm.2
    simp only [sumV]
    omega
theorem known_vals {O of : List Int} {len0 : Bool} (c : (len0 || !(of.all fun k => O.getD k.toNat 0 != -1)) = false) (hO : VB O) (hr : ∀ k ∈ of, 0 <= k /\ k < (O.length : Int)) : ∀ k ∈ of, 0 <= O.getD k.toNat 0 /\ O.getD k.toNat 0 <= 1000002 := by
  intro k hk
  simp only [Bool.or_eq_false_iff, Bool.not_eq_false'] at c
  have h1 := List.all_eq_true.1 c.2 k hk
  have h2 := hO.at (k := k.toNat) (by have := hr k hk; omega)
  have h3 : O.getD k.toNat 0 ≠ -1 := by simpa [-List.getD_eq_getElem?_getD] using h1
  omega
end Go.Nm
namespace Go.Nm
def pubB (ws : List Work) (p : List Pub) : Bool := p.all fun x => inB x.work 0 ((ws.length : Int) - 1)
def wdAt (v : List Int) (x : Pub) : Bool := (v.getD x.work.toNat 0 == -1) || (v.getD x.work.toNat 0 != x.value)
def wdT (v : List Int) (p : List Pub) (n : Nat) : List Int := ((List.range n).filter fun j => wdAt v (p.getD j default)).map (fun j : Nat => (j : Int))
theorem wdT_next (v : List Int) (p : List Pub) (n : Nat) : wdT v p (n + 1) = if wdAt v (p.getD n default) = true then wdT v p n ++ [(n : Int)] else wdT v p n := by
  unfold wdT
  rw [List.range_succ, List.filter_append]
  split
  · rename_i h; simp only [List.filter_cons, h, if_true, List.filter_nil, List.map_append, List.map_cons, List.map_nil]
  · rename_i h; simp only [List.filter_cons, h, List.filter_nil, Bool.false_eq_true, if_false, List.append_nil]
theorem wdT_len (v : List Int) (p : List Pub) (n : Nat) : (wdT v p n).length <= n := by
  unfold wdT
  rw [List.length_map]
  exact Nat.le_trans (List.length_filter_le _ _) (by simp)
def withdrawnE (ws : List Work) (l : List Note) (p : List Pub) : Int := if valuesE ws l ≠ 0 then valuesE ws l else if 200 < (p.length : Int) then 3 else if (!(pubB ws p)) = true then 2 else 0
/-- The publications that are withdrawn, if there is no error. -/
def withdrawnR (ws : List Work) (l : List Note) (p : List Pub) : List Int := if withdrawnE ws l p = 0 then wdT (valuesR ws l) p p.length else []
theorem w_err {ws : List Work} {l : List Note} {p : List Pub} {e : Int} (h : withdrawnE ws l p = e) (he : e ≠ 0) : withdrawnR ws l p = [] := by unfold withdrawnR; rw [h, if_neg he]
theorem w_wrong {ws : List Work} {l : List Note} {p : List Pub} (h : ¬ valuesE ws l = 0) : withdrawnE ws l p = valuesE ws l := by unfold withdrawnE; rw [if_pos h]
theorem w_many {ws : List Work} {l : List Note} {p : List Pub} (h : valuesE ws l = 0) (c : 200 < (p.length : Int)) : withdrawnE ws l p = 3 := by unfold withdrawnE; rw [if_neg (by simp [h]), if_pos c]
theorem w_arg {ws : List Work} {l : List Note} {p : List Pub} (h : valuesE ws l = 0) (c : ¬ 200 < (p.length : Int)) (c2 : (!(pubB ws p)) = true) : withdrawnE ws l p = 2 := by unfold withdrawnE; rw [if_neg (by simp [h]), if_neg c, if_pos c2]
theorem w_ok {ws : List Work} {l : List Note} {p : List Pub} {i : Nat} (h : valuesE ws l = 0) (c : ¬ 200 < (p.length : Int)) (c2 : (!(pubB ws p)) = false) (hi : ¬ (i : Int) < p.length) (hle : i <= p.length) :
    withdrawnE ws l p = 0 /\ withdrawnR ws l p = wdT (valuesR ws l) p i := by
  obtain rfl : i = p.length := by omega
  have : withdrawnE ws l p = 0 := by unfold withdrawnE; rw [if_neg (by simp [h]), if_neg c, if_neg (by rw [c2]; decide)]
  exact ⟨this, by unfold withdrawnR; rw [this, if_pos rfl]⟩
theorem pub_rng {ws : List Work} {p : List Pub} (c2 : (!(pubB ws p)) = false) {i : Nat} (hi : (i : Int) < p.length) : 0 <= (p.getD i default).work /\ (p.getD i default).work < ws.length := by
  simp only [Bool.not_eq_false'] at c2
  have := List.all_eq_true.1 c2 _ (getD_memN p hi default)
  simp [inB, -List.getD_eq_getElem?_getD] at this
  omega
theorem valuesR_len {ws : List Work} {l : List Note} (h : valuesE ws l = 0) : (valuesR ws l).length = ws.length := by
  unfold valuesR valL
  rw [if_pos h, valF_len]
  simp
end Go.Nm
namespace Go.Nm
section
variable {α : Type} [DecidableEq α] {a b : List α}
theorem same_len (h : ¬ (a.length : Int) = b.length) : false = decide (a = b) := by
  symm
  simp only [decide_eq_false_iff_not]
  intro e
  subst e
  exact h rfl
theorem same_ne {k : Nat} (d : α) (h : ¬ a.getD k d = b.getD k d) : false = decide (a = b) := by
  symm
  simp only [decide_eq_false_iff_not]
  intro e
  subst e
  exact h rfl
theorem same_step {k : Nat} (d : α) (hl : (a.length : Int) = b.length) (hk : (k : Int) < a.length) (ht : a.take k = b.take k) (c : a.getD k d = b.getD k d) : a.take (k + 1) = b.take (k + 1) := by
  rw [take_succ_getD a (by omega) d, take_succ_getD b (by omega) d, ht, c]
theorem same_done {k : Nat} (hl : (a.length : Int) = b.length) (hk : ¬ (k : Int) < a.length) (ht : a.take k = b.take k) : true = decide (a = b) := by
  rw [List.take_of_length_le (by omega), List.take_of_length_le (by omega)] at ht
  simp [ht]
end
end Go.Nm
namespace Go.Nm
end Go.Nm
namespace Go.Nm
end Go.Nm
namespace Go.Nm
section
variable {ws : List Work}
end
end Go.Nm
namespace Go.Nm
/-- A loop whose states are known. -/
theorem M.i_for {σ ρ : Type} {body : σ -> M (σ ⊕ ρ)} {r : ρ} (st : Nat -> σ) (n : Nat) (step : ∀ i, i < n -> (body (st i)).Ends (.inl (st (i + 1)))) (fin : (body (st n)).Ends (.inr r)) : (M.iter body (st 0)).Ends r := by
  refine M.i_loop (r := r) (fun m s => ∃ i, i <= n /\ m = n - i /\ s = st i) ?_ n (st 0) ⟨0, Nat.zero_le _, rfl, rfl⟩
  rintro m s ⟨i, hi, rfl, rfl⟩
  by_cases h : i < n
  · exact .inl ⟨_, n - (i + 1), by omega, step i h, i + 1, h, rfl, rfl⟩
  · obtain rfl : i = n := by omega
    exact .inr fin
/-- A loop that looks for the first that is so. -/
theorem M.i_scan {b : Nat -> M (Nat ⊕ (Unit ⊕ Unit))} (n : Nat) (bad : Nat -> Bool) (hb : ∀ i, i < n -> (∀ j < i, bad j = false) -> (b i).Ends (if bad i then .inr (.inl ()) else .inl (i + 1))) (he : (∀ j < n, bad j = false) -> (b n).Ends (.inr (.inr ()))) :
    (M.iter b 0).Ends (if (List.range n).any bad then .inl () else .inr ()) := by
  have key : ∀ k i, n = i + k -> (∀ j < i, bad j = false) -> (M.iter b i).Ends (if (List.range n).any bad then .inl () else .inr ()) := by
    intro k
    induction k with
    | zero =>
      intro i hi hj
      have hn : n = i := by omega
      rw [hn] at he ⊢
      have : (List.range i).any bad = false := List.any_eq_false.2 fun j hj' => by simp [hj j (List.mem_range.1 hj')]
      rw [this]
      exact M.i_stop (he hj)
    | succ k ih =>
      intro i hi hj
      have h1 := hb i (by omega) hj
      cases hc : bad i with
      | true =>
        rw [hc] at h1
        have : (List.range n).any bad = true := List.any_eq_true.2 ⟨i, List.mem_range.2 (by omega), hc⟩
        rw [this]
        exact M.i_stop h1
      | false =>
        rw [hc] at h1
        refine M.i_next h1 (ih (i + 1) (by omega) fun j hj' => ?_)
        by_cases e : j = i
        · rw [e]; exact hc
        · exact hj j (by omega)
  exact key n 0 (by omega) (fun j hj => by omega)
theorem M.grdD {α : Type} {p : Prop} [Decidable p] {k : M α} {r : α} (hp : p) (h : k.Ends r) : (M.grd (decide p) k).Ends r := M.i_grd (decide_eq_true hp) h
theorem M.i_t {α : Type} {b : Bool} {x y : M α} {r : α} (hb : b = true) (h : x.Ends r) : (bif b then x else y).Ends r := by subst hb; exact h
theorem M.i_f {α : Type} {b : Bool} {x y : M α} {r : α} (hb : b = false) (h : y.Ends r) : (bif b then x else y).Ends r := by subst hb; exact h
end Go.Nm
namespace Go.Nm
/-- A way from one work to another one that is made of it. -/
inductive Wy (ws : List Work) : Nat -> Nat -> Prop
  | one {a b : Nat} (h : (a : Int) ∈ (ws.getD b default).of) (hb : b < ws.length) : Wy ws a b
  | more {a m b : Nat} (w : Wy ws a m) (h : (m : Int) ∈ (ws.getD b default).of) (hb : b < ws.length) : Wy ws a b
def Tb (T : List (List Bool)) (a b : Nat) : Bool := (T.getD a []).getD b false
def fc : List Bool -> Nat
  | [] => 0
  | true :: l => fc l
  | false :: l => fc l + 1
def fT : List (List Bool) -> Nat
  | [] => 0
  | r :: T => fc r + fT T
theorem gset {α : Type} (l : List α) (i j : Nat) (x d : α) (h : i < l.length) : (l.set i x).getD j d = if j = i then x else l.getD j d := by
  simp only [List.getD_eq_getElem?_getD, List.getElem?_set]
  by_cases e : i = j
  · subst e; simp [h]
  · rw [if_neg e, if_neg (fun h => e h.symm)]
theorem getD_el {α : Type} (l : List α) {k : Nat} (h : k < l.length) (d : α) : l.getD k d = l[k] := by rw [List.getD_eq_getElem?_getD, List.getElem?_eq_getElem h, Option.getD_some]
structure Sq (n : Nat) (T : List (List Bool)) : Prop where
  len : T.length = n
  row : ∀ a, a < n -> (T.getD a []).length = n
theorem Sq.put {n : Nat} {T : List (List Bool)} (h : Sq n T) {a b : Nat} (ha : a < n) : Sq n (T.set a ((T.getD a []).set b true)) := by
  refine ⟨by rw [List.length_set]; exact h.len, fun a' ha' => ?_⟩
  rw [gset _ _ _ _ _ (by rw [h.len]; exact ha)]
  split
  · rw [List.length_set]; exact h.row a ha
  · exact h.row a' ha'
/-- The rule at one place. -/
def ClAt (ws : List Work) (T : List (List Bool)) (b k a : Nat) : Prop :=
  (((a : Int) == ((ws.getD b default).of).getD k 0) || Tb T a (Int.toNat (((ws.getD b default).of).getD k 0))) = true -> Tb T a b = true
structure BInv (ws : List Work) (T0 : List (List Bool)) (pr : Nat -> Nat -> Nat -> Prop) (T : List (List Bool)) (ch : Bool) : Prop where
  sq : Sq ws.length T
  sound : ∀ a b, Tb T a b = true -> Wy ws a b
  yes : ch = true -> fT T < fT T0
  no : ch = false -> T = T0 /\ ∀ b k a, pr b k a -> ClAt ws T b k a
theorem BInv.imp {ws : List Work} {T0 T : List (List Bool)} {pr pr' : Nat -> Nat -> Nat -> Prop} {ch : Bool} (h : BInv ws T0 pr T ch) (hp : ∀ b k a, pr' b k a -> pr b k a) : BInv ws T0 pr' T ch :=
  ⟨h.sq, h.sound, h.yes, fun e => ⟨(h.no e).1, fun b k a hh => (h.no e).2 b k a (hp b k a hh)⟩⟩
theorem gOr2 {c : Bool} {p q : Prop} [Decidable p] [Decidable q] (hp : p) (hq : q) : (!c || (decide p && decide q)) = true := by rw [decide_eq_true hp, decide_eq_true hq]; cases c <;> rfl
theorem gA2 {p q : Prop} [Decidable p] [Decidable q] (hp : p) (hq : q) : (decide p && decide q) = true := by rw [decide_eq_true hp, decide_eq_true hq]; rfl
theorem gA3 {p q r : Prop} [Decidable p] [Decidable q] [Decidable r] (hp : p) (hq : q) (hr : r) : (decide p && decide q && decide r) = true := by rw [decide_eq_true hp, decide_eq_true hq, decide_eq_true hr]; rfl
end Go.Nm
namespace Go.Nm
theorem orderF_stuck {ws : List Work} : ∀ (f : Nat) (out : List Int), (orderF ws f out).length < out.length + f -> nextR ws (orderF ws f out) = none
  | 0, out, h => by simp only [orderF] at h; omega
  | f + 1, out, h => by
    unfold orderF at h ⊢
    cases hn : nextR ws out with
    | none => exact hn
    | some i =>
      rw [hn] at h
      dsimp only at h ⊢
      exact orderF_stuck f _ (by simp only [List.length_append, List.length_cons, List.length_nil]; omega)
theorem nodup_sub : ∀ (l m : List Int), l.Nodup -> (∀ x ∈ l, x ∈ m) -> l.length <= m.length
  | [], _, _, _ => Nat.zero_le _
  | x :: l, m, hn, hs => by
    rw [List.nodup_cons] at hn
    have h1 := nodup_sub l (m.erase x) hn.2 (fun y hy => (List.mem_erase_of_ne (show y ≠ x from fun e => hn.1 (by rw [← e]; exact hy))).2 (hs y (List.mem_cons_of_mem _ hy)))
    have h2 := hs x (List.mem_cons_self ..)
    rw [List.length_erase_of_mem h2] at h1
    have := List.length_pos_of_mem h2
    simp only [List.length_cons]
    omega
theorem order_circle {ws : List Work} (hR : rightE ws = 0) (h : (orderP ws).length < ws.length) : ∃ i, i < ws.length /\ Wy ws i i := by
  have hst : nextR ws (orderP ws) = none := orderF_stuck ws.length [] (by simpa [orderP] using h)
  have hnr : ∀ i, i < ws.length -> readyAt ws (orderP ws) i = false := by
    intro i hi
    unfold nextR at hst
    rw [List.find?_eq_none] at hst
    simpa using hst i (List.mem_range.2 hi)
  have step : ∀ i, i < ws.length -> (i : Int) ∉ orderP ws -> ∃ k, k < ws.length /\ (k : Int) ∉ orderP ws /\ (k : Int) ∈ (ws.getD i default).of := by
    intro i hi hni
    have h1 := hnr i hi
    unfold readyAt at h1
    have h2 : (orderP ws).contains (i : Int) = false := by simpa using hni
    rw [h2, Bool.not_false, Bool.true_and, List.all_eq_false] at h1
    obtain ⟨x, hx, hx2⟩ := h1
    have h3 := right_of hR hi x hx
    refine ⟨x.toNat, by omega, ?_, ?_⟩
    · rw [Int.toNat_of_nonneg h3.1]; simpa using hx2
    · rw [Int.toNat_of_nonneg h3.1]; exact hx
  have start : ∃ i, i < ws.length /\ (i : Int) ∉ orderP ws := by
    refine Classical.byContradiction fun hc => ?_
    have h1 : ∀ i, i < ws.length -> (i : Int) ∈ orderP ws := fun i hi => Classical.byContradiction fun hn => hc ⟨i, hi, hn⟩
    have h2 : ((List.range ws.length).map fun i : Nat => (i : Int)).length <= (orderP ws).length := by
      refine nodup_sub _ _ ?_ ?_
      · rw [List.Nodup, List.pairwise_map]
        exact List.nodup_range.imp fun hne e => hne (by omega)
      · intro x hx
        obtain ⟨i, hi, rfl⟩ := List.mem_map.1 hx
        exact h1 i (List.mem_range.1 hi)
    simp at h2
    omega
  obtain ⟨i0, hi0, hn0⟩ := start
  have hg : ∃ g : Nat -> Nat, ∀ i, i < ws.length -> (i : Int) ∉ orderP ws -> g i < ws.length /\ (g i : Int) ∉ orderP ws /\ (g i : Int) ∈ (ws.getD i default).of := by
    refine ⟨fun i => if hh : i < ws.length /\ (i : Int) ∉ orderP ws then (step i hh.1 hh.2).choose else 0, fun i h1 h2 => ?_⟩
    dsimp only
    rw [dif_pos (show i < ws.length /\ (i : Int) ∉ orderP ws from ⟨h1, h2⟩)]
    exact (step i h1 h2).choose_spec
  obtain ⟨g, hg⟩ := hg
  let sq : Nat -> Nat := fun j => Nat.rec i0 (fun _ x => g x) j
  have hs : ∀ j : Nat, sq j < ws.length /\ (Int.ofNat (sq j)) ∉ orderP ws := by
    intro j
    induction j with
    | zero => exact ⟨hi0, hn0⟩
    | succ j ih => exact ⟨(hg _ ih.1 ih.2).1, (hg _ ih.1 ih.2).2.1⟩
  have hw : ∀ d p : Nat, Wy ws (sq (p + d + 1)) (sq p) := by
    intro d
    induction d with
    | zero => intro p; exact .one (hg _ (hs p).1 (hs p).2).2.2 (hs p).1
    | succ d ih =>
      intro p
      have := ih (p + 1)
      rw [show p + 1 + d + 1 = p + (d + 1) + 1 from by omega] at this
      exact .more this (hg _ (hs p).1 (hs p).2).2.2 (hs p).1
  refine Classical.byContradiction fun hc => ?_
  have hne : ∀ p q : Nat, p < q -> sq p ≠ sq q := by
    intro p q hpq e
    have := hw (q - p - 1) p
    rw [show p + (q - p - 1) + 1 = q from by omega, ← e] at this
    exact hc ⟨sq p, (hs p).1, this⟩
  have h1 := nodup_bound ws.length ((List.range (ws.length + 1)).map fun j => Int.ofNat (sq j)) (by
    rw [List.Nodup, List.pairwise_map]
    exact List.pairwise_lt_range.imp fun hlt e => hne _ _ hlt (Int.ofNat.inj e)) (fun x hx => by
    obtain ⟨j, _, rfl⟩ := List.mem_map.1 hx
    have := (hs j).1
    show 0 <= ((sq j : Nat) : Int) /\ ((sq j : Nat) : Int) < _
    omega)
  simp at h1
  omega
end Go.Nm
namespace Go.Nm
end Go.Nm
namespace Go.Nm
variable {ws : List Work}
def stStep (ws : List Work) (rev : List Int) (st : List Bool) (i : Int) : List Bool := st.set i.toNat (rev.contains i || (ws.getD i.toNat default).of.any (fun k => st.getD k.toNat false))
theorem staleF_fold (ws : List Work) (rev : List Int) : ∀ (l : List Int) (st : List Bool), staleF ws rev l st = l.foldl (stStep ws rev) st
  | [], _ => rfl
  | i :: l, st => by unfold staleF; rw [staleF_fold ws rev l]; rfl
theorem staleF_app (ws : List Work) (rev : List Int) (a b : List Int) (st : List Bool) : staleF ws rev (a ++ b) st = staleF ws rev b (staleF ws rev a st) := by
  rw [staleF_fold, staleF_fold, staleF_fold, List.foldl_append]
theorem staleF_other (ws : List Work) (rev : List Int) {x : Int} (h1 : 0 <= x) (d : Bool) : ∀ (l : List Int) (st : List Bool), (∀ y ∈ l, 0 <= y) -> x ∉ l -> (staleF ws rev l st).getD x.toNat d = st.getD x.toNat d
  | [], _, _, _ => rfl
  | i :: l, st, h0, hx => by
    unfold staleF
    have hi := h0 i (by simp)
    have hne : i ≠ x := fun e => hx (by simp [e])
    rw [staleF_other ws rev h1 d l _ (fun y hy => h0 y (by simp [hy])) (fun hm => hx (by simp [hm]))]
    simp only [List.getD_eq_getElem?_getD]
    rw [List.getElem?_set_ne (by omega)]
theorem stale_eq (h : openedE ws = 0) (rev : List Int) {i : Int} (h0 : 0 <= i) (h1 : i < ws.length) :
    (staleL ws rev).getD i.toNat false = (rev.contains i || (ws.getD i.toNat default).of.any fun k => (staleL ws rev).getD k.toNat false) := by
  have hm := order_all h h0 h1
  obtain ⟨l1, l2, hs⟩ := List.append_of_mem hm
  have hg := order_good ws
  have hof : ∀ k ∈ (ws.getD i.toNat default).of, k ∈ l1 := by
    have := hg.2.2 l1.length (by rw [hs]; simp)
    rw [hs] at this
    rw [show (l1 ++ i :: l2).getD l1.length 0 = i from by rw [List.getD_eq_getElem?_getD, List.getElem?_append_right (Nat.le_refl _), Nat.sub_self]; rfl, List.take_left] at this
    exact this
  have hnd := hg.1
  rw [hs, List.nodup_append] at hnd
  have hi2 : i ∉ l2 := (List.nodup_cons.1 hnd.2.1).1
  have hi1 : i ∉ l1 := fun hm => hnd.2.2 i hm i (by simp) rfl
  have hpos : ∀ y ∈ orderP ws, 0 <= y := fun y hy => (hg.2.1 y hy).1
  have hp1 : ∀ y ∈ l1, 0 <= y := fun y hy => hpos y (by rw [hs]; simp [hy])
  have hp2 : ∀ y ∈ l2, 0 <= y := fun y hy => hpos y (by rw [hs]; simp [hy])
  have hlen := right_len (opened_right h)
  have hl : (staleF ws rev l1 (List.replicate 30 false)).length = 30 := by rw [staleF_len]; simp
  have hsplit : staleL ws rev = staleF ws rev l2 (stStep ws rev (staleF ws rev l1 (List.replicate 30 false)) i) := by
    unfold staleL
    rw [hs, staleF_app]
    rfl
  have hk : ∀ k ∈ (ws.getD i.toNat default).of, (staleF ws rev l1 (List.replicate 30 false)).getD k.toNat false = (staleL ws rev).getD k.toNat false := by
    intro k hk
    have hk1 := hof k hk
    have hk0 := hp1 k hk1
    have hne : i ≠ k := fun e => hi1 (e ▸ hk1)
    have hk2 : k ∉ l2 := fun hm => hnd.2.2 k hk1 k (by simp [hm]) rfl
    rw [hsplit, staleF_other ws rev hk0 false l2 _ hp2 hk2]
    unfold stStep
    simp only [List.getD_eq_getElem?_getD]
    rw [List.getElem?_set_ne (by omega)]
  have hany : ((ws.getD i.toNat default).of.any fun k => (staleF ws rev l1 (List.replicate 30 false)).getD k.toNat false) = ((ws.getD i.toNat default).of.any fun k => (staleL ws rev).getD k.toNat false) := by
    rw [Bool.eq_iff_iff, List.any_eq_true, List.any_eq_true]
    exact ⟨fun ⟨k, h1, h2⟩ => ⟨k, h1, by rw [← hk k h1]; exact h2⟩, fun ⟨k, h1, h2⟩ => ⟨k, h1, by rw [hk k h1]; exact h2⟩⟩
  rw [← hany]
  rw [hsplit, staleF_other ws rev h0 false l2 _ hp2 hi2]
  unfold stStep
  rw [gset _ _ _ _ _ (by rw [hl]; omega), if_pos rfl]
/-! ### The line that takes longest -/
/-- Is each work of a line made of the one ahead of it? -/
def lineB (ws : List Work) : List Int -> Bool
  | a :: b :: l => (ws.getD b.toNat default).of.contains a && lineB ws (b :: l)
  | _ => true
/-- What the list behind a work is like: it goes back along works that had to be waited for. -/
structure Back (ws : List Work) (st : List Bool) (i : Int) (r : List Int) : Prop where
  rng : ∀ x ∈ r, 0 <= x /\ x < (ws.length : Int) /\ st.getD x.toNat false = true
  line : lineB ws (r.reverse ++ [i]) = true
  sum : ∀ z, r.foldl (fun s i => s + (ws.getD i.toNat default).minutes) z = z + (readyL ws (orderP ws) st).getD i.toNat 0 - (ws.getD i.toNat default).minutes
end Go.Nm
namespace Go.Nm
variable {ws : List Work} {rev : List Int}
end Go.Nm
namespace Go.Nm
namespace M
variable {α β σ ρ : Type}
def Out (m : M α) (Q : α -> Prop) : Prop := ∃ r, m.Ends r /\ Q r
theorem o_of {m : M α} {a : α} {Q : α -> Prop} (h : m.Ends a) (q : Q a) : m.Out Q := ⟨a, h, q⟩
theorem o_pure {a : α} {Q : α -> Prop} (h : Q a) : (pure a).Out Q := ⟨a, i_pure, h⟩
theorem o_mono {m : M α} {P Q : α -> Prop} (h : m.Out P) (k : ∀ a, P a -> Q a) : m.Out Q := by
  obtain ⟨a, h1, h2⟩ := h
  exact ⟨a, h1, k a h2⟩
theorem o_bind {m : M α} {k : α -> M β} {P : α -> Prop} {Q : β -> Prop} (h : m.Out P) (h' : ∀ a, P a -> (k a).Out Q) : (bind m k).Out Q := by
  obtain ⟨a, h1, h2⟩ := h
  obtain ⟨b, h3, h4⟩ := h' a h2
  exact ⟨b, i_bind h1 h3, h4⟩
theorem o_bindE {m : M α} {k : α -> M β} {a : α} {Q : β -> Prop} (h : m.Ends a) (h' : (k a).Out Q) : (bind m k).Out Q := o_bind (o_of (Q := fun x => x = a) h rfl) (fun _ e => by subst e; exact h')
theorem o_grd {b : Bool} {k : M α} {Q : α -> Prop} (hb : b = true) (h : k.Out Q) : (grd b k).Out Q := by subst hb; exact h
theorem o_grdD {p : Prop} [Decidable p] {k : M α} {Q : α -> Prop} (hp : p) (h : k.Out Q) : (grd (decide p) k).Out Q := o_grd (decide_eq_true hp) h
theorem o_if {b : Bool} {x y : M α} {Q : α -> Prop} (h : b = true -> x.Out Q) (h' : b = false -> y.Out Q) : (bif b then x else y).Out Q := by
  cases b with
  | true => exact h rfl
  | false => exact h' rfl
theorem o_t {b : Bool} {x y : M α} {Q : α -> Prop} (hb : b = true) (h : x.Out Q) : (bif b then x else y).Out Q := by subst hb; exact h
theorem o_f {b : Bool} {x y : M α} {Q : α -> Prop} (hb : b = false) (h : y.Out Q) : (bif b then x else y).Out Q := by subst hb; exact h
/-- What a round leaves. -/
def Rd (J : Nat -> σ -> Prop) (Q : ρ -> Prop) (m : Nat) : σ ⊕ ρ -> Prop
  | .inl s => ∃ m', m' < m /\ J m' s
  | .inr r => Q r
theorem o_iter {body : σ -> M (σ ⊕ ρ)} {Q : ρ -> Prop} (J : Nat -> σ -> Prop) (round : ∀ m s, J m s -> (body s).Out (Rd J Q m)) : ∀ (m : Nat) (s : σ), J m s -> (iter body s).Out Q := by
  intro m
  induction m using Nat.strongRecOn with
  | _ m ih =>
    intro s hs
    obtain ⟨x, h1, h2⟩ := round m s hs
    cases x with
    | inl s' =>
      obtain ⟨m', hlt, hj⟩ := h2
      obtain ⟨r, h3, h4⟩ := ih m' hlt s' hj
      exact ⟨r, i_next h1 h3, h4⟩
    | inr r => exact ⟨r, i_stop h1, h2⟩
/-- A loop that counts from 0 to n. -/
theorem o_for {body : σ -> M (σ ⊕ ρ)} {Q : ρ -> Prop} (n : Nat) (J : Nat -> σ -> Prop) (round : ∀ i s, i < n -> J i s -> (body s).Out (fun x => match x with | .inl s' => J (i + 1) s' | .inr r => Q r))
    (last : ∀ s, J n s -> (body s).Out (fun x => match x with | .inl _ => False | .inr r => Q r)) {s : σ} (h : J 0 s) : (iter body s).Out Q := by
  refine o_iter (fun m s => ∃ i, i <= n /\ m = n - i /\ J i s) ?_ n s ⟨0, Nat.zero_le _, rfl, h⟩
  rintro m s ⟨i, hi, rfl, hj⟩
  by_cases e : i < n
  · refine o_mono (round i s e hj) ?_
    intro x hx
    cases x with
    | inl s' => exact ⟨n - (i + 1), by omega, i + 1, e, rfl, hx⟩
    | inr r => exact hx
  · obtain rfl : i = n := by omega
    refine o_mono (last s hj) ?_
    intro x hx
    cases x with
    | inl s' => exact hx.elim
    | inr r => exact hx
end M
/-! ### Works that are made in order -/
structure BuiltAt (i : Nat) (x : Work) : Prop where
  few : x.of.length <= 5
  base : 0 <= x.base /\ x.base <= 1000002
  mins : 0 <= x.minutes /\ x.minutes <= 10000
  ahead : ∀ k ∈ x.of, 0 <= k /\ k < (i : Int)
  once : x.of.Nodup
structure Built (ws : List Work) : Prop where
  len : 1 <= ws.length /\ ws.length <= 30
  at_ : ∀ i, i < ws.length -> BuiltAt i (ws.getD i default)
variable {ws : List Work}
theorem mem_getD {α : Type} {l : List α} {x : α} (h : x ∈ l) (d : α) : ∃ i, i < l.length /\ l.getD i d = x := by
  obtain ⟨i, hi, e⟩ := List.getElem_of_mem h
  exact ⟨i, hi, by rw [getD_el l hi d]; exact e⟩
theorem Built.right (h : Built ws) : rightE ws = 0 := by
  have h1 : inB ws.length 1 30 = true := by
    have := h.len
    unfold inB
    simp only [Bool.and_eq_true, decide_eq_true_eq]
    omega
  have h2 : (ws.all fun x => decide ((x.of.length : Int) <= 5)) = true := by
    rw [List.all_eq_true]
    intro x hx
    obtain ⟨i, hi, rfl⟩ := mem_getD hx default
    have := (h.at_ i hi).few
    simp only [decide_eq_true_eq]
    omega
  have h3 : (List.range ws.length).any (badAt ws) = false := by
    rw [List.any_eq_false]
    intro i hi
    have hi := List.mem_range.1 hi
    have hb := h.at_ i hi
    unfold badAt badW
    have e1 : inB (ws.getD i default).base 0 1000002 = true := by unfold inB; simp only [Bool.and_eq_true, decide_eq_true_eq]; exact hb.base
    have e2 : inB (ws.getD i default).minutes 0 10000 = true := by unfold inB; simp only [Bool.and_eq_true, decide_eq_true_eq]; exact hb.mins
    have e3 : ((ws.getD i default).of.all fun k => inB k 0 ((ws.length : Int) - 1) && (k != (i : Int))) = true := by
      rw [List.all_eq_true]
      intro k hk
      have := hb.ahead k hk
      unfold inB
      simp only [Bool.and_eq_true, decide_eq_true_eq, bne_iff_ne, ne_eq]
      omega
    rw [e1, e2, e3]
    decide
  have h4 : (ws.any fun x => dupL x.of) = false := by
    rw [List.any_eq_false]
    intro x hx hd
    obtain ⟨i, hi, rfl⟩ := mem_getD hx default
    have hn := (h.at_ i hi).once
    unfold dupL at hd
    obtain ⟨k, hk, hd⟩ := List.any_eq_true.1 hd
    have hk := List.mem_range.1 hk
    unfold dupAt at hd
    rw [List.contains_iff_mem] at hd
    rw [← List.take_append_drop k (ws.getD i default).of, List.nodup_append] at hn
    refine hn.2.2 _ hd _ ?_ rfl
    rw [List.mem_iff_getElem]
    refine ⟨0, by rw [List.length_drop]; omega, ?_⟩
    rw [List.getElem_drop]
    simp only [Nat.add_zero]
    exact (getD_el _ hk 0).symm
  unfold rightE
  rw [if_neg (by simp only [h1, h2]; decide), if_neg (by rw [h3]; decide), if_neg (by rw [h4]; decide)]
theorem Built.way (h : Built ws) {a b : Nat} (w : Wy ws a b) : a < b := by
  induction w with
  | one ha hb => have := (h.at_ _ hb).ahead _ ha; omega
  | more w hm hb ih => have := (h.at_ _ hb).ahead _ hm; omega
theorem Built.opened (h : Built ws) : openedE ws = 0 := by
  refine opened_ok h.right ?_
  intro hc
  obtain ⟨i, _, hw⟩ := order_circle h.right (by omega)
  have := h.way hw
  omega
end Go.Nm
namespace Go.Nm
theorem noteV_other {f : Int -> Option Note} {out : List Int} {i x : Int} (h0 : 0 <= i) (h1 : 0 <= x) (hne : i ≠ x) (d : Int) : (noteV f out i).getD x.toNat d = out.getD x.toNat d := by
  unfold noteV
  split
  · simp only [List.getD_eq_getElem?_getD, List.getElem?_set]
    rw [if_neg (by omega)]
  · rfl
theorem valStep_other {ws : List Work} {f : Int -> Option Note} {out : List Int} {i x : Int} (h0 : 0 <= i) (h1 : 0 <= x) (hne : i ≠ x) (d : Int) : (valStep ws f out i).getD x.toNat d = out.getD x.toNat d := by
  unfold valStep
  split
  · exact noteV_other h0 h1 hne d
  · rw [← noteV_other (f := f) (out := out) h0 h1 hne d]
    simp only [List.getD_eq_getElem?_getD, List.getElem?_set]
    rw [if_neg (by omega)]
theorem valF_other {ws : List Work} {f : Int -> Option Note} {x : Int} (h1 : 0 <= x) (d : Int) : ∀ (l out : List Int), (∀ y ∈ l, 0 <= y) -> x ∉ l -> (valF ws f l out).getD x.toNat d = out.getD x.toNat d
  | [], _, _, _ => rfl
  | i :: l, out, h0, hx => by
    rw [List.mem_cons, not_or] at hx
    show (valF ws f l (valStep ws f out i)).getD x.toNat d = _
    rw [valF_other h1 d l _ (fun y hy => h0 y (List.mem_cons_of_mem _ hy)) hx.2]
    exact valStep_other (h0 i (List.mem_cons_self ..)) h1 (fun e => hx.1 e.symm) d
theorem sumV_congr {a b : List Int} {base : Int} {of : List Int} (h : ∀ x ∈ of, a.getD x.toNat 0 = b.getD x.toNat 0) : ∀ j, j <= of.length -> sumV a base of j = sumV b base of j
  | 0, _ => rfl
  | j + 1, hj => by
    simp only [sumV]
    rw [sumV_congr h j (by omega), h _ (getD_memN of (by omega) 0)]
/-- What a note says, or none. -/
def nv (o : Option Note) : Int := match o with | some n => n.value | none => -1
theorem noteV_at {f : Int -> Option Note} {out : List Int} {i : Int} (h0 : 0 <= i) (h1 : i < out.length) (hn : out.getD i.toNat 0 = -1) : (noteV f out i).getD i.toNat 0 = nv (f i) := by
  unfold noteV nv
  cases hf : f i with
  | none => simpa using hn
  | some n =>
    rw [if_pos (by simp), gset _ _ _ _ _ (by omega), if_pos rfl]
    simp
end Go.Nm
namespace Go.Nm
end Go.Nm
namespace Go.Nm
variable {ws : List Work} {l e : List Note}
/-! ### Notes -/
def Uniq (l : List Note) : Prop := ∀ a ∈ l, ∀ b ∈ l, a.work = b.work -> a.version = b.version -> a = b
theorem Uniq.add {l l' : List Note} {n : Note} (h : Uniq l) (hm : ∀ a ∈ l', a ∈ l ∨ a = n) (hn : ∀ a ∈ l, ¬ (a.work = n.work /\ a.version = n.version)) : Uniq l' := by
  intro a ha b hb h1 h2
  rcases hm a ha with ha | rfl <;> rcases hm b hb with hb | rfl
  · exact h a ha b hb h1 h2
  · exact absurd ⟨h1, h2⟩ (hn a ha)
  · exact absurd ⟨h1.symm, h2.symm⟩ (hn b hb)
  · rfl
structure NG (ws : List Work) (l : List Note) : Prop where
  few : l.length <= 200
  src : ∀ n ∈ l, 0 <= n.work /\ n.work < (ws.length : Int) /\ (ws.getD n.work.toNat default).of = []
  rng : ∀ n ∈ l, 0 <= n.version /\ n.version <= 1000000 /\ 0 <= n.value /\ n.value <= 1000002
  uniq : Uniq l
theorem NG.arg (h : NG ws l) : argB ws l = true := by
  unfold argB
  rw [List.all_eq_true]
  intro n hn
  obtain ⟨h1, h2, h3⟩ := h.src n hn
  rw [h3]
  unfold inB
  simp only [Bool.and_eq_true, decide_eq_true_eq, List.length_nil]
  exact ⟨⟨h1, by omega⟩, rfl⟩
theorem NG.rg (h : NG ws l) : rngB l = true := by
  unfold rngB
  rw [List.all_eq_true]
  intro n hn
  obtain ⟨h1, h2, h3, h4⟩ := h.rng n hn
  unfold inB
  simp only [Bool.and_eq_true, decide_eq_true_eq]
  exact ⟨⟨h1, h2⟩, h3, h4⟩
theorem NG.tw (h : NG ws l) : (List.range l.length).any (twAt l) = false := by
  rw [List.any_eq_false]
  intro i hi ht
  have hi := List.mem_range.1 hi
  unfold twAt at ht
  obtain ⟨m, hm, hp⟩ := List.any_eq_true.1 ht
  have hb := getD_memN l (by omega : (i : Int) < _) default
  have ha := List.mem_of_mem_take hm
  unfold twP at hp
  simp only [Bool.and_eq_true, beq_iff_eq, Bool.not_eq_true', decide_eq_false_iff_not] at hp
  exact hp.2 (h.uniq m ha _ hb hp.1.1 hp.1.2)
theorem NG.err (h : NG ws l) (hO : openedE ws = 0) : valuesE ws l = 0 := by
  have := h.few
  unfold valuesE
  rw [if_neg (by simp [hO]), if_neg (by omega), h.arg, h.rg, h.tw]
  rfl
theorem NG.vals (h : NG ws l) (hO : openedE ws = 0) : valuesR ws l = valL ws l := by
  unfold valuesR
  rw [if_pos (h.err hO)]
/-! ### Values -/
theorem val_eq (hO : openedE ws = 0) (f : Int -> Option Note) {i : Int} (h0 : 0 <= i) (h1 : i < ws.length) :
    (valF ws f (orderP ws) (List.replicate ws.length (-1))).getD i.toNat 0 =
      if (((ws.getD i.toNat default).of.length : Int) == 0) || !((ws.getD i.toNat default).of.all fun k => (valF ws f (orderP ws) (List.replicate ws.length (-1))).getD k.toNat 0 != -1) then nv (f i)
      else sumV (valF ws f (orderP ws) (List.replicate ws.length (-1))) (ws.getD i.toNat default).base (ws.getD i.toNat default).of (ws.getD i.toNat default).of.length % 1000003 := by
  have hm := order_all hO h0 h1
  obtain ⟨l1, l2, hs⟩ := List.append_of_mem hm
  have hg := order_good ws
  have hof : ∀ k ∈ (ws.getD i.toNat default).of, k ∈ l1 := by
    have := hg.2.2 l1.length (by rw [hs]; simp)
    rw [hs] at this
    rw [show (l1 ++ i :: l2).getD l1.length 0 = i from by rw [List.getD_eq_getElem?_getD, List.getElem?_append_right (Nat.le_refl _), Nat.sub_self]; rfl, List.take_left] at this
    exact this
  have hnd := hg.1
  rw [hs, List.nodup_append] at hnd
  have hi2 : i ∉ l2 := (List.nodup_cons.1 hnd.2.1).1
  have hi1 : i ∉ l1 := fun hm => hnd.2.2 i hm i (by simp) rfl
  have hpos : ∀ y ∈ orderP ws, 0 <= y := fun y hy => (hg.2.1 y hy).1
  have hp1 : ∀ y ∈ l1, 0 <= y := fun y hy => hpos y (by rw [hs]; simp [hy])
  have hp2 : ∀ y ∈ l2, 0 <= y := fun y hy => hpos y (by rw [hs]; simp [hy])
  have hl : (valF ws f l1 (List.replicate ws.length (-1))).length = ws.length := by rw [valF_len]; simp
  have hsplit : valF ws f (orderP ws) (List.replicate ws.length (-1)) = valF ws f l2 (valStep ws f (valF ws f l1 (List.replicate ws.length (-1))) i) := by
    unfold valF
    rw [hs, List.foldl_append]
    rfl
  have hz : (valF ws f l1 (List.replicate ws.length (-1))).getD i.toNat 0 = -1 := by
    rw [valF_other h0 0 l1 _ hp1 hi1, getD_el _ (by rw [List.length_replicate]; omega)]
    simp
  have hk : ∀ k ∈ (ws.getD i.toNat default).of, (noteV f (valF ws f l1 (List.replicate ws.length (-1))) i).getD k.toNat 0 = (valF ws f (orderP ws) (List.replicate ws.length (-1))).getD k.toNat 0 := by
    intro k hk
    have hk1 := hof k hk
    have hk0 := hp1 k hk1
    have hne : i ≠ k := fun e => hi1 (e ▸ hk1)
    have hk2 : k ∉ l2 := fun hm => hnd.2.2 k hk1 k (by simp [hm]) rfl
    rw [hsplit, valF_other hk0 0 l2 _ hp2 hk2, valStep_other h0 hk0 hne, noteV_other h0 hk0 hne]
  have hall : ((ws.getD i.toNat default).of.all fun k => (noteV f (valF ws f l1 (List.replicate ws.length (-1))) i).getD k.toNat 0 != -1) = ((ws.getD i.toNat default).of.all fun k => (valF ws f (orderP ws) (List.replicate ws.length (-1))).getD k.toNat 0 != -1) := by
    rw [Bool.eq_iff_iff, List.all_eq_true, List.all_eq_true]
    exact ⟨fun hh x hx => by rw [← hk x hx]; exact hh x hx, fun hh x hx => by rw [hk x hx]; exact hh x hx⟩
  have hsv := sumV_congr (base := (ws.getD i.toNat default).base) hk (ws.getD i.toNat default).of.length (Nat.le_refl _)
  rw [← hall, ← hsv]
  rw [hsplit, valF_other h0 0 l2 _ hp2 hi2]
  unfold valStep
  split
  · exact noteV_at h0 (by omega) hz
  · rw [gset _ _ _ _ _ (by rw [noteV_len]; omega), if_pos rfl]
theorem valL_len (ws : List Work) (l : List Note) : (valL ws l).length = ws.length := by unfold valL; rw [valF_len]; simp
/-- Each source has a note. -/
def Full (ws : List Work) (l : List Note) : Prop := ∀ i, i < ws.length -> (ws.getD i default).of = [] -> ∃ n ∈ l, n.work = (i : Int)
/-! ### Lists in order -/
theorem asc_of {l : List Int} (h : l.Pairwise (· < ·)) : AscTo l l.length := by
  intro j h1 h2
  rw [getD_el l (by omega) 0, getD_el l h2 0]
  exact List.pairwise_iff_getElem.1 h (j - 1) j (by omega) h2 (by omega)
theorem listed_of {n : Nat} {l : List Int} (h : ∀ x ∈ l, 0 <= x /\ x < (n : Int)) (ha : l.Pairwise (· < ·)) : listedE n l = 0 := by
  unfold listedE
  rw [if_neg, if_pos (asc_of ha)]
  rw [Bool.not_eq_true, Bool.not_eq_false', List.all_eq_true]
  intro x hx
  have := h x hx
  unfold inB
  simp only [Bool.and_eq_true, decide_eq_true_eq]
  omega
theorem pair_snoc {l : List Int} {x : Int} (h : l.Pairwise (· < ·)) (hx : ∀ y ∈ l, y < x) : (l ++ [x]).Pairwise (· < ·) := by
  rw [List.pairwise_append]
  exact ⟨h, by simp, fun a ha b hb => by rw [List.mem_singleton.1 hb]; exact hx a ha⟩
/-! ### Publications -/
end Go.Nm
namespace Go.Nm
variable {ws ws' : List Work} {nm : List Int}
theorem stuck_at (h : (orderP ws).length < ws.length) {i : Nat} (hi : i < ws.length) : readyAt ws (orderP ws) i = false := by
  have hs : nextR ws (orderP ws) = none := orderF_stuck ws.length [] (by simpa [orderP] using h)
  unfold nextR at hs
  rw [List.find?_eq_none] at hs
  simpa using hs i (List.mem_range.2 hi)
/-- Works with a rank are in order. -/
theorem opened_rank (hR : rightE ws = 0) (rk : Nat -> Nat) (h : ∀ i, i < ws.length -> ∀ k ∈ (ws.getD i default).of, 0 <= k /\ k < (ws.length : Int) /\ rk k.toNat < rk i) : openedE ws = 0 := by
  refine opened_ok hR (fun c => ?_)
  have all : ∀ m i, rk i < m -> i < ws.length -> (i : Int) ∈ orderP ws := by
    intro m
    induction m with
    | zero => intro i hm; omega
    | succ m ih =>
      intro i hm hi
      have hs := stuck_at (ws := ws) (by omega) hi
      unfold readyAt at hs
      have ha : ((ws.getD i default).of.all fun k => (orderP ws).contains k) = true := by
        rw [List.all_eq_true]
        intro k hk
        have h1 := h i hi k hk
        have := ih k.toNat (by omega) (by omega)
        rw [Int.toNat_of_nonneg h1.1] at this
        exact List.contains_iff_mem.2 this
      rw [ha, Bool.and_true, Bool.not_eq_false'] at hs
      exact List.contains_iff_mem.1 hs
  have h2 : ((List.range ws.length).map fun i : Nat => (i : Int)).length <= (orderP ws).length := by
    refine nodup_sub _ _ ?_ ?_
    · rw [List.Nodup, List.pairwise_map]
      exact List.nodup_range.imp fun hne e => hne (by omega)
    · intro x hx
      obtain ⟨i, hi, rfl⟩ := List.mem_map.1 hx
      exact all (rk i + 1) i (by omega) (List.mem_range.1 hi)
  simp at h2
  omega
/-- Works that are numbered otherwise. -/
structure Rnm (ws ws' : List Work) (nm : List Int) : Prop where
  len : ws'.length = ws.length
  rng : ∀ i, i < ws.length -> 0 <= nm.getD i 0 /\ nm.getD i 0 < (ws.length : Int)
  inj : ∀ i j, i < ws.length -> j < ws.length -> nm.getD i 0 = nm.getD j 0 -> i = j
  sur : ∀ j, j < ws.length -> ∃ i, i < ws.length /\ nm.getD i 0 = (j : Int)
  wk : ∀ i, i < ws.length -> ws'.getD (nm.getD i 0).toNat default = ⟨(ws.getD i default).of.map fun k => nm.getD k.toNat 0, (ws.getD i default).base, (ws.getD i default).minutes⟩
theorem Rnm.at_ (h : Rnm ws ws' nm) {j : Nat} (hj : j < ws'.length) : ∃ i, i < ws.length /\ nm.getD i 0 = (j : Int) /\ ws'.getD j default = ⟨(ws.getD i default).of.map fun k => nm.getD k.toNat 0, (ws.getD i default).base, (ws.getD i default).minutes⟩ := by
  obtain ⟨i, hi, e⟩ := h.sur j (by rw [← h.len]; exact hj)
  have := h.wk i hi
  rw [e, Int.toNat_natCast] at this
  exact ⟨i, hi, e, this⟩
theorem Rnm.right (h : Rnm ws ws' nm) (hB : Built ws) : rightE ws' = 0 := by
  have hl := h.len
  have h1 : inB ws'.length 1 30 = true := by
    have := hB.len
    unfold inB
    simp only [Bool.and_eq_true, decide_eq_true_eq]
    omega
  have h2 : (ws'.all fun x => decide ((x.of.length : Int) <= 5)) = true := by
    rw [List.all_eq_true]
    intro x hx
    obtain ⟨j, hj, rfl⟩ := mem_getD hx default
    obtain ⟨i, hi, _, e⟩ := h.at_ hj
    have := (hB.at_ i hi).few
    rw [e]
    simp only [decide_eq_true_eq, List.length_map]
    omega
  have h3 : (List.range ws'.length).any (badAt ws') = false := by
    rw [List.any_eq_false]
    intro j hj
    have hj := List.mem_range.1 hj
    obtain ⟨i, hi, en, e⟩ := h.at_ hj
    have hb := hB.at_ i hi
    unfold badAt badW
    rw [e]
    have e1 : inB (ws.getD i default).base 0 1000002 = true := by unfold inB; simp only [Bool.and_eq_true, decide_eq_true_eq]; exact hb.base
    have e2 : inB (ws.getD i default).minutes 0 10000 = true := by unfold inB; simp only [Bool.and_eq_true, decide_eq_true_eq]; exact hb.mins
    have e3 : (((ws.getD i default).of.map fun k => nm.getD k.toNat 0).all fun k => inB k 0 ((ws'.length : Int) - 1) && (k != (j : Int))) = true := by
      rw [List.all_eq_true]
      intro k' hk'
      obtain ⟨k, hk, rfl⟩ := List.mem_map.1 hk'
      have ha := hb.ahead k hk
      have hr := h.rng k.toNat (by omega)
      have hne : nm.getD k.toNat 0 ≠ (j : Int) := fun e' => by
        have := h.inj k.toNat i (by omega) hi (by rw [e', en])
        omega
      unfold inB
      simp only [Bool.and_eq_true, decide_eq_true_eq, bne_iff_ne, ne_eq]
      exact ⟨by omega, hne⟩
    dsimp only
    rw [e1, e2, e3]
    decide
  have h4 : (ws'.any fun x => dupL x.of) = false := by
    rw [List.any_eq_false]
    intro x hx hd
    obtain ⟨j, hj, rfl⟩ := mem_getD hx default
    obtain ⟨i, hi, _, e⟩ := h.at_ hj
    have hb := hB.at_ i hi
    have hn : (ws'.getD j default).of.Nodup := by
      rw [e]
      show (List.map _ _).Nodup
      rw [List.Nodup, List.pairwise_map]
      refine List.Pairwise.imp_of_mem (fun {a b} ha hb' hne e' => hne ?_) hb.once
      have h1 := hb.ahead a ha
      have h2 := hb.ahead b hb'
      have := h.inj a.toNat b.toNat (by omega) (by omega) e'
      omega
    unfold dupL at hd
    obtain ⟨k, hk, hd⟩ := List.any_eq_true.1 hd
    have hk := List.mem_range.1 hk
    unfold dupAt at hd
    rw [List.contains_iff_mem] at hd
    rw [← List.take_append_drop k (ws'.getD j default).of, List.nodup_append] at hn
    refine hn.2.2 _ hd _ ?_ rfl
    rw [List.mem_iff_getElem]
    refine ⟨0, by rw [List.length_drop]; omega, ?_⟩
    rw [List.getElem_drop]
    simp only [Nat.add_zero]
    exact (getD_el _ hk 0).symm
  unfold rightE
  rw [if_neg (by simp only [h1, h2]; decide), if_neg (by rw [h3]; decide), if_neg (by rw [h4]; decide)]
theorem Rnm.opened (h : Rnm ws ws' nm) (hB : Built ws) : openedE ws' = 0 := by
  have hl := h.len
  have inv : ∀ j, ∃ i, j < ws.length -> i < ws.length /\ nm.getD i 0 = (j : Int) := fun j => by
    by_cases hj : j < ws.length
    · obtain ⟨i, hi⟩ := h.sur j hj
      exact ⟨i, fun _ => hi⟩
    · exact ⟨0, fun h => absurd h hj⟩
  refine opened_rank (h.right hB) (fun j => Classical.choose (inv j)) (fun j hj k' hk' => ?_)
  obtain ⟨i, hi, en, e⟩ := h.at_ hj
  rw [e] at hk'
  obtain ⟨k, hk, rfl⟩ := List.mem_map.1 hk'
  have ha := (hB.at_ i hi).ahead k hk
  have hr := h.rng k.toNat (by omega)
  have c1 := Classical.choose_spec (inv j) (by omega)
  have c2 := Classical.choose_spec (inv (nm.getD k.toNat 0).toNat) (by omega)
  have e1 := h.inj _ i c1.1 hi (by rw [c1.2, en])
  have e2 := h.inj _ k.toNat c2.1 (by omega) (c2.2.trans (Int.toNat_of_nonneg hr.1))
  refine ⟨hr.1, by omega, ?_⟩
  show Classical.choose (inv (nm.getD k.toNat 0).toNat) < Classical.choose (inv j)
  omega
theorem any_same {l : List Int} {p q : Int -> Bool} (h : ∀ x ∈ l, p x = q x) : l.any p = l.any q := by
  rw [Bool.eq_iff_iff, List.any_eq_true, List.any_eq_true]
  constructor <;> rintro ⟨x, hx, hp⟩
  · exact ⟨x, hx, by rw [← h x hx]; exact hp⟩
  · exact ⟨x, hx, by rw [h x hx]; exact hp⟩
theorem all_same {l : List Int} {p q : Int -> Bool} (h : ∀ x ∈ l, p x = q x) : l.all p = l.all q := by
  rw [Bool.eq_iff_iff, List.all_eq_true, List.all_eq_true]
  constructor <;> intro hp x hx
  · rw [← h x hx]; exact hp x hx
  · rw [h x hx]; exact hp x hx
theorem foldl_same {l : List Int} {p q : Int -> Int -> Int} (h : ∀ b, ∀ x ∈ l, p b x = q b x) (b : Int) : l.foldl p b = l.foldl q b := by
  induction l generalizing b with
  | nil => rfl
  | cons x l ih => rw [List.foldl_cons, List.foldl_cons, h b x (by simp)]; exact ih (fun b y hy => h b y (by simp [hy])) _
theorem Rnm.stale (h : Rnm ws ws' nm) (hB : Built ws) (hO : openedE ws = 0) {rv rv' : List Int} (hc : ∀ i, i < ws.length -> rv'.contains (nm.getD i 0) = rv.contains (i : Int)) :
    ∀ i, i < ws.length -> (staleL ws' rv').getD (nm.getD i 0).toNat false = (staleL ws rv).getD i false := by
  intro i
  induction i using Nat.strongRecOn with
  | ind i ih =>
    intro hi
    have hr := h.rng i hi
    have hl := h.len
    have e1 := stale_eq hO rv (i := (i : Int)) (by omega) (by omega)
    rw [Int.toNat_natCast] at e1
    have e2 := stale_eq (h.opened hB) rv' hr.1 (by omega)
    rw [e2, e1, hc i hi, h.wk i hi]
    congr 1
    show (List.map _ _).any _ = _
    rw [List.any_map]
    refine any_same fun k hk => ?_
    have ha := (hB.at_ i hi).ahead k hk
    exact ih k.toNat (by omega) (by omega)
theorem Rnm.ready (h : Rnm ws ws' nm) (hB : Built ws) (hO : openedE ws = 0) {st st' : List Bool} (hs : ∀ i, i < ws.length -> st'.getD (nm.getD i 0).toNat false = st.getD i false) :
    ∀ i, i < ws.length -> (readyL ws' (orderP ws') st').getD (nm.getD i 0).toNat 0 = (readyL ws (orderP ws) st).getD i 0 := by
  intro i
  induction i using Nat.strongRecOn with
  | ind i ih =>
    intro hi
    have hr := h.rng i hi
    have hl := h.len
    have e1 := ready_eq hO st (i := (i : Int)) (by omega) (by omega)
    rw [Int.toNat_natCast] at e1
    have e2 := ready_eq (h.opened hB) st' hr.1 (by omega)
    rw [e2, e1, hs i hi, h.wk i hi]
    have eb : begF (readyL ws' (orderP ws') st') ((ws.getD i default).of.map fun k => nm.getD k.toNat 0) = begF (readyL ws (orderP ws) st) (ws.getD i default).of := by
      unfold begF
      rw [List.foldl_map]
      refine foldl_same (fun b k hk => ?_) 0
      have ha := (hB.at_ i hi).ahead k hk
      rw [ih k.toNat (by omega) (by omega)]
    dsimp only
    rw [eb]
/-- A note of a work that is numbered otherwise. -/
def renN (nm : List Int) (n : Note) : Note := { n with work := nm.getD n.work.toNat 0 }
theorem Rnm.newF (h : Rnm ws ws' nm) : ∀ (l : List Note) (f f' : Int -> Option Note), (∀ n ∈ l, 0 <= n.work /\ n.work < (ws.length : Int)) -> (∀ i, i < ws.length -> f' (nm.getD i 0) = (f (i : Int)).map (renN nm)) →
    ∀ i, i < ws.length -> (l.map (renN nm)).foldl newStep f' (nm.getD i 0) = (l.foldl newStep f (i : Int)).map (renN nm)
  | [], f, f', _, hf => hf
  | n :: l, f, f', hw, hf => by
    have h0 := hw n (by simp)
    refine h.newF l (newStep f n) (newStep f' (renN nm n)) (fun m hm => hw m (by simp [hm])) (fun i hi => ?_)
    have e1 : f' (renN nm n).work = (f n.work).map (renN nm) := by
      have := hf n.work.toNat (by omega)
      rwa [Int.toNat_of_nonneg h0.1] at this
    have e2 : (!((f' (renN nm n).work).isSome) || decide (((f' (renN nm n).work).getD default).version < (renN nm n).version)) = (!((f n.work).isSome) || decide (((f n.work).getD default).version < n.version)) := by
      rw [e1]
      cases f n.work <;> rfl
    have e3 : (nm.getD i 0 = (renN nm n).work) ↔ ((i : Int) = n.work) := by
      show nm.getD i 0 = nm.getD n.work.toNat 0 ↔ _
      constructor
      · intro e
        have := h.inj i n.work.toNat hi (by omega) e
        omega
      · intro e
        rw [← e, Int.toNat_natCast]
    unfold newStep
    rw [e2]
    split
    · unfold updF
      by_cases e : (i : Int) = n.work
      · rw [if_pos e, if_pos (e3.2 e)]; rfl
      · rw [if_neg e, if_neg (fun h => e (e3.1 h))]
        exact hf i hi
    · exact hf i hi
theorem nv_ren (o : Option Note) : nv (o.map (renN nm)) = nv o := by cases o <;> rfl
theorem sumV_same {out out' : List Int} {base : Int} {l l' : List Int} (hl : l'.length = l.length) (h : ∀ j, j < l.length -> out'.getD (l'.getD j 0).toNat 0 = out.getD (l.getD j 0).toNat 0) : ∀ j, j <= l.length -> sumV out' base l' j = sumV out base l j
  | 0, _ => rfl
  | j + 1, hj => by
    unfold sumV
    rw [sumV_same hl h j (by omega), h j (by omega)]
theorem Rnm.vals (h : Rnm ws ws' nm) (hB : Built ws) (hO : openedE ws = 0) {l : List Note} (hw : ∀ n ∈ l, 0 <= n.work /\ n.work < (ws.length : Int)) :
    ∀ i, i < ws.length -> (valL ws' (l.map (renN nm))).getD (nm.getD i 0).toNat 0 = (valL ws l).getD i 0 := by
  intro i
  induction i using Nat.strongRecOn with
  | ind i ih =>
    intro hi
    have hr := h.rng i hi
    have hl := h.len
    have e1 := val_eq hO (Nm.newF l) (i := (i : Int)) (by omega) (by omega)
    rw [Int.toNat_natCast] at e1
    have e2 := val_eq (h.opened hB) (Nm.newF (l.map (renN nm))) hr.1 (by omega)
    have ef : Nm.newF (l.map (renN nm)) (nm.getD i 0) = (Nm.newF l (i : Int)).map (renN nm) := h.newF l _ _ hw (fun _ _ => rfl) i hi
    rw [h.wk i hi, ef, nv_ren] at e2
    dsimp only at e2
    unfold valL at ih ⊢
    have ek : ∀ k ∈ (ws.getD i default).of, (valF ws' (Nm.newF (l.map (renN nm))) (orderP ws') (List.replicate ws'.length (-1))).getD (nm.getD k.toNat 0).toNat 0 = (valF ws (Nm.newF l) (orderP ws) (List.replicate ws.length (-1))).getD k.toNat 0 := by
      intro k hk
      have ha := (hB.at_ i hi).ahead k hk
      exact ih k.toNat (by omega) (by omega)
    rw [e2, e1, List.length_map, List.all_map]
    rw [all_same (l := (ws.getD i default).of) (q := fun k => (valF ws (Nm.newF l) (orderP ws) (List.replicate ws.length (-1))).getD k.toNat 0 != -1) (fun k hk => by
      show ((valF ws' _ _ _).getD (nm.getD k.toNat 0).toNat 0 != -1) = _
      rw [ek k hk])]
    rw [sumV_same (l := (ws.getD i default).of) (out := valF ws (Nm.newF l) (orderP ws) (List.replicate ws.length (-1))) (by rw [List.length_map]) (fun j hj => by
      have e3 : ((ws.getD i default).of.map fun k => nm.getD k.toNat 0).getD j 0 = nm.getD ((ws.getD i default).of.getD j 0).toNat 0 := by
        rw [getD_el _ (by rw [List.length_map]; exact hj) 0, getD_el _ hj 0, List.getElem_map]
      rw [e3]
      exact ek _ (getD_memN _ (by omega) 0)) _ (Nat.le_refl _)]
theorem Rnm.ng (h : Rnm ws ws' nm) {l : List Note} (hN : NG ws l) : NG ws' (l.map (renN nm)) := by
  refine ⟨by rw [List.length_map]; exact hN.few, fun n' hn' => ?_, fun n' hn' => ?_, fun a' ha' b' hb' e1 e2 => ?_⟩
  · obtain ⟨n, hn, rfl⟩ := List.mem_map.1 hn'
    have h1 := hN.src n hn
    have h2 := h.rng n.work.toNat (by omega)
    have h3 := h.wk n.work.toNat (by omega)
    refine ⟨h2.1, by rw [h.len]; exact h2.2, ?_⟩
    show (ws'.getD (nm.getD n.work.toNat 0).toNat default).of = []
    rw [h3, h1.2.2]
    rfl
  · obtain ⟨n, hn, rfl⟩ := List.mem_map.1 hn'
    exact hN.rng n hn
  · obtain ⟨a, ha, rfl⟩ := List.mem_map.1 ha'
    obtain ⟨b, hb, rfl⟩ := List.mem_map.1 hb'
    have h1 := hN.src a ha
    have h2 := hN.src b hb
    have h3 := h.inj a.work.toNat b.work.toNat (by omega) (by omega) e1
    rw [hN.uniq a ha b hb (by omega) e2]
theorem Rnm.con (h : Rnm ws ws' nm) {rv rv' : List Int} (hr : ∀ x ∈ rv, 0 <= x /\ x < (ws.length : Int)) (hm : ∀ x, x ∈ rv' ↔ ∃ y ∈ rv, nm.getD y.toNat 0 = x) : ∀ i, i < ws.length -> rv'.contains (nm.getD i 0) = rv.contains (i : Int) := by
  intro i hi
  rw [Bool.eq_iff_iff, List.contains_iff_mem, List.contains_iff_mem, hm]
  constructor
  · rintro ⟨y, hy, e⟩
    have h1 := hr y hy
    have := h.inj y.toNat i (by omega) hi e
    have : (i : Int) = y := by omega
    rw [this]; exact hy
  · intro hy
    exact ⟨_, hy, by rw [Int.toNat_natCast]⟩
end Go.Nm
namespace Go.Nm
/-- A sum of n numbers. -/
def sumN (f : Nat -> Int) : Nat -> Int
  | 0 => 0
  | n + 1 => sumN f n + f n
theorem sumN_congr {f g : Nat -> Int} : ∀ {n : Nat}, (∀ i, i < n -> f i = g i) -> sumN f n = sumN g n
  | 0, _ => rfl
  | n + 1, h => by
    simp only [sumN]
    rw [sumN_congr (n := n) (fun i hi => h i (by omega)), h n (by omega)]
theorem sumN_add (f g : Nat -> Int) : ∀ n, sumN (fun i => f i + g i) n = sumN f n + sumN g n
  | 0 => rfl
  | n + 1 => by simp only [sumN]; rw [sumN_add f g n]; omega
theorem sumN_sub (f g : Nat -> Int) : ∀ n, sumN (fun i => f i - g i) n = sumN f n - sumN g n
  | 0 => rfl
  | n + 1 => by simp only [sumN]; rw [sumN_sub f g n]; omega
theorem sumN_zero : ∀ n, sumN (fun _ => 0) n = 0
  | 0 => rfl
  | n + 1 => by simp only [sumN]; rw [sumN_zero n]; rfl
theorem sumN_zero' {f : Nat -> Int} {n : Nat} (h : ∀ i, i < n -> f i = 0) : sumN f n = 0 := (sumN_congr h).trans (sumN_zero n)
theorem sumN_le {f g : Nat -> Int} : ∀ {n : Nat}, (∀ i, i < n -> f i <= g i) -> sumN f n <= sumN g n
  | 0, _ => Int.le_refl _
  | n + 1, h => by
    simp only [sumN]
    have := sumN_le (n := n) (fun i hi => h i (by omega))
    have := h n (by omega)
    omega
theorem sumN_nn {f : Nat -> Int} {n : Nat} (h : ∀ i, i < n -> 0 <= f i) : 0 <= sumN f n := by
  have := sumN_le (f := fun _ => 0) h
  rwa [sumN_zero] at this
theorem sumN_one {f : Nat -> Int} {k : Nat} : ∀ {n : Nat}, (∀ i, i < n -> i ≠ k -> f i = 0) -> sumN f n = if k < n then f k else 0
  | 0, _ => by simp [sumN]
  | n + 1, h => by
    simp only [sumN]
    rw [sumN_one (n := n) (fun i hi => h i (by omega))]
    by_cases e : k = n
    · subst e
      rw [if_neg (Nat.lt_irrefl _), if_pos (Nat.lt_succ_self _)]
      omega
    · rw [h n (by omega) (fun e' => e e'.symm)]
      by_cases e2 : k < n
      · rw [if_pos e2, if_pos (by omega)]; omega
      · rw [if_neg e2, if_neg (by omega)]; rfl
theorem sumN_neg (f : Nat -> Int) : ∀ n, sumN (fun i => - f i) n = - sumN f n
  | 0 => rfl
  | n + 1 => by simp only [sumN]; rw [sumN_neg f n]; omega
theorem sumN_swap (f : Nat -> Nat -> Int) (m : Nat) : ∀ n, sumN (fun i => sumN (fun j => f i j) n) m = sumN (fun j => sumN (fun i => f i j) m) n
  | 0 => sumN_zero m
  | n + 1 => by
    simp only [sumN]
    rw [sumN_add, sumN_swap f m n]
theorem sumN_ge {f : Nat -> Int} : ∀ {n : Nat}, (∀ i, i < n -> 0 <= f i) -> ∀ i, i < n -> f i <= sumN f n
  | 0, _, i, hi => by omega
  | n + 1, h, i, hi => by
    simp only [sumN]
    by_cases e : i = n
    · subst e
      have := sumN_nn (n := i) (fun k hk => h k (by omega))
      omega
    · have := sumN_ge (n := n) (fun k hk => h k (by omega)) i (by omega)
      have := h n (by omega)
      omega
theorem sumN_ge2 {f : Nat -> Int} : ∀ {n : Nat}, (∀ i, i < n -> 0 <= f i) -> ∀ i k, i < k -> k < n -> f i + f k <= sumN f n
  | 0, _, i, k, _, hk => by omega
  | n + 1, h, i, k, hi, hk => by
    simp only [sumN]
    by_cases e : k = n
    · subst e
      have := sumN_ge (n := k) (fun j hj => h j (by omega)) i hi
      omega
    · have := sumN_ge2 (n := n) (fun j hj => h j (by omega)) i k hi (by omega)
      have := h n (by omega)
      omega
theorem sumN_pos {f : Nat -> Int} : ∀ {n : Nat}, 0 < sumN f n -> ∃ i, i < n /\ 0 < f i
  | 0, h => by simp [sumN] at h
  | n + 1, h => by
    simp only [sumN] at h
    by_cases e : 0 < f n
    · exact ⟨n, by omega, e⟩
    · obtain ⟨i, hi, h2⟩ := sumN_pos (f := f) (n := n) (by omega)
      exact ⟨i, by omega, h2⟩
theorem sumN_two (f : Nat -> Int) : ∀ n, sumN f (2 * n) = sumN (fun i => f (2 * i) + f (2 * i + 1)) n
  | 0 => rfl
  | n + 1 => by
    rw [show 2 * (n + 1) = 2 * n + 1 + 1 from by omega]
    simp only [sumN]
    rw [sumN_two f n]
    omega
theorem sumN_count (p : Nat -> Bool) : ∀ n, sumN (fun i => if p i then 1 else 0) n = (((List.range n).filter p).length : Int)
  | 0 => rfl
  | n + 1 => by
    simp only [sumN]
    rw [sumN_count p n, List.range_succ, List.filter_append, List.length_append]
    cases h : p n <;> simp [h]
/-- What comes to an end passes each cut. -/
theorem cut_pass {f : Nat -> Nat -> Int} {N t : Nat} {S : Nat -> Bool} (skew : ∀ u v, u < N -> v < N -> f u v = - f v u) (ht : t < N) (hS : S t = false)
    (cons : ∀ v, v < N -> S v = false -> v ≠ t -> sumN (fun u => f u v) N = 0) :
    sumN (fun u => f u t) N = sumN (fun u => sumN (fun v => if S u && !S v then f u v else 0) N) N := by
  have h1 : sumN (fun u => f u t) N = sumN (fun v => if S v then 0 else sumN (fun u => f u v) N) N := by
    rw [sumN_one (k := t) (f := fun v => if S v then 0 else sumN (fun u => f u v) N) (fun v hv hne => ?_), if_pos ht, if_neg (by simp [hS])]
    cases h : S v with
    | true => rfl
    | false => exact cons v hv h hne
  have h2 : ∀ v, (if S v then 0 else sumN (fun u => f u v) N) = sumN (fun u => if S u && !S v then f u v else 0) N + sumN (fun u => if !S u && !S v then f u v else 0) N := by
    intro v
    rw [← sumN_add]
    cases h : S v with
    | true => rw [if_pos rfl]; exact (sumN_zero' (fun u _ => by simp)).symm
    | false =>
      rw [if_neg (by simp)]
      refine sumN_congr fun u _ => ?_
      cases S u <;> simp
  have h3 : sumN (fun v => sumN (fun u => if !S u && !S v then f u v else 0) N) N = 0 := by
    have a := sumN_swap (fun v u => if !S u && !S v then f u v else 0) N N
    have b : sumN (fun u => sumN (fun v => if !S u && !S v then f u v else 0) N) N = - sumN (fun v => sumN (fun u => if !S u && !S v then f u v else 0) N) N := by
      rw [← sumN_neg]
      refine sumN_congr fun u hu => ?_
      rw [← sumN_neg]
      refine sumN_congr fun v hv => ?_
      rw [skew u v hu hv, Bool.and_comm]
      cases (!S v && !S u) <;> simp
    omega
  rw [h1, sumN_congr (fun v _ => h2 v), sumN_add, h3, Int.add_zero]
  exact (sumN_swap (fun u v => if S u && !S v then f u v else 0) N N).symm
/-- How often a path goes from one place to another one. -/
def eP : List Nat -> Nat -> Nat -> Int
  | a :: b :: l, u, v => (if u = a /\ v = b then 1 else 0) + eP (b :: l) u v
  | _, _, _ => 0
/-- There is room along a path. -/
def Pa (c : Nat -> Nat -> Int) : List Nat -> Prop
  | a :: b :: l => 0 < c a b /\ Pa c (b :: l)
  | _ => True
def lst (a : Nat) : List Nat -> Nat
  | [] => a
  | b :: l => lst b l
theorem eP_nn : ∀ (P : List Nat) (u v : Nat), 0 <= eP P u v
  | [], _, _ => Int.le_refl _
  | [_], _, _ => Int.le_refl _
  | a :: b :: l, u, v => by
    simp only [eP]
    have := eP_nn (b :: l) u v
    split <;> omega
theorem eP_mem : ∀ (P : List Nat) (u v : Nat), 0 < eP P u v -> u ∈ P /\ v ∈ P.tail
  | [], _, _, h => by simp [eP] at h
  | [_], _, _, h => by simp [eP] at h
  | a :: b :: l, u, v, h => by
    simp only [eP] at h
    by_cases e : u = a /\ v = b
    · rw [e.1, e.2]; simp
    · rw [if_neg e, Int.zero_add] at h
      have := eP_mem (b :: l) u v h
      exact ⟨List.mem_cons_of_mem _ this.1, by simp only [List.tail_cons] at this ⊢; exact List.mem_cons_of_mem _ this.2⟩
theorem eP_room {c : Nat -> Nat -> Int} : ∀ (P : List Nat) (u v : Nat), Pa c P -> 0 < eP P u v -> 0 < c u v
  | [], _, _, _, h => by simp [eP] at h
  | [_], _, _, _, h => by simp [eP] at h
  | a :: b :: l, u, v, hp, h => by
    simp only [eP] at h
    by_cases e : u = a /\ v = b
    · rw [e.1, e.2]; exact hp.1
    · rw [if_neg e, Int.zero_add] at h
      exact eP_room (b :: l) u v hp.2 h
theorem eP_no {P : List Nat} {u v : Nat} (h : u ∉ P ∨ v ∉ P) : eP P u v = 0 := by
  have := eP_nn P u v
  by_cases e : 0 < eP P u v
  · have := eP_mem P u v e
    rcases h with h | h
    · exact absurd this.1 h
    · exact absurd (List.mem_of_mem_tail this.2) h
  · omega
theorem eP_le : ∀ (P : List Nat) (u v : Nat), P.Nodup -> eP P u v <= 1
  | [], _, _, _ => by simp [eP]
  | [_], _, _, _ => by simp [eP]
  | a :: b :: l, u, v, h => by
    simp only [eP]
    rw [List.nodup_cons] at h
    by_cases e : u = a /\ v = b
    · rw [if_pos e, e.1, eP_no (.inl h.1)]; omega
    · rw [if_neg e]
      have := eP_le (b :: l) u v h.2
      omega
theorem eP_sum {N : Nat} (v : Nat) : ∀ (l : List Nat) (a : Nat), (∀ x ∈ a :: l, x < N) -> sumN (fun u => eP (a :: l) u v - eP (a :: l) v u) N = (if v = lst a l then 1 else 0) - (if v = a then 1 else 0)
  | [], a, _ => by
    rw [sumN_zero' (fun u _ => by simp [eP])]
    simp only [lst]
    omega
  | b :: l, a, h => by
    have ih := eP_sum v l b (fun x hx => h x (List.mem_cons_of_mem _ hx))
    have ha := h a (by simp)
    have hb := h b (by simp)
    simp only [eP, lst]
    have e : sumN (fun u => (if u = a /\ v = b then (1 : Int) else 0) + eP (b :: l) u v - ((if v = a /\ u = b then 1 else 0) + eP (b :: l) v u)) N
        = sumN (fun u => (if u = a /\ v = b then (1 : Int) else 0) - (if v = a /\ u = b then 1 else 0)) N + sumN (fun u => eP (b :: l) u v - eP (b :: l) v u) N := by
      rw [← sumN_add]
      exact sumN_congr fun u _ => by omega
    rw [e, ih, sumN_sub, sumN_one (k := a) (f := fun u => if u = a /\ v = b then (1 : Int) else 0) (fun i _ hne => by rw [if_neg (fun h => hne h.1)]), if_pos ha,
      sumN_one (k := b) (f := fun u => if v = a /\ u = b then (1 : Int) else 0) (fun i _ hne => by rw [if_neg (fun h => hne h.2)]), if_pos hb]
    by_cases e1 : v = b <;> by_cases e2 : v = a <;> simp [e1, e2] <;> omega
/-- Room behind one more that went along a path. -/
def pushP (c : Nat -> Nat -> Int) (P : List Nat) (u v : Nat) : Int := c u v - eP P u v + eP P v u
/-- A flow, as what is left of the room. -/
structure Flow (N t : Nat) (src : Nat -> Bool) (c0 c : Nat -> Nat -> Int) : Prop where
  nn : ∀ u v, 0 <= c u v
  skew : ∀ u v, c u v + c v u = c0 u v + c0 v u
  cons : ∀ v, v < N -> src v = false -> v ≠ t -> sumN (fun u => c0 u v - c u v) N = 0
/-- How many went. -/
def flowV (N t : Nat) (c0 c : Nat -> Nat -> Int) : Int := sumN (fun u => c0 u t - c u t) N
variable {N t : Nat} {src : Nat -> Bool} {c0 c : Nat -> Nat -> Int}
theorem Flow.push (h : Flow N t src c0 c) {a : Nat} {l : List Nat} (hp : Pa c (a :: l)) (hn : (a :: l).Nodup) (hr : ∀ x ∈ a :: l, x < N) (hl : lst a l = t) (ha : src a = true) (hat : a ≠ t) :
    Flow N t src c0 (pushP c (a :: l)) /\ flowV N t c0 (pushP c (a :: l)) = flowV N t c0 c + 1 := by
  have key : ∀ v, sumN (fun u => c0 u v - pushP c (a :: l) u v) N = sumN (fun u => c0 u v - c u v) N + ((if v = t then 1 else 0) - (if v = a then 1 else 0)) := by
    intro v
    rw [← hl, ← eP_sum v l a hr, ← sumN_add]
    refine sumN_congr fun u _ => ?_
    unfold pushP
    omega
  refine ⟨⟨fun u v => ?_, fun u v => ?_, fun v hv hs hne => ?_⟩, ?_⟩
  · unfold pushP
    have h1 := eP_nn (a :: l) v u
    have h2 := eP_le (a :: l) u v hn
    have h3 := h.nn u v
    by_cases e : 0 < eP (a :: l) u v
    · have := eP_room _ _ _ hp e
      omega
    · omega
  · unfold pushP
    have := h.skew u v
    omega
  · rw [key, h.cons v hv hs hne, if_neg hne, if_neg (fun e => by rw [e, ha] at hs; cases hs)]
    rfl
  · unfold flowV
    rw [key, if_pos rfl, if_neg (fun e => hat e.symm)]
    rfl
theorem Flow.start (h : ∀ u v, 0 <= c0 u v) : Flow N t src c0 c0 := ⟨h, fun _ _ => rfl, fun v _ _ _ => sumN_zero' fun u _ => by omega⟩
/-- What went passes each cut. -/
theorem Flow.cut (h : Flow N t src c0 c) (ht : t < N) {S : Nat -> Bool} (hS : S t = false) (hsrc : ∀ v, v < N -> src v = true -> S v = true) :
    flowV N t c0 c = sumN (fun u => sumN (fun v => if S u && !S v then c0 u v - c u v else 0) N) N :=
  cut_pass (f := fun u v => c0 u v - c u v) (fun u v _ _ => by have := h.skew u v; omega) ht hS (fun v hv hs hne => h.cons v hv (by
    cases e : src v with
    | false => rfl
    | true => rw [hsrc v hv e] at hs; cases hs) hne)
theorem Flow.le (h : Flow N t src c0 c) (ht : t < N) {S : Nat -> Bool} (hS : S t = false) (hsrc : ∀ v, v < N -> src v = true -> S v = true) :
    flowV N t c0 c <= sumN (fun u => sumN (fun v => if S u && !S v then c0 u v else 0) N) N := by
  rw [h.cut ht hS hsrc]
  refine sumN_le fun u _ => sumN_le fun v _ => ?_
  have := h.nn u v
  split <;> omega
theorem Flow.full (h : Flow N t src c0 c) (ht : t < N) {S : Nat -> Bool} (hS : S t = false) (hsrc : ∀ v, v < N -> src v = true -> S v = true) (hc : ∀ u v, u < N -> v < N -> S u = true -> S v = false -> c u v = 0) :
    flowV N t c0 c = sumN (fun u => sumN (fun v => if S u && !S v then c0 u v else 0) N) N := by
  rw [h.cut ht hS hsrc]
  refine sumN_congr fun u hu => sumN_congr fun v hv => ?_
  cases e1 : S u with
  | false => rfl
  | true =>
    cases e2 : S v with
    | true => rfl
    | false => rw [hc u v hu hv e1 e2]; simp
/-- What cannot be left, cannot be left behind one more that went to the end. -/
theorem Pa.out {S : Nat -> Bool} (hc : ∀ u v, u < N -> v < N -> S u = true -> 0 < c u v -> S v = true) (ht : S t = false) : ∀ (l : List Nat) (a : Nat), Pa c (a :: l) -> (∀ x ∈ a :: l, x < N) -> lst a l = t -> ∀ x ∈ a :: l, S x = false
  | [], a, _, _, hl => by
    simp only [lst] at hl
    intro x hx
    rw [List.mem_singleton.1 hx, hl]
    exact ht
  | b :: l, a, hp, hr, hl => by
    have ih := Pa.out hc ht l b hp.2 (fun x hx => hr x (List.mem_cons_of_mem _ hx)) hl
    intro x hx
    rcases List.mem_cons.1 hx with rfl | hx
    · cases e : S x with
      | false => rfl
      | true =>
        have := hc x b (hr x (by simp)) (hr b (by simp)) e hp.1
        rw [ih b (by simp)] at this
        cases this
    · exact ih x hx
theorem Pa.closed {S : Nat -> Bool} (hc : ∀ u v, u < N -> v < N -> S u = true -> 0 < c u v -> S v = true) (ht : S t = false) {l : List Nat} {a : Nat} (hp : Pa c (a :: l)) (hr : ∀ x ∈ a :: l, x < N) (hl : lst a l = t) :
    ∀ u v, u < N -> v < N -> S u = true -> 0 < pushP c (a :: l) u v -> S v = true := by
  intro u v hu hv hs h
  have ho := Pa.out hc ht l a hp hr hl
  have hu' : u ∉ a :: l := fun hm => by rw [ho u hm] at hs; cases hs
  unfold pushP at h
  rw [eP_no (.inl hu'), eP_no (.inr hu')] at h
  exact hc u v hu hv hs (by omega)
end Go.Nm
namespace Go.Proofs
open Go.Shelf
def Try.layRev_ren : Go.Shelf.Ren := ⟨fun | 112 => 104 | n => n, fun | 28 => 34 | 3 => 3 | 4 => 4 | 0 => 0 | n => n, fun | n => n⟩
theorem Try.layRev : Go.Proofs.Lays.n112 Try.prog Try.layRev_ren := {
  mixed := by kernel_rfl
  f112 := Try.func104.trans (congrArg some (by kernel_rfl))
  t0 := Try.underlying0
  a0 := Try.isAgg0
  z0 := Try.sizeOf0
  v0 := Try.zeroValue0
  t3 := Try.underlying3
  a3 := Try.isAgg3
  z3 := Try.sizeOf3
  v3 := Try.zeroValue3
  t4 := Try.underlying4
  a4 := Try.isAgg4
  z4 := Try.sizeOf4
  v4 := Try.zeroValue4
  t28 := Try.underlying34
  a28 := Try.isAgg34
  z28 := Try.sizeOf34
  v28 := Try.zeroValue34 }
def Try.layMul_ren : Go.Shelf.Ren := ⟨fun | 212 => 142 | 263 => 180 | 264 => 181 | n => n, fun | 46 => 205 | 51 => 230 | 146 => 234 | 53 => 232 | 148 => 236 | n => n, fun | n => n⟩
theorem Try.layMul : Go.Proofs.Lays.n212 Try.prog Try.layMul_ren := {
  mixed := by kernel_rfl
  f212 := Try.func142.trans (congrArg some (by kernel_rfl))
  f263 := Try.func180.trans (congrArg some (by kernel_rfl))
  f264 := Try.func181.trans (congrArg some (by kernel_rfl))
  t46 := Try.underlying205
  a46 := Try.isAgg205
  z46 := Try.sizeOf205
  v46 := Try.zeroValue205
  t51 := Try.underlying230
  a51 := Try.isAgg230
  z51 := Try.sizeOf230
  v51 := Try.zeroValue230
  t53 := Try.underlying232
  a53 := Try.isAgg232
  z53 := Try.sizeOf232
  v53 := Try.zeroValue232
  t146 := Try.underlying234
  a146 := Try.isAgg234
  z146 := Try.sizeOf234
  v146 := Try.zeroValue234
  t148 := Try.underlying236
  a148 := Try.isAgg236
  z148 := Try.sizeOf236
  v148 := Try.zeroValue236 }
end Go.Proofs
namespace Go.Nm
open Go
theorem setCells_row (g : Nat) (t : TypeId) (fr : Nat × Nat) : ∀ (vs : List Value) (o : Nat) (w : World) (cur : Array Value), w.heap[g]? = some (.cells cur t fr) -> o + vs.length <= cur.size →
    w.setCells g o vs = w.setRow g (cur.toList.take o ++ vs ++ cur.toList.drop (o + vs.length)).toArray
  | [], o, w, cur, h, _ => by
    simp only [World.setCells, List.append_nil, List.length_nil, Nat.add_zero, List.take_append_drop, Array.toArray_toList]
    exact (setRow_self w g cur t fr h).symm
  | v :: r, o, w, cur, h, hl => by
    have hl' : o + 1 + r.length <= (cur.setIfInBounds o v).size := by simp at hl ⊢; omega
    rw [World.setCells, setCell_eq_setRow w g o cur t fr v h, setCells_row g t fr r (o + 1) _ _ (setRow_heap w g cur _ t _ h) hl', setRow_setRow]
    congr 2
    have e := list_seg_step cur.toList o v r (by simp at hl ⊢; omega)
    simpa [Array.toList_setIfInBounds, Nat.add_assoc] using e
theorem OwnF.over {B : Nat} {e : TypeId} {w : World} {l : List Int} {g cap : Nat} {cur : Array Value} (ho : OwnF B e w (.slice (some ⟨g, 0, none⟩) l.length cap) l) (hg : w.heap[g]? = some (.cells cur e (0, 0)))
    (hcs : l.length <= cap) (hsz : cur.size = cap) (hb : B <= g) (hm : cap <= maxLen) (l' : List Int) (hl : l'.length = l.length) (q : Nat) :
    OwnF B e ((w.drewN q).setCells g 0 (l'.map I)) (.slice (some ⟨g, 0, none⟩) l.length cap) l' /\ Grow B (.slice (some ⟨g, 0, none⟩) l.length cap) w ((w.drewN q).setCells g 0 (l'.map I)) := by
  rw [setCells_row g e (0, 0) (l'.map I) 0 (w.drewN q) cur hg (by simp; omega)]
  have hs1 : Elt.sz Int = 1 := rfl
  refine ⟨⟨by rw [enc_ints]; simp [hs1], .inr ⟨g, cap, _, by rw [hl], hb, setRow_heap _ g cur _ e (0, 0) hg, by omega, hm, by simp [hs1]; omega, ?_⟩⟩, ⟨rfl, rfl, by simp, fun k _ hk => ?_, fun g' hg' => (ho.lt g' hg').1, frozen_setRow _ _ _⟩⟩
  · rw [enc_ints, hs1]
    simp
  · rw [setRow_other]
    · rfl
    · intro e'
      apply hk
      rw [e']
      rfl
end Go.Nm
namespace Go.Proofs.Ytndobgodeicloaa
open Go Go.Nm Go.Proofs
theorem mul_any {n : Int} (h0 : 0 <= n) (h1 : n <= 9223372036854775807) (w : World) : Ret Try.prog 142 #[.int .u64 1, .int .u64 n] w fun v w' => v = .tuple #[.int .u64 0, .int .u64 n] /\ Ext w w' := by
  have h := Any.bits_Mul Try.layMul 1 n.toNat (by omega) (by omega) w
  have e : ((n.toNat : Nat) : Int) = n := Int.toNat_of_nonneg h0
  rw [Nat.one_mul, Nat.div_eq_of_lt (by omega), Nat.mod_eq_of_lt (by omega), e] at h
  refine Calls.mono h ?_
  rintro _ w' ⟨rfl, rfl⟩
  exact ⟨_, rfl, rfl, Ext.refl w'⟩
theorem reverse_any {B : Nat} {e : TypeId} {w : World} {v : Value} {l : List Int} (ho : OwnF B e w v l) : Ret Try.prog 104 #[v] w fun u w' => u = .tuple #[] /\ OwnF B e w' v l.reverse /\ Grow B v w w' := by
  have ho' := ho
  rcases ho.2 with ⟨rfl, hn⟩ | ⟨g, cap, cur, rfl, hb, hg, hc, hm, hcs, htake⟩
  · obtain rfl : l = [] := List.eq_nil_of_length_eq_zero hn
    refine Calls.mono (Any.slices_Reverse_int_empty Try.layRev none 0 w) ?_
    rintro _ w' ⟨rfl, rfl⟩
    exact ⟨_, rfl, rfl, ho', ⟨rfl, rfl, Nat.le_refl _, fun _ _ _ => rfl, fun g hg => (ho'.lt g hg).1, fun _ => rfl⟩⟩
  · have hs1 : Elt.sz Int = 1 := rfl
    rw [hs1] at hcs htake
    rw [enc_ints] at htake
    have hcell : ∀ j, j < l.length -> w.cell? ⟨g, 0 + j, none⟩ = some (.int .i64 (l.getD j 0)) := by
      intro j hj
      rw [Nat.zero_add, cell_of_row w g j cur e (0, 0) hg]
      have h1 : (cur.toList.take (l.length * 1))[j]? = (l.map I)[j]? := by rw [htake]
      rw [List.getElem?_take, if_pos (by omega), List.getElem?_map, getD_some l hj 0] at h1
      simpa using h1
    have hfz : ∀ j, j < l.length -> w.frozen? ⟨g, 0 + j, none⟩ = false := fun j hj => by simp [World.frozen?, hg]
    refine Calls.mono (Any.slices_Reverse_int_cells Try.layRev g 0 l.length cap l w (Nat.le_refl _) (by simp [maxLen] at hm; omega) hcell hfz) ?_
    rintro _ w' ⟨rfl, q, rfl⟩
    rw [List.take_length]
    have hh := OwnF.over ho' hg hc (by omega) hb hm l.reverse (by simp) q
    exact ⟨_, rfl, rfl, hh.1, hh.2⟩
end Go.Proofs.Ytndobgodeicloaa
namespace Go.Proofs.Ytndobgodeicloaa
open Go Go.Nm
theorem cf21 : CF Try.prog 21 := ⟨_, Try.func21, rfl, by decide +kernel⟩
theorem cf45 : CF Try.prog 45 := ⟨_, Try.func45, rfl, by decide +kernel⟩
theorem cf48 : CF Try.prog 48 := ⟨_, Try.func48, rfl, by decide +kernel⟩
theorem cf81 : CF Try.prog 81 := ⟨_, Try.func81, rfl, by decide +kernel⟩
theorem cf82 : CF Try.prog 82 := ⟨_, Try.func82, rfl, by decide +kernel⟩
theorem cf83 : CF Try.prog 83 := ⟨_, Try.func83, rfl, by decide +kernel⟩
theorem cf84 : CF Try.prog 84 := ⟨_, Try.func84, rfl, by decide +kernel⟩
theorem cf85 : CF Try.prog 85 := ⟨_, Try.func85, rfl, by decide +kernel⟩
theorem cf86 : CF Try.prog 86 := ⟨_, Try.func86, rfl, by decide +kernel⟩
theorem cf87 : CF Try.prog 87 := ⟨_, Try.func87, rfl, by decide +kernel⟩
theorem cf88 : CF Try.prog 88 := ⟨_, Try.func88, rfl, by decide +kernel⟩
theorem cf90 : CF Try.prog 90 := ⟨_, Try.func90, rfl, by decide +kernel⟩
theorem cf91 : CF Try.prog 91 := ⟨_, Try.func91, rfl, by decide +kernel⟩
theorem cf92 : CF Try.prog 92 := ⟨_, Try.func92, rfl, by decide +kernel⟩
theorem cf96 : CF Try.prog 96 := ⟨_, Try.func96, rfl, by decide +kernel⟩
theorem cf99 : CF Try.prog 99 := ⟨_, Try.func99, rfl, by decide +kernel⟩
theorem cf100 : CF Try.prog 100 := ⟨_, Try.func100, rfl, by decide +kernel⟩
theorem cf101 : CF Try.prog 101 := ⟨_, Try.func101, rfl, by decide +kernel⟩
theorem cf102 : CF Try.prog 102 := ⟨_, Try.func102, rfl, by decide +kernel⟩
theorem cf103 : CF Try.prog 103 := ⟨_, Try.func103, rfl, by decide +kernel⟩
theorem cf104 : CF Try.prog 104 := ⟨_, Try.func104, rfl, by decide +kernel⟩
theorem cf130 : CF Try.prog 130 := ⟨_, Try.func130, rfl, by decide +kernel⟩
theorem cf131 : CF Try.prog 131 := ⟨_, Try.func131, rfl, by decide +kernel⟩
theorem cf140 : CF Try.prog 140 := ⟨_, Try.func140, rfl, by decide +kernel⟩
theorem cf141 : CF Try.prog 141 := ⟨_, Try.func141, rfl, by decide +kernel⟩
theorem cf142 : CF Try.prog 142 := ⟨_, Try.func142, rfl, by decide +kernel⟩
theorem cf143 : CF Try.prog 143 := ⟨_, Try.func143, rfl, by decide +kernel⟩
theorem cf144 : CF Try.prog 144 := ⟨_, Try.func144, rfl, by decide +kernel⟩
theorem cf145 : CF Try.prog 145 := ⟨_, Try.func145, rfl, by decide +kernel⟩
theorem cf146 : CF Try.prog 146 := ⟨_, Try.func146, rfl, by decide +kernel⟩
theorem cf147 : CF Try.prog 147 := ⟨_, Try.func147, rfl, by decide +kernel⟩
theorem cf161 : CF Try.prog 161 := ⟨_, Try.func161, rfl, by decide +kernel⟩
theorem cf162 : CF Try.prog 162 := ⟨_, Try.func162, rfl, by decide +kernel⟩
theorem cf163 : CF Try.prog 163 := ⟨_, Try.func163, rfl, by decide +kernel⟩
theorem cf164 : CF Try.prog 164 := ⟨_, Try.func164, rfl, by decide +kernel⟩
theorem cf179 : CF Try.prog 179 := ⟨_, Try.func179, rfl, by decide +kernel⟩
theorem cf182 : CF Try.prog 182 := ⟨_, Try.func182, rfl, by decide +kernel⟩
theorem cf186 : CF Try.prog 186 := ⟨_, Try.func186, rfl, by decide +kernel⟩
theorem cf187 : CF Try.prog 187 := ⟨_, Try.func187, rfl, by decide +kernel⟩
theorem cf200 : CF Try.prog 200 := ⟨_, Try.func200, rfl, by decide +kernel⟩
theorem T22 : SlT Try.prog 22 60 3 40 (.agg #[.slice none 0 0, I 0, I 0]) := ⟨Try.underlying22, by kernel_rfl, rfl, by decide⟩
theorem T23 : SlT Try.prog 23 30 3 24 (.agg #[I 0, I 0, I 0]) := ⟨Try.underlying23, by kernel_rfl, rfl, by decide⟩
theorem T24 : SlT Try.prog 24 33 2 16 (.agg #[I 0, I 0]) := ⟨Try.underlying24, by kernel_rfl, rfl, by decide⟩
theorem T34 : SlT Try.prog 34 3 1 8 (I 0) := ⟨Try.underlying34, by kernel_rfl, rfl, by decide⟩
theorem T73 : SlT Try.prog 73 34 1 24 (.slice none 0 0) := ⟨Try.underlying73, by kernel_rfl, rfl, by decide⟩
theorem Sc3 : isSc (Try.prog.underlying 3) = true := by rw [Try.underlying3]; rfl
theorem Sc4 : isSc (Try.prog.underlying 4) = true := by rw [Try.underlying4]; rfl
theorem Sc22 : isSc (Try.prog.underlying 22) = true := by rw [Try.underlying22]; rfl
theorem Sc34 : isSc (Try.prog.underlying 34) = true := by rw [Try.underlying34]; rfl
theorem Sc75 : isSc (Try.prog.underlying 75) = true := by rw [Try.underlying75]; rfl
theorem Sc132 : isSc (Try.prog.underlying 132) = true := by rw [Try.underlying132]; rfl
theorem Sc140 : isSc (Try.prog.underlying 140) = true := by rw [Try.underlying140]; rfl
theorem Sc218 : isSc (Try.prog.underlying 218) = true := by rw [Try.underlying218]; rfl
theorem Sz3 : (Try.prog.info? 3).map (·.size) = some 1 := by kernel_rfl
theorem Sz4 : (Try.prog.info? 4).map (·.size) = some 1 := by kernel_rfl
theorem Sz22 : (Try.prog.info? 22).map (·.size) = some 1 := by kernel_rfl
theorem Ag30 : isAg (Try.prog.underlying 30) = true := by rw [Try.underlying30]; rfl
theorem Sz30 : (Try.prog.info? 30).map (·.size) = some 3 := by kernel_rfl
theorem Ag33 : isAg (Try.prog.underlying 33) = true := by rw [Try.underlying33]; rfl
theorem Sz33 : (Try.prog.info? 33).map (·.size) = some 2 := by kernel_rfl
theorem Sz34 : (Try.prog.info? 34).map (·.size) = some 1 := by kernel_rfl
theorem Ag60 : isAg (Try.prog.underlying 60) = true := by rw [Try.underlying60]; rfl
theorem Sz60 : (Try.prog.info? 60).map (·.size) = some 3 := by kernel_rfl
theorem Ag141 : isAg (Try.prog.underlying 141) = true := by rw [Try.underlying141]; rfl
theorem Sz141 : (Try.prog.info? 141).map (·.size) = some 30 := by kernel_rfl
theorem Sz185 : (Try.prog.info? 185).map (·.size) = some 1 := by kernel_rfl
theorem Fd30_0 : (Try.prog.underlying 30).bind (fun d => match d with | .struct fs => (fs[0]?).map (fun f => (f.offset, f.type)) | _ => none) = some (0, 3) := by rw [Try.underlying30]; rfl
theorem Fd30_1 : (Try.prog.underlying 30).bind (fun d => match d with | .struct fs => (fs[1]?).map (fun f => (f.offset, f.type)) | _ => none) = some (1, 3) := by rw [Try.underlying30]; rfl
theorem Fd30_2 : (Try.prog.underlying 30).bind (fun d => match d with | .struct fs => (fs[2]?).map (fun f => (f.offset, f.type)) | _ => none) = some (2, 3) := by rw [Try.underlying30]; rfl
theorem Fd33_0 : (Try.prog.underlying 33).bind (fun d => match d with | .struct fs => (fs[0]?).map (fun f => (f.offset, f.type)) | _ => none) = some (0, 3) := by rw [Try.underlying33]; rfl
theorem Fd33_1 : (Try.prog.underlying 33).bind (fun d => match d with | .struct fs => (fs[1]?).map (fun f => (f.offset, f.type)) | _ => none) = some (1, 3) := by rw [Try.underlying33]; rfl
theorem Fd60_0 : (Try.prog.underlying 60).bind (fun d => match d with | .struct fs => (fs[0]?).map (fun f => (f.offset, f.type)) | _ => none) = some (0, 34) := by rw [Try.underlying60]; rfl
theorem Fd60_1 : (Try.prog.underlying 60).bind (fun d => match d with | .struct fs => (fs[1]?).map (fun f => (f.offset, f.type)) | _ => none) = some (1, 3) := by rw [Try.underlying60]; rfl
theorem Fd60_2 : (Try.prog.underlying 60).bind (fun d => match d with | .struct fs => (fs[2]?).map (fun f => (f.offset, f.type)) | _ => none) = some (2, 3) := by rw [Try.underlying60]; rfl
theorem Fd185_0 : (Try.prog.underlying 185).bind (fun d => match d with | .struct fs => (fs[0]?).map (fun f => (f.offset, f.type)) | _ => none) = some (0, 22) := by rw [Try.underlying185]; rfl
theorem Fd187_0 : (Try.prog.underlying 187).bind (fun d => match d with | .struct fs => (fs[0]?).map (fun f => (f.offset, f.type)) | _ => none) = some (0, 185) := by rw [Try.underlying187]; rfl
theorem Al3 : (Try.prog.info? 3).map (·.zero) = some (some (I 0)) := by kernel_rfl
theorem Al30 : (Try.prog.info? 30).map (·.zero) = some (some (.agg #[I 0, I 0, I 0])) := by kernel_rfl
theorem Al33 : (Try.prog.info? 33).map (·.zero) = some (some (.agg #[I 0, I 0])) := by kernel_rfl
theorem Al34 : (Try.prog.info? 34).map (·.zero) = some (some (.slice none 0 0)) := by kernel_rfl
theorem Al60 : (Try.prog.info? 60).map (·.zero) = some (some (.agg #[.slice none 0 0, I 0, I 0])) := by kernel_rfl
theorem Al141 : (Try.prog.info? 141).map (·.zero) = some (some (.agg #[B false, B false, B false, B false, B false, B false, B false, B false, B false, B false, B false, B false, B false, B false, B false, B false, B false, B false, B false, B false, B false, B false, B false, B false, B false, B false, B false, B false, B false, B false])) := by kernel_rfl
theorem Al185 : (Try.prog.info? 185).map (·.zero) = some (some (.agg #[.slice none 0 0])) := by kernel_rfl
theorem Al187 : (Try.prog.info? 187).map (·.zero) = some (some (.agg #[.slice none 0 0])) := by kernel_rfl
theorem Bd185 {fs : Array Field} (h : Try.prog.underlying 185 = some (.struct fs)) : fs.toList.mapM (fun f => (Try.prog.info? f.type).map fun i => (f.offset, i.size)) = some [(0, 1)] := by rw [Try.underlying185] at h; simp only [Option.some.injEq, TypeDesc.struct.injEq] at h; subst h; kernel_rfl
theorem Bd187 {fs : Array Field} (h : Try.prog.underlying 187 = some (.struct fs)) : fs.toList.mapM (fun f => (Try.prog.info? f.type).map fun i => (f.offset, i.size)) = some [(0, 1)] := by rw [Try.underlying187] at h; simp only [Option.some.injEq, TypeDesc.struct.injEq] at h; subst h; kernel_rfl
theorem mixed : Try.prog.follows .mixedOrders = true := by kernel_rfl
end Go.Proofs.Ytndobgodeicloaa
section
set_option maxRecDepth 100000
set_option maxHeartbeats 16000000
namespace Go.Proofs.Ytndobgodeicloaa
open Go Go.Nm
theorem in_any (n a b : Int) (w : World)  : Ret Try.prog 84 #[I n, I a, I b] w fun v w' => v = B (inB n a b) /\ Ext w w' := by
 refine ret_of_W Try.func84 rfl rfl rfl ?_
 have E := Ext.refl w
 have K1 := KF.refl 0 w
 refine sQ rfl <| sA (B false) rfl <| s_nil <| sQ rfl <| sM (I n) rfl <| sM (I a) rfl <| sC _ _ (decide ((a : Int) <= n)) rfl rfl rfl <| sM (B (decide ((a : Int) <= n))) rfl <| g_val (decide ((a : Int) <= n)) (gy_t rfl) (fun hg => x_mv (v := I n) rfl) <| g_val (decide ((a : Int) <= n)) (gy_t rfl) (fun hg => x_mv (v := I b) rfl) ?_
 refine g_val (decide ((a : Int) <= n)) (gy_t rfl) (fun hg => x_cmp (kd := .i64) (r := decide ((n : Int) <= b)) (gd_of hg (I n)) (gd_of hg (I b)) rfl) <| s_val (x_pand (b := decide ((a : Int) <= n)) (r := decide ((n : Int) <= b)) rfl (fun hb => gd_of (c := decide ((a : Int) <= n)) (by simp_all) (B (decide ((n : Int) <= b)))) rfl) <| sA (B (((decide ((a : Int) <= n)) && (decide ((n : Int) <= b))))) rfl <| s_nil ?_
 refine W.ret ?_
 exact ⟨_, resE_tmp rfl, rfl, E⟩

theorem indexFunc_int {vl vf : Value} {l : List Int} {p : Int -> Bool} (w : World) (hl : Sl w.cell? vl l) (hf : FnB Try.prog w vf p (fun x => x ∈ l)) : Ret Try.prog 102 #[vl, vf] w fun v w' => v = I (idxP p l) /\ Ext w w' := by
 refine ret_of_W Try.func102 rfl rfl rfl ?_
 have E := Ext.refl w
 have K1 := KF.refl 0 w
 have ab := hl.len_le
 have hl := hl.par
 refine sQ rfl <| sA (I 0) rfl <| s_nil <| W.seq <| sQ rfl <| sM vl rfl <| s_val (x_lenS T34.und rfl (hl.to K1)) <| sM (I 0) rfl <| s_nil <| W.block ?_
 refine W.loop (fun m σ W => ∃ (k : Nat) (ρ : Env), σ = upds ρ [(0, vl), (1, vf), (7, I l.length), (8, I k)] /\ m = l.length - k /\ Ext w W /\ KF 0 w W /\ k <= l.length /\ (∀ y ∈ l.take k, p y = false)) ?_ ?_
 ·exact ⟨_, 0, _, upds_of _ _ ⟨rfl, rfl, rfl, (eqI (by omega)), trivial⟩, rfl, E, K1, Nat.zero_le _, (by simp)⟩
 rintro m σ w2 ⟨k, ρ, rfl, rfl, E, K1, ac, aa⟩
 refine sQ rfl <| sC _ _ (decide ((k : Int) < l.length)) rfl rfl rfl <| s_nil <| W.seq ?_
 refine W.cond (decide ((k : Int) < l.length)) rfl (fun c3 => ?_) (fun c3 => ?_)
 ·simp only [qz1, qz2, qz3, qz4, qz5, qz6, ne_eq, qz7] at c3
  refine W.skip <| W.seq <| W.block <| sQ rfl <| sM (I k) rfl <| sA (I k) rfl <| s_nil <| sQ rfl <| sM vf rfl <| sM vl rfl ?_
  refine sM (I k) rfl <| s_val (x_ix (v := vat vl 1 (Int.toNat k)) rfl rfl (Sl.ix (α := Int) T34.und T34.size (hl.to K1) (by omega) (by omega))) <| s_val (x_ld (v := I (l.getD k 0)) rfl (ld_sc Sc3 (At.to (Int_at hl (i := k) (by omega) (by omega)) K1))) ?_
  refine s_callB hf E rfl rfl (l.getD k 0) (getD_memN l (by omega) _) (Arg.mkI _ _) ?_
  intro w4 x5
  replace E := E.trans x5
  replace K1 := K1.ext x5
  clear x5
  refine s_nil ?_
  refine W.cond (p (l.getD k 0)) rfl (fun c6 => ?_) (fun c6 => ?_)
  ·skip
   refine sQ rfl <| sM (I k) rfl <| sA (I k) rfl <| s_nil ?_
   refine W.ret ?_
   exact ⟨_, resE_tmp rfl, (eqI (idx_yes c3 c6 aa)), E⟩
  skip
  refine W.skip <| W.region rfl <| sR _ _ (k + 1) rfl rfl rfl (by omega) <| sM (I (k + 1)) rfl <| s_nil ?_
  exact ⟨_, (by omega), k+1, _, upds_of _ _ ⟨rfl, rfl, rfl, (eqI (by omega)), trivial⟩, rfl, E, K1, (by omega), (idx_step c3 aa c6)⟩
 simp only [qz1, qz2, qz3, qz4, qz5, qz6, ne_eq, qz7] at c3
 refine W.exit ?_
 refine sQ rfl <| sA (I (-1)) rfl <| s_nil ?_
 refine W.ret ?_
 exact ⟨_, resE_tmp rfl, (eqI (idx_no c3 aa)), E⟩

theorem containsFunc_int {vl vf : Value} {l : List Int} {p : Int -> Bool} (w : World) (hl : Sl w.cell? vl l) (hf : FnB Try.prog w vf p (fun x => x ∈ l)) : Ret Try.prog 48 #[vl, vf] w fun v w' => v = B (l.any p) /\ Ext w w' := by
 refine ret_of_W Try.func48 rfl rfl rfl ?_
 have E := Ext.refl w
 have K1 := KF.refl 0 w
 have aa := hl.len_le
 have hl := hl.par
 refine sQ rfl <| sA (B false) rfl <| s_nil <| sQ rfl <| sM vl rfl <| sM vf rfl ?_
 refine s_call cf102 [vl, vf] rfl (indexFunc_int _ (hl.to K1) (hf.ext E)) ?_
 rintro _ w2 ⟨rfl, x3⟩
 replace E := E.trans x3
 replace K1 := K1.ext x3
 clear x3
 refine sC _ _ (decide ((0 : Int) <= (idxP p l))) rfl rfl rfl <| sA (B (decide ((0 : Int) <= (idxP p l)))) rfl <| s_nil ?_
 refine W.ret ?_
 exact ⟨_, resE_tmp rfl, (eqB (idxP_any _ _)), E⟩

theorem every1_int {b : Nat} {vf : Value} {p : Int -> Bool} {D : Int -> Prop} (x : Int) (w : World) (aa : w.heap[b]? = some (.cells #[vf] 75 (0, 0))) (hf : FnB Try.prog w vf p D) (hD : D x) : Ret Try.prog 143 #[I x, Pz b] w fun v w' => v = B (!(p x)) /\ Ext w w' := by
 refine ret_of_W Try.func143 rfl rfl rfl ?_
 have E := Ext.refl w
 have K1 := KF.refl 0 w
 refine sQ rfl <| sA (B false) rfl <| s_nil <| sQ rfl <| s_val (x_ld (v := vf) rfl (ldb_sc Sc75 aa rfl)) <| sM (I x) rfl ?_
 refine s_callB hf E rfl rfl x hD (Arg.mkI _ _) ?_
 intro w2 x3
 replace E := E.trans x3
 replace K1 := K1.ext x3
 replace aa := x3.get aa
 clear x3
 refine s_val (x_not (b := p x) rfl) <| sA (B (!(p x))) rfl <| s_nil ?_
 refine W.ret ?_
 exact ⟨_, resE_tmp rfl, rfl, E⟩

theorem every_int {vl vf : Value} {l : List Int} {p : Int -> Bool} (w : World) (hl : Sl w.cell? vl l) (hf : FnB Try.prog w vf p (fun x => x ∈ l)) : Ret Try.prog 87 #[vf, vl] w fun v w' => v = B (l.all p) /\ Ext w w' := by
 refine ret_of_W Try.func87 rfl rfl rfl ?_
 have E := Ext.refl w
 have K1 := KF.refl 0 w
 have ab := hl.len_le
 have hl := hl.par
 refine sQ rfl ?_
 refine s_box (v := vf) (cs := [vf]) rfl (FnB.cells hf) ?_
 intro b2 w3 Nb2
 have o_K1_b2 := Nat.le_trans K1.size Nb2.ge
 have o_b2 := Nat.le_trans E.size Nb2.ge
 replace E := E.trans Nb2.ext
 replace K1 := K1.ext Nb2.ext
 have aa := Nb2.same
 clear Nb2
 refine sA (B false) rfl <| s_nil <| sQ rfl <| sM vl rfl <| s_val (x_mf (fs := []) (cs := [Pz b2]) rfl rfl) ?_
 refine s_call cf48 [vl, .func (.func 143) #[] #[Pz b2]] rfl (containsFunc_int _ (hl.to K1) ⟨143, [Pz b2], rfl, cf143, fun w' v x hE hD hA => by obtain rfl := Arg.int hA; exact (every1_int _ _ (hE.get aa) ((hf.ext E).ext hE) hD)⟩) ?_
 rintro _ w4 ⟨rfl, x5⟩
 replace E := E.trans x5
 replace K1 := K1.ext x5
 replace aa := x5.get aa
 clear x5
 refine s_val (x_not (b := l.any (fun x => !(p x))) rfl) <| sA (B (!(l.any (fun x => !(p x))))) rfl <| s_nil ?_
 refine W.ret ?_
 exact ⟨_, resE_tmp rfl, (eqB (any_not _ _)), E⟩

theorem indexFunc_Note {vl vf : Value} {l : List Note} {p : Note -> Bool} (w : World) (hl : Sl w.cell? vl l) (hf : FnB Try.prog w vf p (fun x => x ∈ l)) : Ret Try.prog 179 #[vl, vf] w fun v w' => v = I (idxP p l) /\ Ext w w' := by
 refine ret_of_W Try.func179 rfl rfl rfl ?_
 have E := Ext.refl w
 have K1 := KF.refl 0 w
 have ab := hl.len_le
 have hl := hl.par
 refine sQ rfl <| sA (I 0) rfl <| s_nil <| W.seq <| sQ rfl <| sM vl rfl <| s_val (x_lenS T23.und rfl (hl.to K1)) <| sM (I 0) rfl <| s_nil <| W.block ?_
 refine W.loop (fun m σ W => ∃ (k : Nat) (ρ : Env), σ = upds ρ [(0, vl), (1, vf), (7, I l.length), (8, I k)] /\ m = l.length - k /\ Ext w W /\ KF 0 w W /\ k <= l.length /\ (∀ y ∈ l.take k, p y = false)) ?_ ?_
 ·exact ⟨_, 0, _, upds_of _ _ ⟨rfl, rfl, rfl, (eqI (by omega)), trivial⟩, rfl, E, K1, Nat.zero_le _, (by simp)⟩
 rintro m σ w2 ⟨k, ρ, rfl, rfl, E, K1, ac, aa⟩
 refine sQ rfl <| sC _ _ (decide ((k : Int) < l.length)) rfl rfl rfl <| s_nil <| W.seq ?_
 refine W.cond (decide ((k : Int) < l.length)) rfl (fun c3 => ?_) (fun c3 => ?_)
 ·simp only [qz1, qz2, qz3, qz4, qz5, qz6, ne_eq, qz7] at c3
  refine W.skip <| W.seq <| W.block <| sQ rfl <| sM (I k) rfl <| sA (I k) rfl <| s_nil <| sQ rfl <| sM vf rfl <| sM vl rfl ?_
  refine sM (I k) rfl <| s_val (x_ix (v := vat vl 3 (Int.toNat k)) rfl rfl (Sl.ix (α := Note) T23.und T23.size (hl.to K1) (by omega) (by omega))) <| s_val (x_ld (v := .agg #[I ((l.getD k default).work), I ((l.getD k default).version), I ((l.getD k default).value)]) rfl (ld_ag Ag30 Sz30 (At.to (Note_atA hl (i := k) (by omega) (by omega)) K1))) ?_
  refine s_callB hf E rfl rfl ((l.getD k default)) (getD_memN l (by omega) _) ⟨_, rfl, rfl⟩ ?_
  intro w4 x5
  replace E := E.trans x5
  replace K1 := K1.ext x5
  clear x5
  refine s_nil ?_
  refine W.cond (p ((l.getD k default))) rfl (fun c6 => ?_) (fun c6 => ?_)
  ·skip
   refine sQ rfl <| sM (I k) rfl <| sA (I k) rfl <| s_nil ?_
   refine W.ret ?_
   exact ⟨_, resE_tmp rfl, (eqI (idx_yes c3 c6 aa)), E⟩
  skip
  refine W.skip <| W.region rfl <| sR _ _ (k + 1) rfl rfl rfl (by omega) <| sM (I (k + 1)) rfl <| s_nil ?_
  exact ⟨_, (by omega), k+1, _, upds_of _ _ ⟨rfl, rfl, rfl, (eqI (by omega)), trivial⟩, rfl, E, K1, (by omega), (idx_step c3 aa c6)⟩
 simp only [qz1, qz2, qz3, qz4, qz5, qz6, ne_eq, qz7] at c3
 refine W.exit ?_
 refine sQ rfl <| sA (I (-1)) rfl <| s_nil ?_
 refine W.ret ?_
 exact ⟨_, resE_tmp rfl, (eqI (idx_no c3 aa)), E⟩

theorem containsFunc_Note {vl vf : Value} {l : List Note} {p : Note -> Bool} (w : World) (hl : Sl w.cell? vl l) (hf : FnB Try.prog w vf p (fun x => x ∈ l)) : Ret Try.prog 140 #[vl, vf] w fun v w' => v = B (l.any p) /\ Ext w w' := by
 refine ret_of_W Try.func140 rfl rfl rfl ?_
 have E := Ext.refl w
 have K1 := KF.refl 0 w
 have aa := hl.len_le
 have hl := hl.par
 refine sQ rfl <| sA (B false) rfl <| s_nil <| sQ rfl <| sM vl rfl <| sM vf rfl ?_
 refine s_call cf179 [vl, vf] rfl (indexFunc_Note _ (hl.to K1) (hf.ext E)) ?_
 rintro _ w2 ⟨rfl, x3⟩
 replace E := E.trans x3
 replace K1 := K1.ext x3
 clear x3
 refine sC _ _ (decide ((0 : Int) <= (idxP p l))) rfl rfl rfl <| sA (B (decide ((0 : Int) <= (idxP p l)))) rfl <| s_nil ?_
 refine W.ret ?_
 exact ⟨_, resE_tmp rfl, (eqB (idxP_any _ _)), E⟩

theorem every1_Note {b : Nat} {vf : Value} {p : Note -> Bool} {D : Note -> Prop} (x : Note) (w : World) (aa : w.heap[b]? = some (.cells #[vf] 132 (0, 0))) (hf : FnB Try.prog w vf p D) (hD : D x) : Ret Try.prog 141 #[.agg #[I x.work, I x.version, I x.value], Pz b] w fun v w' => v = B (!(p x)) /\ Ext w w' := by
 refine ret_of_W Try.func141 rfl rfl rfl ?_
 have E := Ext.refl w
 have K1 := KF.refl 0 w
 refine sQ rfl ?_
 refine s_box (v := .agg #[I x.work, I x.version, I x.value]) (cs := [I x.work, I x.version, I x.value]) rfl rfl ?_
 intro b2 w3 Nb2
 have o_K1_b2 := Nat.le_trans K1.size Nb2.ge
 have o_b2 := Nat.le_trans E.size Nb2.ge
 have o_b_b2 := Nat.lt_of_lt_of_le (heap_lt aa) Nb2.ge
 replace E := E.trans Nb2.ext
 replace K1 := K1.ext Nb2.ext
 replace aa := Nb2.ext.get aa
 have ab := Nb2.same
 clear Nb2
 refine sA (B false) rfl <| s_nil <| sQ rfl <| s_val (x_ld (v := vf) rfl (ldb_sc Sc132 aa rfl)) <| s_val (x_ld (v := .agg #[I x.work, I x.version, I x.value]) rfl (ldb_ag (ds := [I x.work, I x.version, I x.value]) Ag30 Sz30 ab rfl rfl)) ?_
 refine s_callB hf E rfl rfl x hD ⟨_, rfl, rfl⟩ ?_
 intro w4 x5
 replace E := E.trans x5
 replace K1 := K1.ext x5
 replace aa := x5.get aa
 replace ab := x5.get ab
 clear x5
 refine s_val (x_not (b := p x) rfl) <| sA (B (!(p x))) rfl <| s_nil ?_
 refine W.ret ?_
 exact ⟨_, resE_tmp rfl, rfl, E⟩

theorem every_Note {vl vf : Value} {l : List Note} {p : Note -> Bool} (w : World) (hl : Sl w.cell? vl l) (hf : FnB Try.prog w vf p (fun x => x ∈ l)) : Ret Try.prog 82 #[vf, vl] w fun v w' => v = B (l.all p) /\ Ext w w' := by
 refine ret_of_W Try.func82 rfl rfl rfl ?_
 have E := Ext.refl w
 have K1 := KF.refl 0 w
 have ab := hl.len_le
 have hl := hl.par
 refine sQ rfl ?_
 refine s_box (v := vf) (cs := [vf]) rfl (FnB.cells hf) ?_
 intro b2 w3 Nb2
 have o_K1_b2 := Nat.le_trans K1.size Nb2.ge
 have o_b2 := Nat.le_trans E.size Nb2.ge
 replace E := E.trans Nb2.ext
 replace K1 := K1.ext Nb2.ext
 have aa := Nb2.same
 clear Nb2
 refine sA (B false) rfl <| s_nil <| sQ rfl <| sM vl rfl <| s_val (x_mf (fs := []) (cs := [Pz b2]) rfl rfl) ?_
 refine s_call cf140 [vl, .func (.func 141) #[] #[Pz b2]] rfl (containsFunc_Note _ (hl.to K1) ⟨141, [Pz b2], rfl, cf141, fun w' v x hE hD hA => by obtain rfl := Note_arg hA; exact (every1_Note _ _ (hE.get aa) ((hf.ext E).ext hE) hD)⟩) ?_
 rintro _ w4 ⟨rfl, x5⟩
 replace E := E.trans x5
 replace K1 := K1.ext x5
 replace aa := x5.get aa
 clear x5
 refine s_val (x_not (b := l.any (fun x => !(p x))) rfl) <| sA (B (!(l.any (fun x => !(p x))))) rfl <| s_nil ?_
 refine W.ret ?_
 exact ⟨_, resE_tmp rfl, (eqB (any_not _ _)), E⟩

theorem indexFunc_Pub {vl vf : Value} {l : List Pub} {p : Pub -> Bool} (w : World) (hl : Sl w.cell? vl l) (hf : FnB Try.prog w vf p (fun x => x ∈ l)) : Ret Try.prog 182 #[vl, vf] w fun v w' => v = I (idxP p l) /\ Ext w w' := by
 refine ret_of_W Try.func182 rfl rfl rfl ?_
 have E := Ext.refl w
 have K1 := KF.refl 0 w
 have ab := hl.len_le
 have hl := hl.par
 refine sQ rfl <| sA (I 0) rfl <| s_nil <| W.seq <| sQ rfl <| sM vl rfl <| s_val (x_lenS T24.und rfl (hl.to K1)) <| sM (I 0) rfl <| s_nil <| W.block ?_
 refine W.loop (fun m σ W => ∃ (k : Nat) (ρ : Env), σ = upds ρ [(0, vl), (1, vf), (7, I l.length), (8, I k)] /\ m = l.length - k /\ Ext w W /\ KF 0 w W /\ k <= l.length /\ (∀ y ∈ l.take k, p y = false)) ?_ ?_
 ·exact ⟨_, 0, _, upds_of _ _ ⟨rfl, rfl, rfl, (eqI (by omega)), trivial⟩, rfl, E, K1, Nat.zero_le _, (by simp)⟩
 rintro m σ w2 ⟨k, ρ, rfl, rfl, E, K1, ac, aa⟩
 refine sQ rfl <| sC _ _ (decide ((k : Int) < l.length)) rfl rfl rfl <| s_nil <| W.seq ?_
 refine W.cond (decide ((k : Int) < l.length)) rfl (fun c3 => ?_) (fun c3 => ?_)
 ·simp only [qz1, qz2, qz3, qz4, qz5, qz6, ne_eq, qz7] at c3
  refine W.skip <| W.seq <| W.block <| sQ rfl <| sM (I k) rfl <| sA (I k) rfl <| s_nil <| sQ rfl <| sM vf rfl <| sM vl rfl ?_
  refine sM (I k) rfl <| s_val (x_ix (v := vat vl 2 (Int.toNat k)) rfl rfl (Sl.ix (α := Pub) T24.und T24.size (hl.to K1) (by omega) (by omega))) <| s_val (x_ld (v := .agg #[I ((l.getD k default).work), I ((l.getD k default).value)]) rfl (ld_ag Ag33 Sz33 (At.to (Pub_atA hl (i := k) (by omega) (by omega)) K1))) ?_
  refine s_callB hf E rfl rfl ((l.getD k default)) (getD_memN l (by omega) _) ⟨_, rfl, rfl⟩ ?_
  intro w4 x5
  replace E := E.trans x5
  replace K1 := K1.ext x5
  clear x5
  refine s_nil ?_
  refine W.cond (p ((l.getD k default))) rfl (fun c6 => ?_) (fun c6 => ?_)
  ·skip
   refine sQ rfl <| sM (I k) rfl <| sA (I k) rfl <| s_nil ?_
   refine W.ret ?_
   exact ⟨_, resE_tmp rfl, (eqI (idx_yes c3 c6 aa)), E⟩
  skip
  refine W.skip <| W.region rfl <| sR _ _ (k + 1) rfl rfl rfl (by omega) <| sM (I (k + 1)) rfl <| s_nil ?_
  exact ⟨_, (by omega), k+1, _, upds_of _ _ ⟨rfl, rfl, rfl, (eqI (by omega)), trivial⟩, rfl, E, K1, (by omega), (idx_step c3 aa c6)⟩
 simp only [qz1, qz2, qz3, qz4, qz5, qz6, ne_eq, qz7] at c3
 refine W.exit ?_
 refine sQ rfl <| sA (I (-1)) rfl <| s_nil ?_
 refine W.ret ?_
 exact ⟨_, resE_tmp rfl, (eqI (idx_no c3 aa)), E⟩

theorem containsFunc_Pub {vl vf : Value} {l : List Pub} {p : Pub -> Bool} (w : World) (hl : Sl w.cell? vl l) (hf : FnB Try.prog w vf p (fun x => x ∈ l)) : Ret Try.prog 144 #[vl, vf] w fun v w' => v = B (l.any p) /\ Ext w w' := by
 refine ret_of_W Try.func144 rfl rfl rfl ?_
 have E := Ext.refl w
 have K1 := KF.refl 0 w
 have aa := hl.len_le
 have hl := hl.par
 refine sQ rfl <| sA (B false) rfl <| s_nil <| sQ rfl <| sM vl rfl <| sM vf rfl ?_
 refine s_call cf182 [vl, vf] rfl (indexFunc_Pub _ (hl.to K1) (hf.ext E)) ?_
 rintro _ w2 ⟨rfl, x3⟩
 replace E := E.trans x3
 replace K1 := K1.ext x3
 clear x3
 refine sC _ _ (decide ((0 : Int) <= (idxP p l))) rfl rfl rfl <| sA (B (decide ((0 : Int) <= (idxP p l)))) rfl <| s_nil ?_
 refine W.ret ?_
 exact ⟨_, resE_tmp rfl, (eqB (idxP_any _ _)), E⟩

theorem every1_Pub {b : Nat} {vf : Value} {p : Pub -> Bool} {D : Pub -> Prop} (x : Pub) (w : World) (aa : w.heap[b]? = some (.cells #[vf] 140 (0, 0))) (hf : FnB Try.prog w vf p D) (hD : D x) : Ret Try.prog 145 #[.agg #[I x.work, I x.value], Pz b] w fun v w' => v = B (!(p x)) /\ Ext w w' := by
 refine ret_of_W Try.func145 rfl rfl rfl ?_
 have E := Ext.refl w
 have K1 := KF.refl 0 w
 refine sQ rfl ?_
 refine s_box (v := .agg #[I x.work, I x.value]) (cs := [I x.work, I x.value]) rfl rfl ?_
 intro b2 w3 Nb2
 have o_K1_b2 := Nat.le_trans K1.size Nb2.ge
 have o_b2 := Nat.le_trans E.size Nb2.ge
 have o_b_b2 := Nat.lt_of_lt_of_le (heap_lt aa) Nb2.ge
 replace E := E.trans Nb2.ext
 replace K1 := K1.ext Nb2.ext
 replace aa := Nb2.ext.get aa
 have ab := Nb2.same
 clear Nb2
 refine sA (B false) rfl <| s_nil <| sQ rfl <| s_val (x_ld (v := vf) rfl (ldb_sc Sc140 aa rfl)) <| s_val (x_ld (v := .agg #[I x.work, I x.value]) rfl (ldb_ag (ds := [I x.work, I x.value]) Ag33 Sz33 ab rfl rfl)) ?_
 refine s_callB hf E rfl rfl x hD ⟨_, rfl, rfl⟩ ?_
 intro w4 x5
 replace E := E.trans x5
 replace K1 := K1.ext x5
 replace aa := x5.get aa
 replace ab := x5.get ab
 clear x5
 refine s_val (x_not (b := p x) rfl) <| sA (B (!(p x))) rfl <| s_nil ?_
 refine W.ret ?_
 exact ⟨_, resE_tmp rfl, rfl, E⟩

theorem every_Pub {vl vf : Value} {l : List Pub} {p : Pub -> Bool} (w : World) (hl : Sl w.cell? vl l) (hf : FnB Try.prog w vf p (fun x => x ∈ l)) : Ret Try.prog 90 #[vf, vl] w fun v w' => v = B (l.all p) /\ Ext w w' := by
 refine ret_of_W Try.func90 rfl rfl rfl ?_
 have E := Ext.refl w
 have K1 := KF.refl 0 w
 have ab := hl.len_le
 have hl := hl.par
 refine sQ rfl ?_
 refine s_box (v := vf) (cs := [vf]) rfl (FnB.cells hf) ?_
 intro b2 w3 Nb2
 have o_K1_b2 := Nat.le_trans K1.size Nb2.ge
 have o_b2 := Nat.le_trans E.size Nb2.ge
 replace E := E.trans Nb2.ext
 replace K1 := K1.ext Nb2.ext
 have aa := Nb2.same
 clear Nb2
 refine sA (B false) rfl <| s_nil <| sQ rfl <| sM vl rfl <| s_val (x_mf (fs := []) (cs := [Pz b2]) rfl rfl) ?_
 refine s_call cf144 [vl, .func (.func 145) #[] #[Pz b2]] rfl (containsFunc_Pub _ (hl.to K1) ⟨145, [Pz b2], rfl, cf145, fun w' v x hE hD hA => by obtain rfl := Pub_arg hA; exact (every1_Pub _ _ (hE.get aa) ((hf.ext E).ext hE) hD)⟩) ?_
 rintro _ w4 ⟨rfl, x5⟩
 replace E := E.trans x5
 replace K1 := K1.ext x5
 replace aa := x5.get aa
 clear x5
 refine s_val (x_not (b := l.any (fun x => !(p x))) rfl) <| sA (B (!(l.any (fun x => !(p x))))) rfl <| s_nil ?_
 refine W.ret ?_
 exact ⟨_, resE_tmp rfl, (eqB (any_not _ _)), E⟩

theorem indexFunc_Work {vl vf : Value} {l : List Work} {p : Work -> Bool} (w : World) (hl : Sl w.cell? vl l) (hf : FnB Try.prog w vf p (fun x => x ∈ l)) : Ret Try.prog 200 #[vl, vf] w fun v w' => v = I (idxP p l) /\ Ext w w' := by
 refine ret_of_W Try.func200 rfl rfl rfl ?_
 have E := Ext.refl w
 have K1 := KF.refl 0 w
 have ac := hl.len_le
 have hl := hl.par
 refine sQ rfl <| sA (I 0) rfl <| s_nil <| W.seq <| sQ rfl <| sM vl rfl <| s_val (x_lenS T22.und rfl (hl.to K1)) <| sM (I 0) rfl <| s_nil <| W.block ?_
 refine W.loop (fun m σ W => ∃ (k : Nat) (ρ : Env), σ = upds ρ [(0, vl), (1, vf), (7, I l.length), (8, I k)] /\ m = l.length - k /\ Ext w W /\ KF 0 w W /\ k <= l.length /\ (∀ y ∈ l.take k, p y = false)) ?_ ?_
 ·exact ⟨_, 0, _, upds_of _ _ ⟨rfl, rfl, rfl, (eqI (by omega)), trivial⟩, rfl, E, K1, Nat.zero_le _, (by simp)⟩
 rintro m σ w2 ⟨k, ρ, rfl, rfl, E, K1, ae, ab⟩
 refine sQ rfl <| sC _ _ (decide ((k : Int) < l.length)) rfl rfl rfl <| s_nil <| W.seq ?_
 refine W.cond (decide ((k : Int) < l.length)) rfl (fun c3 => ?_) (fun c3 => ?_)
 ·simp only [qz1, qz2, qz3, qz4, qz5, qz6, ne_eq, qz7] at c3
  refine W.skip <| W.seq <| W.block <| sQ rfl <| sM (I k) rfl <| sA (I k) rfl <| s_nil <| sQ rfl <| sM vf rfl <| sM vl rfl ?_
  refine sM (I k) rfl <| s_val (x_ix (v := vat vl 3 (Int.toNat k)) rfl rfl (Sl.ix (α := Work) T22.und T22.size (hl.to K1) (by omega) (by omega))) ?_
  obtain ⟨u4, ha6, aa⟩ := Work_atA hl (i := k) (by omega) (by omega)
  replace aa : Sl _ u4 (l.getD k default).of := aa
  have ag := aa.len_le
  refine s_val (x_ld (v := .agg #[u4, I ((l.getD k default).base), I ((l.getD k default).minutes)]) rfl (ld_ag Ag60 Sz60 (At.to ha6 K1))) ?_
  refine s_callB hf E rfl rfl ((l.getD k default)) (getD_memN l (by omega) _) ⟨_, Work_mk (aa.to K1), rfl⟩ ?_
  intro w7 x8
  replace E := E.trans x8
  replace K1 := K1.ext x8
  clear x8
  refine s_nil ?_
  refine W.cond (p ((l.getD k default))) rfl (fun c9 => ?_) (fun c9 => ?_)
  ·skip
   refine sQ rfl <| sM (I k) rfl <| sA (I k) rfl <| s_nil ?_
   refine W.ret ?_
   exact ⟨_, resE_tmp rfl, (eqI (idx_yes c3 c9 ab)), E⟩
  skip
  refine W.skip <| W.region rfl <| sR _ _ (k + 1) rfl rfl rfl (by omega) <| sM (I (k + 1)) rfl <| s_nil ?_
  exact ⟨_, (by omega), k+1, _, upds_of _ _ ⟨rfl, rfl, rfl, (eqI (by omega)), trivial⟩, rfl, E, K1, (by omega), (idx_step c3 ab c9)⟩
 simp only [qz1, qz2, qz3, qz4, qz5, qz6, ne_eq, qz7] at c3
 refine W.exit ?_
 refine sQ rfl <| sA (I (-1)) rfl <| s_nil ?_
 refine W.ret ?_
 exact ⟨_, resE_tmp rfl, (eqI (idx_no c3 ab)), E⟩

theorem containsFunc_Work {vl vf : Value} {l : List Work} {p : Work -> Bool} (w : World) (hl : Sl w.cell? vl l) (hf : FnB Try.prog w vf p (fun x => x ∈ l)) : Ret Try.prog 186 #[vl, vf] w fun v w' => v = B (l.any p) /\ Ext w w' := by
 refine ret_of_W Try.func186 rfl rfl rfl ?_
 have E := Ext.refl w
 have K1 := KF.refl 0 w
 have aa := hl.len_le
 have hl := hl.par
 refine sQ rfl <| sA (B false) rfl <| s_nil <| sQ rfl <| sM vl rfl <| sM vf rfl ?_
 refine s_call cf200 [vl, vf] rfl (indexFunc_Work _ (hl.to K1) (hf.ext E)) ?_
 rintro _ w2 ⟨rfl, x3⟩
 replace E := E.trans x3
 replace K1 := K1.ext x3
 clear x3
 refine sC _ _ (decide ((0 : Int) <= (idxP p l))) rfl rfl rfl <| sA (B (decide ((0 : Int) <= (idxP p l)))) rfl <| s_nil ?_
 refine W.ret ?_
 exact ⟨_, resE_tmp rfl, (eqB (idxP_any _ _)), E⟩

theorem every1_Work {b : Nat} {vf : Value} {p : Work -> Bool} {D : Work -> Prop} {sv : Value} (x : Work) (w : World) (aa : w.heap[b]? = some (.cells #[vf] 218 (0, 0))) (hf : FnB Try.prog w vf p D) (hs : Sl w.cell? sv x.of) (hD : D x) : Ret Try.prog 187 #[.agg #[sv, I x.base, I x.minutes], Pz b] w fun v w' => v = B (!(p x)) /\ Ext w w' := by
 refine ret_of_W Try.func187 rfl rfl rfl ?_
 have E := Ext.refl w
 have K1 := KF.refl 0 w
 have ac := hs.len_le
 have hs := hs.par
 refine sQ rfl ?_
 refine s_box (v := .agg #[sv, I x.base, I x.minutes]) (cs := [sv, I x.base, I x.minutes]) rfl rfl ?_
 intro b2 w3 Nb2
 have o_K1_b2 := Nat.le_trans K1.size Nb2.ge
 have o_b2 := Nat.le_trans E.size Nb2.ge
 have o_b_b2 := Nat.lt_of_lt_of_le (heap_lt aa) Nb2.ge
 replace E := E.trans Nb2.ext
 replace K1 := K1.ext Nb2.ext
 replace aa := Nb2.ext.get aa
 have ab := Nb2.same
 clear Nb2
 refine sA (B false) rfl <| s_nil <| sQ rfl <| s_val (x_ld (v := vf) rfl (ldb_sc Sc218 aa rfl)) <| s_val (x_ld (v := .agg #[sv, I x.base, I x.minutes]) rfl (ldb_ag (ds := [sv, I x.base, I x.minutes]) Ag60 Sz60 ab rfl rfl)) ?_
 refine s_callB hf E rfl rfl x hD ⟨_, Work_mk (hs.to K1), rfl⟩ ?_
 intro w4 x5
 replace E := E.trans x5
 replace K1 := K1.ext x5
 replace aa := x5.get aa
 replace ab := x5.get ab
 clear x5
 refine s_val (x_not (b := p x) rfl) <| sA (B (!(p x))) rfl <| s_nil ?_
 refine W.ret ?_
 exact ⟨_, resE_tmp rfl, rfl, E⟩

theorem every_Work {vl vf : Value} {l : List Work} {p : Work -> Bool} (w : World) (hl : Sl w.cell? vl l) (hf : FnB Try.prog w vf p (fun x => x ∈ l)) : Ret Try.prog 161 #[vf, vl] w fun v w' => v = B (l.all p) /\ Ext w w' := by
 refine ret_of_W Try.func161 rfl rfl rfl ?_
 have E := Ext.refl w
 have K1 := KF.refl 0 w
 have ab := hl.len_le
 have hl := hl.par
 refine sQ rfl ?_
 refine s_box (v := vf) (cs := [vf]) rfl (FnB.cells hf) ?_
 intro b2 w3 Nb2
 have o_K1_b2 := Nat.le_trans K1.size Nb2.ge
 have o_b2 := Nat.le_trans E.size Nb2.ge
 replace E := E.trans Nb2.ext
 replace K1 := K1.ext Nb2.ext
 have aa := Nb2.same
 clear Nb2
 refine sA (B false) rfl <| s_nil <| sQ rfl <| sM vl rfl <| s_val (x_mf (fs := []) (cs := [Pz b2]) rfl rfl) ?_
 refine s_call cf186 [vl, .func (.func 187) #[] #[Pz b2]] rfl (containsFunc_Work _ (hl.to K1) ⟨187, [Pz b2], rfl, cf187, fun w' v x hE hD hA => by obtain ⟨sv, rfl, hs⟩ := Work_arg hA; exact (every1_Work _ _ (hE.get aa) ((hf.ext E).ext hE) hs hD)⟩) ?_
 rintro _ w4 ⟨rfl, x5⟩
 replace E := E.trans x5
 replace K1 := K1.ext x5
 replace aa := x5.get aa
 clear x5
 refine s_val (x_not (b := l.any (fun x => !(p x))) rfl) <| sA (B (!(l.any (fun x => !(p x))))) rfl <| s_nil ?_
 refine W.ret ?_
 exact ⟨_, resE_tmp rfl, (eqB (any_not _ _)), E⟩

end Go.Proofs.Ytndobgodeicloaa
end
section
set_option maxRecDepth 100000
set_option maxHeartbeats 16000000
namespace Go.Proofs.Ytndobgodeicloaa
open Go Go.Nm
theorem index_int {vl : Value} {l : List Int} (n : Int) (w : World) (hl : Sl w.cell? vl l) : Ret Try.prog 100 #[vl, I n] w fun v w' => v = I (idxI l n) /\ Ext w w' := by
 refine ret_of_W Try.func100 rfl rfl rfl ?_
 have E := Ext.refl w
 have K1 := KF.refl 0 w
 have ab := hl.len_le
 have hl := hl.par
 refine sQ rfl <| sA (I 0) rfl <| s_nil <| W.seq <| sQ rfl <| sM vl rfl <| s_val (x_lenS T34.und rfl (hl.to K1)) <| sM (I 0) rfl <| s_nil <| W.block ?_
 refine W.loop (fun m σ W => ∃ (k : Nat) (ρ : Env), σ = upds ρ [(0, vl), (1, I n), (7, I l.length), (8, I k)] /\ m = l.length - k /\ Ext w W /\ KF 0 w W /\ k <= l.length /\ (∀ y ∈ l.take k, (fun x : Int => n == x) y = false)) ?_ ?_
 ·exact ⟨_, 0, _, upds_of _ _ ⟨rfl, rfl, rfl, (eqI (by omega)), trivial⟩, rfl, E, K1, Nat.zero_le _, (by simp)⟩
 rintro m σ w2 ⟨k, ρ, rfl, rfl, E, K1, ac, aa⟩
 refine sQ rfl <| sC _ _ (decide ((k : Int) < l.length)) rfl rfl rfl <| s_nil <| W.seq ?_
 refine W.cond (decide ((k : Int) < l.length)) rfl (fun c3 => ?_) (fun c3 => ?_)
 ·simp only [qz1, qz2, qz3, qz4, qz5, qz6, ne_eq, qz7] at c3
  refine W.skip <| W.seq <| W.block <| sQ rfl <| sM (I k) rfl <| sA (I k) rfl <| s_nil <| sQ rfl <| sM (I n) rfl <| sM vl rfl ?_
  refine sM (I k) rfl <| s_val (x_ix (v := vat vl 1 (Int.toNat k)) rfl rfl (Sl.ix (α := Int) T34.und T34.size (hl.to K1) (by omega) (by omega))) <| s_val (x_ld (v := I (l.getD k 0)) rfl (ld_sc Sc3 (At.to (Int_at hl (i := k) (by omega) (by omega)) K1))) <| sC _ _ ((n : Int) == (l.getD k 0)) rfl rfl rfl <| s_nil ?_
  refine W.cond ((n : Int) == (l.getD k 0)) rfl (fun c4 => ?_) (fun c4 => ?_)
  ·simp only [qz1, qz2, qz3, qz4, qz5, qz6, ne_eq, qz7] at c4
   refine sQ rfl <| sM (I k) rfl <| sA (I k) rfl <| s_nil ?_
   refine W.ret ?_
   exact ⟨_, resE_tmp rfl, (eqI (idx_yes (p := fun x : Int => n == x) (d := 0) c3 (by simpa using c4) aa)), E⟩
  simp only [qz1, qz2, qz3, qz4, qz5, qz6, ne_eq, qz7] at c4
  refine W.skip <| W.region rfl <| sR _ _ (k + 1) rfl rfl rfl (by omega) <| sM (I (k + 1)) rfl <| s_nil ?_
  exact ⟨_, (by omega), k+1, _, upds_of _ _ ⟨rfl, rfl, rfl, (eqI (by omega)), trivial⟩, rfl, E, K1, (by omega), (idx_step (p := fun x : Int => n == x) (d := 0) c3 aa (by simpa using c4))⟩
 simp only [qz1, qz2, qz3, qz4, qz5, qz6, ne_eq, qz7] at c3
 refine W.exit ?_
 refine sQ rfl <| sA (I (-1)) rfl <| s_nil ?_
 refine W.ret ?_
 exact ⟨_, resE_tmp rfl, (eqI (idx_no (p := fun x : Int => n == x) c3 aa)), E⟩

theorem contains_int {vl : Value} {l : List Int} (n : Int) (w : World) (hl : Sl w.cell? vl l) : Ret Try.prog 45 #[vl, I n] w fun v w' => v = B (l.contains n) /\ Ext w w' := by
 refine ret_of_W Try.func45 rfl rfl rfl ?_
 have E := Ext.refl w
 have K1 := KF.refl 0 w
 have aa := hl.len_le
 have hl := hl.par
 refine sQ rfl <| sA (B false) rfl <| s_nil <| sQ rfl <| sM vl rfl <| sM (I n) rfl ?_
 refine s_call cf100 [vl, I n] rfl (index_int n _ (hl.to K1)) ?_
 rintro _ w2 ⟨rfl, x3⟩
 replace E := E.trans x3
 replace K1 := K1.ext x3
 clear x3
 refine sC _ _ (decide ((0 : Int) <= (idxI l n))) rfl rfl rfl <| sA (B (decide ((0 : Int) <= (idxI l n)))) rfl <| s_nil ?_
 refine W.ret ?_
 exact ⟨_, resE_tmp rfl, (eqB (idxI_any _ _)), E⟩

theorem right1 {sv : Value} (x : Work) (w : World) (hs : Sl w.cell? sv x.of) : Ret Try.prog 162 #[.agg #[sv, I x.base, I x.minutes]] w fun v w' => v = B (decide ((x.of.length : Int) <= 5)) /\ Ext w w' := by
 refine ret_of_W Try.func162 rfl rfl rfl ?_
 have E := Ext.refl w
 have K1 := KF.refl 0 w
 have ab := hs.len_le
 have hs := hs.par
 refine sQ rfl ?_
 refine s_box (v := .agg #[sv, I x.base, I x.minutes]) (cs := [sv, I x.base, I x.minutes]) rfl rfl ?_
 intro b2 w3 Nb2
 have o_K1_b2 := Nat.le_trans K1.size Nb2.ge
 have o_b2 := Nat.le_trans E.size Nb2.ge
 replace E := E.trans Nb2.ext
 replace K1 := K1.ext Nb2.ext
 have aa := Nb2.same
 clear Nb2
 refine sA (B false) rfl <| s_nil <| sQ rfl <| s_val (x_fa (v := Pz b2) rfl (fa_blk (o := 0) Fd60_0 Sz34)) <| s_val (x_ld (v := sv) rfl (ldb_sc Sc34 aa rfl)) <| s_val (x_lenS T34.und rfl (hs.to K1)) <| sC _ _ (decide ((x.of.length : Int) <= 5)) rfl rfl rfl <| sA (B (decide ((x.of.length : Int) <= 5))) rfl <| s_nil ?_
 refine W.ret ?_
 exact ⟨_, resE_tmp rfl, rfl, E⟩

theorem right2 {b1 b2 : Nat} {vw : Value} {ws : List Work} (i x : Int) (w : World) (aa : w.heap[b1]? = some (.cells #[vw] 22 (0, 0))) (ab : w.heap[b2]? = some (.cells #[I i] 3 (0, 0))) (hw : Sl w.cell? vw ws) : Ret Try.prog 163 #[I x, Pz b1, Pz b2] w fun v w' => v = B (inB x 0 ((ws.length : Int) - 1) && (x != i)) /\ Ext w w' := by
 refine ret_of_W Try.func163 rfl rfl rfl ?_
 have E := Ext.refl w
 have K1 := KF.refl 0 w
 have ac := hw.len_le
 have hw := hw.par
 refine sQ rfl <| sA (B false) rfl <| s_nil <| sQ rfl <| sM (I x) rfl <| s_val (x_ld (v := vw) rfl (ldb_sc Sc22 aa rfl)) <| s_val (x_lenS T22.und rfl (hw.to K1)) <| sR _ _ (ws.length - 1) rfl rfl rfl (by omega) ?_
 refine s_call cf84 [I x, I 0, I (ws.length - 1)] rfl (in_any _ _ _ _) ?_
 rintro _ w2 ⟨rfl, x3⟩
 replace E := E.trans x3
 replace K1 := K1.ext x3
 replace aa := x3.get aa
 replace ab := x3.get ab
 clear x3
 refine sM (B (inB x 0 (ws.length - 1))) rfl <| g_val (inB x 0 (ws.length - 1)) (gy_t rfl) (fun hg => x_mv (v := I x) rfl) <| g_val (inB x 0 (ws.length - 1)) (gy_t rfl) (fun hg => x_ld (v := I i) rfl (ldb_sc Sc3 ab rfl)) <| g_val (inB x 0 (ws.length - 1)) (gy_t rfl) (fun hg => x_cmp (kd := .i64) (r := (x : Int) != i) (gd_of hg (I x)) (gd_of hg (I i)) rfl) <| s_val (x_pand (b := inB x 0 (ws.length - 1)) (r := (x : Int) != i) rfl (fun hb => gd_of (c := inB x 0 (ws.length - 1)) (by simp_all) (B ((x : Int) != i))) rfl) <| sA (B (((inB x 0 (ws.length - 1)) && ((x : Int) != i)))) rfl <| s_nil ?_
 refine W.ret ?_
 exact ⟨_, resE_tmp rfl, rfl, E⟩

theorem right_any {vw : Value} {ws : List Work} (w : World) (hw : Sl w.cell? vw ws) : Ret Try.prog 130 #[vw] w fun v w' => v = I (rightE ws) /\ Ext w w' := by
 refine ret_of_W Try.func130 rfl rfl rfl ?_
 have E := Ext.refl w
 have K1 := KF.refl 0 w
 have aD := hw.len_le
 have hw := hw.par
 refine sQ rfl ?_
 refine s_box (v := vw) (cs := [vw]) rfl (Sl.cells (hw.to K1)) ?_
 intro b2 w3 Nb2
 have o_K1_b2 := Nat.le_trans K1.size Nb2.ge
 have o_b2 := Nat.le_trans E.size Nb2.ge
 replace E := E.trans Nb2.ext
 replace K1 := K1.ext Nb2.ext
 have aa := Nb2.same
 clear Nb2
 refine sA (I 0) rfl <| s_nil <| W.seq <| sQ rfl <| s_val (x_ld (v := vw) rfl (ldb_sc Sc22 aa rfl)) <| s_val (x_lenS T22.und rfl (hw.to K1)) ?_
 refine s_call cf84 [I ws.length, I 1, I 30] rfl (in_any _ _ _ _) ?_
 rintro _ w4 ⟨rfl, x5⟩
 replace E := E.trans x5
 replace K1 := K1.ext x5
 replace aa := x5.get aa
 clear x5
 refine s_val (x_not (b := inB ws.length 1 30) rfl) <| sM (B (!(inB ws.length 1 30))) rfl <| g_val (!(!(inB ws.length 1 30))) (gy_f rfl) (fun hg => x_ld (v := vw) rfl (ldb_sc Sc22 aa rfl)) ?_
 refine g_call (!(!(inB ws.length 1 30))) (gy_f rfl) cf161 (B (ws.all (fun x : Work => decide ((x.of.length : Int) <= 5)))) (fun _ => [.func (.func 162) #[] #[], vw]) (fun hg => lst2 rfl (gd_of hg (vw))) (fun hg => (every_Work _ (hw.to K1) ⟨162, [], rfl, cf162, fun w' v x hE hD hA => by obtain ⟨sv, rfl, hs⟩ := Work_arg hA; exact (right1 _ _ hs)⟩)) ?_
 intro w6 x7
 replace E := E.trans x7
 replace K1 := K1.ext x7
 replace aa := x7.get aa
 clear x7
 refine g_val (!(!(inB ws.length 1 30))) (gy_f rfl) (fun hg => x_not (b := ws.all (fun x : Work => decide ((x.of.length : Int) <= 5))) (gd_of hg (B (ws.all (fun x : Work => decide ((x.of.length : Int) <= 5)))))) <| s_val (x_por (b := !(inB ws.length 1 30)) (r := !(ws.all (fun x : Work => decide ((x.of.length : Int) <= 5)))) rfl rfl (fun hb => gd_of (c := !(!(inB ws.length 1 30))) (by simp_all) (B (!(ws.all (fun x : Work => decide ((x.of.length : Int) <= 5))))))) <| s_nil ?_
 refine W.cond (((!(inB ws.length 1 30)) || (!(ws.all (fun x : Work => decide ((x.of.length : Int) <= 5)))))) rfl (fun c8 => ?_) (fun c8 => ?_)
 ·skip
  refine sQ rfl <| sA (I 3) rfl <| s_nil ?_
  refine W.ret ?_
  exact ⟨_, resE_tmp rfl, (eqI (right_many c8)), E⟩
 skip
 refine W.skip <| sQ rfl <| sA (B false) rfl <| s_nil <| W.seq <| sQ rfl <| s_val (x_ld (v := vw) rfl (ldb_sc Sc22 aa rfl)) <| s_val (x_lenS T22.und rfl (hw.to K1)) <| sM (I 0) rfl <| s_nil ?_
 refine W.block ?_
 refine W.loop (fun m σ W => ∃ (i : Nat) (ρ : Env), σ = upds ρ [(1, Pz b2), (3, B ((ws.take i).any (fun x => dupL x.of))), (17, vw), (18, I ws.length), (19, I i)] /\ m = ws.length - i /\ Ext w W /\ KF 0 w W /\ W.heap[b2]? = some (.cells #[vw] 22 (0, 0)) /\ i <= ws.length /\ (List.range i).any (badAt ws) = false) ?_ ?_
 ·exact ⟨_, 0, _, upds_of _ _ ⟨rfl, (eqB (by first | rfl | simp)), rfl, rfl, (eqI (by omega)), trivial⟩, rfl, E, K1, aa, Nat.zero_le _, rfl⟩
 rintro m σ w9 ⟨i, ρ, rfl, rfl, E, K1, aa, az, av⟩
 refine sQ rfl <| sC _ _ (decide ((i : Int) < ws.length)) rfl rfl rfl <| s_nil <| W.seq ?_
 refine W.cond (decide ((i : Int) < ws.length)) rfl (fun ai => ?_) (fun ai => ?_)
 ·simp only [qz1, qz2, qz3, qz4, qz5, qz6, ne_eq, qz7] at ai
  refine W.skip <| W.seq <| W.block <| sQ rfl <| sM (I i) rfl <| s_val (x_ix (v := vat vw 3 (Int.toNat i)) rfl rfl (Sl.ix (α := Work) T22.und T22.size (hw.to K1) (by omega) (by omega))) ?_
  obtain ⟨ae, aA, ah⟩ := Work_atA hw (i := i) (by omega) (by omega)
  replace ah : Sl _ ae (ws.getD i default).of := ah
  have aE := ah.len_le
  refine s_val (x_ld (v := .agg #[ae, I ((ws.getD i default).base), I ((ws.getD i default).minutes)]) rfl (ld_ag Ag60 Sz60 (At.to aA K1))) ?_
  refine s_alloc (cs := [I 0]) Al3 rfl ?_
  intro aj aF Nb14
  have o_K1_b14 := Nat.le_trans K1.size Nb14.ge
  have o_b14 := Nat.le_trans E.size Nb14.ge
  have o_b2_b14 := Nat.lt_of_lt_of_le (heap_lt aa) Nb14.ge
  replace E := E.trans Nb14.ext
  replace K1 := K1.ext Nb14.ext
  replace aa := Nb14.ext.get aa
  have ac := Nb14.same
  clear Nb14
  refine s_alloc (cs := [.slice none 0 0, I 0, I 0]) Al60 rfl ?_
  intro ag aG Nb16
  have o_K1_b16 := Nat.le_trans K1.size Nb16.ge
  have o_b16 := Nat.le_trans E.size Nb16.ge
  have o_b2_b16 := Nat.lt_of_lt_of_le (heap_lt aa) Nb16.ge
  have o_b14_b16 := Nat.lt_of_lt_of_le (heap_lt ac) Nb16.ge
  replace E := E.trans Nb16.ext
  replace K1 := K1.ext Nb16.ext
  replace aa := Nb16.ext.get aa
  replace ac := Nb16.ext.get ac
  have ab := Nb16.same
  clear Nb16
  refine s_st (b := aj) (off := 0) (vs := [I i]) (cs' := [I i]) (v := I i) rfl rfl Sz3 ac rfl rfl rfl rfl rfl ?_
  intro aH ak
  replace E := E.put (by omega) ak
  replace K1 := K1.put ak (by omega)
  replace aa := ak.get (by omega) aa
  replace ab := ak.get (by omega) ab
  replace ac := ak.same
  clear ak
  refine s_st (b := ag) (off := 0) (vs := [ae, I ((ws.getD i default).base), I ((ws.getD i default).minutes)]) (cs' := [ae, I ((ws.getD i default).base), I ((ws.getD i default).minutes)]) (v := .agg #[ae, I ((ws.getD i default).base), I ((ws.getD i default).minutes)]) rfl rfl Sz60 ab rfl rfl rfl (by simp only [List.all_cons, List.all_nil, Bool.true_and, Bool.and_true, Sl.oc (ah.to K1)]; try rfl) rfl ?_
  intro aI al
  replace E := E.put (by omega) al
  replace K1 := K1.put al (by omega)
  replace aa := al.get (by omega) aa
  replace ac := al.get (by omega) ac
  replace ab := al.same
  clear al
  refine s_nil <| W.seq <| sQ rfl <| s_val (x_fa (v := Oz ag 1) rfl (fa_blk (o := 0) Fd60_1 Sz3)) <| s_val (x_ld (v := I ((ws.getD i default).base)) rfl (ldb_sc Sc3 ab rfl)) ?_
  refine s_call cf84 [I ((ws.getD i default).base), I 0, I 1000002] rfl (in_any _ _ _ _) ?_
  rintro _ aJ ⟨rfl, am⟩
  replace E := E.trans am
  replace K1 := K1.ext am
  replace aa := am.get aa
  replace ac := am.get ac
  replace ab := am.get ab
  clear am
  refine s_val (x_not (b := inB ((ws.getD i default).base) 0 1000002) rfl) <| sM (B (!(inB ((ws.getD i default).base) 0 1000002))) rfl <| g_val (!(!(inB ((ws.getD i default).base) 0 1000002))) (gy_f rfl) (fun hg => x_fa (v := Oz ag 2) rfl (fa_blk (o := 0) Fd60_2 Sz3)) <| g_val (!(!(inB ((ws.getD i default).base) 0 1000002))) (gy_f rfl) (fun hg => x_ld (v := I ((ws.getD i default).minutes)) (gd_of hg (Oz ag 2)) (ldb_sc Sc3 ab rfl)) ?_
  refine g_call (!(!(inB ((ws.getD i default).base) 0 1000002))) (gy_f rfl) cf84 (B (inB ((ws.getD i default).minutes) 0 10000)) (fun _ => [I ((ws.getD i default).minutes), I 0, I 10000]) (fun hg => lst3 (gd_of hg (I ((ws.getD i default).minutes))) rfl rfl) (fun hg => (in_any _ _ _ _)) ?_
  intro aK ao
  replace E := E.trans ao
  replace K1 := K1.ext ao
  replace aa := ao.get aa
  replace ac := ao.get ac
  replace ab := ao.get ab
  clear ao
  refine g_val (!(!(inB ((ws.getD i default).base) 0 1000002))) (gy_f rfl) (fun hg => x_not (b := inB ((ws.getD i default).minutes) 0 10000) (gd_of hg (B (inB ((ws.getD i default).minutes) 0 10000)))) <| s_val (x_por (b := !(inB ((ws.getD i default).base) 0 1000002)) (r := !(inB ((ws.getD i default).minutes) 0 10000)) rfl rfl (fun hb => gd_of (c := !(!(inB ((ws.getD i default).base) 0 1000002))) (by simp_all) (B (!(inB ((ws.getD i default).minutes) 0 10000))))) <| sM (B (((!(inB ((ws.getD i default).base) 0 1000002)) || (!(inB ((ws.getD i default).minutes) 0 10000))))) rfl <| g_val (!(((!(inB ((ws.getD i default).base) 0 1000002)) || (!(inB ((ws.getD i default).minutes) 0 10000))))) (gy_f rfl) (fun hg => x_mf (fs := []) (cs := [Pz b2, Pz aj]) rfl rfl) <| g_val (!(((!(inB ((ws.getD i default).base) 0 1000002)) || (!(inB ((ws.getD i default).minutes) 0 10000))))) (gy_f rfl) (fun hg => x_fa (v := Pz ag) rfl (fa_blk (o := 0) Fd60_0 Sz34)) <| g_val (!(((!(inB ((ws.getD i default).base) 0 1000002)) || (!(inB ((ws.getD i default).minutes) 0 10000))))) (gy_f rfl) (fun hg => x_ld (v := ae) (gd_of hg (Pz ag)) (ldb_sc Sc34 ab rfl)) ?_
  refine g_call (!(((!(inB ((ws.getD i default).base) 0 1000002)) || (!(inB ((ws.getD i default).minutes) 0 10000))))) (gy_f rfl) cf87 (B (((ws.getD i default).of).all (fun x : Int => inB x 0 ((ws.length : Int) - 1) && (x != i)))) (fun _ => [.func (.func 163) #[] #[Pz b2, Pz aj], ae]) (fun hg => lst2 (gd_of hg (.func (.func 163) #[] #[Pz b2, Pz aj])) (gd_of hg (ae))) (fun hg => (every_int _ (ah.to K1) ⟨163, [Pz b2, Pz aj], rfl, cf163, fun w' v x hE hD hA => by obtain rfl := Arg.int hA; exact (right2 _ _ _ (hE.get aa) (hE.get ac) ((hw.to K1).mono hE.le))⟩)) ?_
  intro aL ap
  replace E := E.trans ap
  replace K1 := K1.ext ap
  replace aa := ap.get aa
  replace ac := ap.get ac
  replace ab := ap.get ab
  clear ap
  refine g_val (!(((!(inB ((ws.getD i default).base) 0 1000002)) || (!(inB ((ws.getD i default).minutes) 0 10000))))) (gy_f rfl) (fun hg => x_not (b := ((ws.getD i default).of).all (fun x : Int => inB x 0 ((ws.length : Int) - 1) && (x != i))) (gd_of hg (B (((ws.getD i default).of).all (fun x : Int => inB x 0 ((ws.length : Int) - 1) && (x != i)))))) <| s_val (x_por (b := ((!(inB ((ws.getD i default).base) 0 1000002)) || (!(inB ((ws.getD i default).minutes) 0 10000)))) (r := !(((ws.getD i default).of).all (fun x : Int => inB x 0 ((ws.length : Int) - 1) && (x != i)))) rfl rfl (fun hb => gd_of (c := !(((!(inB ((ws.getD i default).base) 0 1000002)) || (!(inB ((ws.getD i default).minutes) 0 10000))))) (by simp_all) (B (!(((ws.getD i default).of).all (fun x : Int => inB x 0 ((ws.length : Int) - 1) && (x != i))))))) <| s_nil ?_
  refine W.cond (((((!(inB ((ws.getD i default).base) 0 1000002)) || (!(inB ((ws.getD i default).minutes) 0 10000)))) || (!(((ws.getD i default).of).all (fun x : Int => inB x 0 ((ws.length : Int) - 1) && (x != i)))))) rfl (fun aw => ?_) (fun aw => ?_)
  ·skip
   refine sQ rfl <| sA (I 140) rfl <| s_nil ?_
   refine W.ret ?_
   exact ⟨_, resE_tmp rfl, (eqI (right_bad c8 ai aw)), E⟩
  skip
  refine W.skip <| sQ rfl <| s_val (x_fa (v := Pz ag) rfl (fa_blk (o := 0) Fd60_0 Sz34)) <| s_val (x_ld (v := ae) rfl (ldb_sc Sc34 ab rfl)) <| s_val (x_lenS T34.und rfl (ah.to K1)) <| sM (I 0) rfl <| s_nil <| W.block ?_
  refine W.loop (fun m σ W => ∃ (j : Nat) (ρ : Env), σ = upds ρ [(1, Pz b2), (3, B ((ws.take i).any (fun x => dupL x.of) || (List.range j).any (dupAt (ws.getD i default).of))), (5, Pz ag), (17, vw), (18, I ws.length), (19, I i), (29, gd (!(!(inB ((ws.getD i default).base) 0 1000002))) (Oz ag 2)), (30, gd (!(!(inB ((ws.getD i default).base) 0 1000002))) (I ((ws.getD i default).minutes))), (31, gd (!(!(inB ((ws.getD i default).base) 0 1000002))) (B (inB ((ws.getD i default).minutes) 0 10000))), (32, gd (!(!(inB ((ws.getD i default).base) 0 1000002))) (B (!(inB ((ws.getD i default).minutes) 0 10000)))), (35, gd (!(((!(inB ((ws.getD i default).base) 0 1000002)) || (!(inB ((ws.getD i default).minutes) 0 10000))))) (.func (.func 163) #[] #[Pz b2, Pz aj])), (36, gd (!(((!(inB ((ws.getD i default).base) 0 1000002)) || (!(inB ((ws.getD i default).minutes) 0 10000))))) (Pz ag)), (37, gd (!(((!(inB ((ws.getD i default).base) 0 1000002)) || (!(inB ((ws.getD i default).minutes) 0 10000))))) ae), (38, gd (!(((!(inB ((ws.getD i default).base) 0 1000002)) || (!(inB ((ws.getD i default).minutes) 0 10000))))) (B (((ws.getD i default).of).all (fun x : Int => inB x 0 ((ws.length : Int) - 1) && (x != i))))), (39, gd (!(((!(inB ((ws.getD i default).base) 0 1000002)) || (!(inB ((ws.getD i default).minutes) 0 10000))))) (B (!(((ws.getD i default).of).all (fun x : Int => inB x 0 ((ws.length : Int) - 1) && (x != i)))))), (42, ae), (43, I (((ws.getD i default).of).length)), (44, I j)] /\ m = (ws.getD i default).of.length - j /\ Ext w W /\ KF 0 w W /\ W.heap[b2]? = some (.cells #[vw] 22 (0, 0)) /\ W.heap[aj]? = some (.cells #[I i] 3 (0, 0)) /\ W.heap[ag]? = some (.cells #[ae, I ((ws.getD i default).base), I ((ws.getD i default).minutes)] 60 (0, 0)) /\ j <= (ws.getD i default).of.length) ?_ ?_
  ·exact ⟨_, 0, _, upds_of _ _ ⟨rfl, (eqB (by first | rfl | simp)), rfl, rfl, rfl, rfl, rfl, rfl, rfl, rfl, rfl, rfl, rfl, rfl, rfl, rfl, rfl, (eqI (by omega)), trivial⟩, rfl, E, K1, aa, ac, ab, Nat.zero_le _⟩
  rintro m σ aM ⟨j, ρ, rfl, rfl, E, K1, aa, ac, ab, aB⟩
  refine sQ rfl <| sC _ _ (decide ((j : Int) < (((ws.getD i default).of).length))) rfl rfl rfl <| s_nil <| W.seq ?_
  refine W.cond (decide ((j : Int) < (((ws.getD i default).of).length))) rfl (fun ar => ?_) (fun ar => ?_)
  ·simp only [qz1, qz2, qz3, qz4, qz5, qz6, ne_eq, qz7] at ar
   refine W.skip <| W.seq <| W.block <| sQ rfl <| sM (I j) rfl <| s_val (x_ix (v := vat ae 1 (Int.toNat j)) rfl rfl (Sl.ix (α := Int) T34.und T34.size (ah.to K1) (by omega) (by omega))) <| s_val (x_ld (v := I (((ws.getD i default).of).getD j 0)) rfl (ld_sc Sc3 (At.to (Int_at ah (i := j) (by omega) (by omega)) K1))) <| sA (I j) rfl <| sA (I (((ws.getD i default).of).getD j 0)) rfl <| s_nil <| W.region rfl ?_
   refine sM (B ((ws.take i).any (fun x => dupL x.of) || (List.range j).any (dupAt (ws.getD i default).of))) rfl <| sM (B ((ws.take i).any (fun x => dupL x.of) || (List.range j).any (dupAt (ws.getD i default).of))) rfl <| g_val (!((ws.take i).any (fun x => dupL x.of) || (List.range j).any (dupAt (ws.getD i default).of))) (gy_f rfl) (fun hg => x_fa (v := Pz ag) rfl (fa_blk (o := 0) Fd60_0 Sz34)) <| g_val (!((ws.take i).any (fun x => dupL x.of) || (List.range j).any (dupAt (ws.getD i default).of))) (gy_f rfl) (fun hg => x_ld (v := ae) (gd_of hg (Pz ag)) (ldb_sc Sc34 ab rfl)) <| g_val (!((ws.take i).any (fun x => dupL x.of) || (List.range j).any (dupAt (ws.getD i default).of))) (gy_f rfl) (fun hg => x_mv (v := I j) rfl) ?_
   obtain ⟨au, aC, ax⟩ := sl_hi T34.und T34.size ah (j := j) (by omega) (by omega)
   replace ax : Sl _ au (((ws.getD i default).of).take j) := ax
   refine g_val (!((ws.take i).any (fun x => dupL x.of) || (List.range j).any (dupAt (ws.getD i default).of))) (gy_f rfl) (fun hg => x_sl (v := ae) (u := au) (lo' := none) (hi' := some (I j)) (mx' := none) (gd_of hg (ae)) rfl (congrArg some (gd_of hg (I j))) rfl (aC _)) <| g_val (!((ws.take i).any (fun x => dupL x.of) || (List.range j).any (dupAt (ws.getD i default).of))) (gy_f rfl) (fun hg => x_mv (v := I (((ws.getD i default).of).getD j 0)) rfl) ?_
   refine g_call (!((ws.take i).any (fun x => dupL x.of) || (List.range j).any (dupAt (ws.getD i default).of))) (gy_f rfl) cf45 (B ((((ws.getD i default).of).take j).contains (((ws.getD i default).of).getD j 0))) (fun _ => [au, I (((ws.getD i default).of).getD j 0)]) (fun hg => lst2 (gd_of hg (au)) (gd_of hg (I (((ws.getD i default).of).getD j 0)))) (fun hg => (contains_int (((ws.getD i default).of).getD j 0) _ (ax.to K1))) ?_
   intro aN aq
   replace E := E.trans aq
   replace K1 := K1.ext aq
   replace aa := aq.get aa
   replace ac := aq.get ac
   replace ab := aq.get ab
   clear aq
   refine s_val (x_por (b := (ws.take i).any (fun x => dupL x.of) || (List.range j).any (dupAt (ws.getD i default).of)) (r := (((ws.getD i default).of).take j).contains (((ws.getD i default).of).getD j 0)) rfl rfl (fun hb => gd_of (c := !((ws.take i).any (fun x => dupL x.of) || (List.range j).any (dupAt (ws.getD i default).of))) (by simp_all) (B ((((ws.getD i default).of).take j).contains (((ws.getD i default).of).getD j 0))))) <| sA (B ((((ws.take i).any (fun x => dupL x.of) || (List.range j).any (dupAt (ws.getD i default).of)) || ((((ws.getD i default).of).take j).contains (((ws.getD i default).of).getD j 0))))) rfl <| s_nil <| W.region rfl <| sR _ _ (j + 1) rfl rfl rfl (by omega) <| sM (I (j + 1)) rfl <| s_nil ?_
   exact ⟨_, (by omega), j+1, _, upds_of _ _ ⟨rfl, (eqB right_twice1), rfl, rfl, rfl, rfl, rfl, rfl, rfl, rfl, rfl, rfl, rfl, rfl, rfl, rfl, rfl, (eqI (by omega)), trivial⟩, rfl, E, K1, aa, ac, ab, (by omega)⟩
  simp only [qz1, qz2, qz3, qz4, qz5, qz6, ne_eq, qz7] at ar
  refine W.exit ?_
  refine W.region rfl <| sR _ _ (i + 1) rfl rfl rfl (by omega) <| sM (I (i + 1)) rfl <| s_nil ?_
  exact ⟨_, (by omega), i+1, _, upds_of _ _ ⟨rfl, (eqB (right_twice ai ar aB)), rfl, rfl, (eqI (by omega)), trivial⟩, rfl, E, K1, aa, (by omega), (right_next av aw)⟩
 simp only [qz1, qz2, qz3, qz4, qz5, qz6, ne_eq, qz7] at ai
 refine W.exit ?_
 refine W.seq <| sQ rfl <| sM (B ((ws.take i).any (fun x => dupL x.of))) rfl <| s_nil ?_
 refine W.cond ((ws.take i).any (fun x => dupL x.of)) rfl (fun ay => ?_) (fun ay => ?_)
 ·skip
  refine sQ rfl <| sA (I 10) rfl <| s_nil ?_
  refine W.ret ?_
  exact ⟨_, resE_tmp rfl, (eqI (right_dup c8 ai az av ay)), E⟩
 skip
 refine W.skip <| sQ rfl <| sA (I 0) rfl <| s_nil ?_
 refine W.ret ?_
 exact ⟨_, resE_tmp rfl, (eqI (right_ok c8 ai az av ay)), E⟩

theorem order1 {b : Nat} {vo : Value} {out : List Int} (n : Int) (w : World) (aa : w.heap[b]? = some (.cells #[vo] 34 (0, 0))) (ho : Sl w.cell? vo out) : Ret Try.prog 164 #[I n, Pz b] w fun v w' => v = B (out.contains n) /\ Ext w w' := by
 refine ret_of_W Try.func164 rfl rfl rfl ?_
 have E := Ext.refl w
 have K1 := KF.refl 0 w
 have ab := ho.len_le
 have ho := ho.par
 refine sQ rfl <| sA (B false) rfl <| s_nil <| sQ rfl <| s_val (x_ld (v := vo) rfl (ldb_sc Sc34 aa rfl)) <| sM (I n) rfl ?_
 refine s_call cf45 [vo, I n] rfl (contains_int n _ (ho.to K1)) ?_
 rintro _ w2 ⟨rfl, x3⟩
 replace E := E.trans x3
 replace K1 := K1.ext x3
 replace aa := x3.get aa
 clear x3
 refine sA (B (out.contains n)) rfl <| s_nil ?_
 refine W.ret ?_
 exact ⟨_, resE_tmp rfl, rfl, E⟩

theorem order_any {b : Nat} {vw : Value} {ws : List Work} (w : World) (aa : w.heap[b]? = some (.cells #[vw] 187 (0, 0))) (hw : Sl w.cell? vw ws) (az : ws.length <= 30) : Ret Try.prog 131 #[Pz b] w fun v w' => Sl (frm w' w.heap.size) v (orderP ws) /\ Ext w w' := by
 refine ret_of_W Try.func131 rfl rfl rfl ?_
 have E := Ext.refl w
 have K1 := KF.refl 0 w
 have aA := hw.len_le
 have hw := hw.par
 refine sQ rfl <| sA (.slice none 0 0) rfl <| s_nil <| sQ rfl ?_
 refine s_alloc (cs := [.slice none 0 0]) Al34 rfl ?_
 intro b2 w3 Nb2
 have o_K1_b2 := Nat.le_trans K1.size Nb2.ge
 have o_b2 := Nat.le_trans E.size Nb2.ge
 have o_b_b2 := Nat.lt_of_lt_of_le (heap_lt aa) Nb2.ge
 replace E := E.trans Nb2.ext
 replace K1 := K1.ext Nb2.ext
 replace aa := Nb2.ext.get aa
 have ab := Nb2.same
 clear Nb2
 refine s_nil <| sQ rfl <| s_val (x_mf (fs := []) (cs := [Pz b2]) rfl rfl) <| sA (.func (.func 164) #[] #[Pz b2]) rfl <| s_nil <| W.seq <| sQ rfl <| sA (I 0) rfl <| s_nil <| W.block ?_
 have z4 := Nat.le_refl w3.heap.size
 have B_vo := E.size
 have B_vo_K1 := K1.size
 have B_vo_b := heap_lt aa
 have B_vo_b2 := heap_lt ab
 refine W.loop (fun m σ W => ∃ (i : Nat) (out : List Int) (vo : Value) (ρ : Env), σ = upds ρ [(0, Pz b), (3, Pz b2), (4, .func (.func 164) #[] #[Pz b2]), (5, I i)] /\ m = (ws.length - out.length) * (ws.length + 2) + (ws.length + 1 - i) /\ Ext w W /\ KF 0 w W /\ W.heap[b]? = some (.cells #[vw] 187 (0, 0)) /\ W.heap[b2]? = some (.cells #[vo] 34 (0, 0)) /\ w3.heap.size <= W.heap.size /\ OwnF w3.heap.size 3 W vo out /\ vo.ownBlock ≠ some b /\ vo.ownBlock ≠ some b2 /\ OrdInv ws out /\ i <= ws.length /\ (∀ j < i, readyAt ws out j = false)) ?_ ?_
 ·exact ⟨_, 0, [], .slice none 0 0, _, upds_of _ _ ⟨rfl, rfl, rfl, (eqI (by omega)), trivial⟩, rfl, E, K1, aa, ab, z4, OwnF.nil _ _ _, by simp [Value.ownBlock], by simp [Value.ownBlock], (OrdInv.nil ws), (Nat.zero_le _), (fun j hj => by omega)⟩
 rintro m σ w5 ⟨i, out, vo, ρ, rfl, rfl, E, K1, aa, ab, z4, ac, n_vo_b, n_vo_b2, ak, au, ao⟩
 have hol := ak.le
 refine W.seq <| sQ rfl <| sM (I i) rfl <| sM (Pz b) rfl <| s_val (x_nc (a := ⟨b, 0, none⟩) rfl) <| s_val (x_fa (v := Pz b) rfl (fa_blk (o := 0) Fd187_0 Sz185)) <| s_val (x_fa (v := Pz b) rfl (fa_blk (o := 0) Fd185_0 Sz22)) <| s_val (x_ld (v := vw) rfl (ldb_sc Sc22 aa rfl)) <| s_val (x_lenS T22.und rfl (hw.to K1)) <| sC _ _ (decide ((i : Int) < ws.length)) rfl rfl rfl <| s_nil ?_
 refine W.cond (decide ((i : Int) < ws.length)) rfl (fun c6 => ?_) (fun c6 => ?_)
 ·simp only [qz1, qz2, qz3, qz4, qz5, qz6, ne_eq, qz7] at c6
  refine W.skip <| W.seq <| W.block <| sQ rfl <| sM (.func (.func 164) #[] #[Pz b2]) rfl <| sM (I i) rfl ?_
  refine s_callv rfl cf164 [I i] rfl (order1 i _ ab (ac.sl.mono (frm_le _ _))) ?_
  rintro _ w7 ⟨rfl, x8⟩
  replace E := E.trans x8
  replace z4 := Nat.le_trans z4 x8.size
  replace K1 := K1.ext x8
  replace aa := x8.get aa
  replace ab := x8.get ab
  replace ac := ac.ext x8
  clear x8
  refine s_val (x_not (b := out.contains i) rfl) <| sM (B (!(out.contains i))) rfl <| g_val (!(out.contains i)) (gy_t rfl) (fun hg => x_mv (v := .func (.func 164) #[] #[Pz b2]) rfl) <| g_val (!(out.contains i)) (gy_t rfl) (fun hg => x_mv (v := Pz b) rfl) <| g_val (!(out.contains i)) (gy_t rfl) (fun hg => x_nc (a := ⟨b, 0, none⟩) (gd_of hg (Pz b))) <| g_val (!(out.contains i)) (gy_t rfl) (fun hg => x_fa (v := Pz b) (gd_of hg (Pz b)) (fa_blk (o := 0) Fd187_0 Sz185)) <| g_val (!(out.contains i)) (gy_t rfl) (fun hg => x_fa (v := Pz b) (gd_of hg (Pz b)) (fa_blk (o := 0) Fd185_0 Sz22)) <| g_val (!(out.contains i)) (gy_t rfl) (fun hg => x_ld (v := vw) (gd_of hg (Pz b)) (ldb_sc Sc22 aa rfl)) <| g_val (!(out.contains i)) (gy_t rfl) (fun hg => x_mv (v := I i) rfl) <| g_val (!(out.contains i)) (gy_t rfl) (fun hg => x_ix (v := vat vw 3 (Int.toNat i)) (gd_of hg (vw)) (gd_of hg (I i)) (Sl.ix (α := Work) T22.und T22.size (hw.to K1) (by first | omega | (simp at hg; omega) | (simp [inB] at hg; omega)) (by first | omega | (simp at hg; omega) | (simp [inB] at hg; omega)))) <| g_val (!(out.contains i)) (gy_t rfl) (fun hg => x_fa (v := fat (vat vw 3 (Int.toNat i)) 0) (gd_of hg (vat vw 3 (Int.toNat i))) (fa_pl Fd60_0 Sz34 (Sl.pl (i := i) hw (by first | omega | (simp at hg; omega) | (simp [inB] at hg; omega)) (by first | omega | (simp at hg; omega) | (simp [inB] at hg; omega))))) ?_
  obtain ⟨u9, av, ap⟩ := gd_ex (c := !(out.contains i)) fun hg => Work_at0 hw (i := i) (by first | omega | (simp at hg; omega) | (simp [inB] at hg; omega)) (by first | omega | (simp at hg; omega) | (simp [inB] at hg; omega))
  replace ap : (!(out.contains i)) = true -> Sl _ u9 (ws.getD i default).of := ap
  refine g_val (!(out.contains i)) (gy_t rfl) (fun hg => x_ld (v := u9) (gd_of hg (fat (vat vw 3 (Int.toNat i)) 0)) (ld_sc Sc34 (At.to (av hg) K1))) ?_
  refine g_call (!(out.contains i)) (gy_t rfl) cf87 (B (((ws.getD i default).of).all (fun x : Int => out.contains x))) (fun _ => [.func (.func 164) #[] #[Pz b2], u9]) (fun hg => lst2 (gd_of hg (.func (.func 164) #[] #[Pz b2])) (gd_of hg (u9))) (fun hg => (every_int _ ((ap hg).to K1) ⟨164, [Pz b2], rfl, cf164, fun w' v x hE hD hA => by obtain rfl := Arg.int hA; exact (order1 _ _ (hE.get ab) ((ac.sl.mono (frm_le _ _)).mono hE.le))⟩)) ?_
  intro ar ae
  replace E := E.trans ae
  replace z4 := Nat.le_trans z4 ae.size
  replace K1 := K1.ext ae
  replace aa := ae.get aa
  replace ab := ae.get ab
  replace ac := ac.ext ae
  clear ae
  refine s_val (x_pand (b := !(out.contains i)) (r := ((ws.getD i default).of).all (fun x : Int => out.contains x)) rfl (fun hb => gd_of (c := !(out.contains i)) (by simp_all) (B (((ws.getD i default).of).all (fun x : Int => out.contains x)))) rfl) <| s_nil ?_
  refine W.cond (((!(out.contains i)) && (((ws.getD i default).of).all (fun x : Int => out.contains x)))) rfl (fun al => ?_) (fun al => ?_)
  ·skip
   refine sQ rfl <| s_val (x_ld (v := vo) rfl (ldb_sc Sc34 ab rfl)) <| sM (I i) rfl ?_
   refine s_bsl (α := Int) T34 ar.heap.size [I i] [(i : Int)] rfl (.cons rfl (Flat.rep_enc _ _) <| .nil) (Nat.le_refl _) rfl (by decide) (by decide) ?_
   intro aw ax ay ag nn_u14
   replace E := E.trans ag
   replace z4 := Nat.le_trans z4 ag.size
   replace K1 := K1.ext ag
   replace aa := ag.get aa
   replace ab := ag.get ab
   replace ac := ac.ext ag
   clear ag
   have K18 := KF.refl ar.heap.size ax
   refine s_app (α := Int) (v := vo) (vy := aw) (l := out) (l2 := [(i : Int)]) T34 rfl rfl ac (ay.to K18) (Cells.Le.refl _) z4 (by first | omega | (simp only [List.length_append, List.length_cons, List.length_nil, List.length_set]; omega)) (by first | omega | (simp only [List.length_append, List.length_cons, List.length_nil, List.length_set]; omega)) ?_
   intro am aB ai aj aq
   have n_v19_b := aq b (heap_lt aa) n_vo_b
   have n_v19_b2 := aq b2 (heap_lt ab) n_vo_b2
   replace E := E.grow aj (by omega)
   replace z4 := Nat.le_trans z4 aj.size
   replace K1 := K1.grow aj (by omega)
   replace aa := aj.get n_vo_b aa
   replace ab := aj.get n_vo_b2 ab
   clear aj aq
   refine s_st (b := b2) (off := 0) (vs := [am]) (cs' := [am]) (v := am) rfl rfl Sz34 ab (Sl.cells (ai.sl.mono (frm_le _ _))) rfl rfl (by simp only [List.all_cons, List.all_nil, Bool.true_and, Bool.and_true, Sl.oc (ai.sl.mono (frm_le _ _))]; try rfl) rfl ?_
   intro aC ah
   replace E := E.put (by omega) ah
   replace z4 := Nat.le_trans z4 (Nat.le_of_eq ah.size.symm)
   replace K1 := K1.put ah (by omega)
   replace aa := ah.get (by omega) aa
   replace ai := ai.put ah n_v19_b2
   replace ab := ah.same
   clear ah
   refine s_nil <| W.region rfl <| sA (I (-1)) rfl <| s_nil <| W.region rfl <| sM (I (-1)) rfl <| sR _ _ ((-1) + 1) rfl rfl rfl (by omega) <| sA (I ((-1) + 1)) rfl <| s_nil ?_
   exact ⟨_, (by simp only [List.length_append, List.length_singleton]; exact order_dec (ak.lt c6 al) au), 0, (out ++ [(i : Int)]), am, _, upds_of _ _ ⟨rfl, rfl, rfl, (eqI (by omega)), trivial⟩, rfl, E, K1, aa, ab, z4, (by first | exact ai | simpa using ai), n_v19_b, n_v19_b2, (ak.step c6 al ao), (Nat.zero_le _), (fun j hj => by omega)⟩
  skip
  refine W.skip <| W.region rfl <| sM (I i) rfl <| sR _ _ (i + 1) rfl rfl rfl (by omega) <| sA (I (i + 1)) rfl <| s_nil ?_
  exact ⟨_, (by omega), (i + 1), out, vo, _, upds_of _ _ ⟨rfl, rfl, rfl, (eqI (by omega)), trivial⟩, rfl, E, K1, aa, ab, z4, ac, n_vo_b, n_vo_b2, ak, (by omega), (notReady_next ao al)⟩
 simp only [qz1, qz2, qz3, qz4, qz5, qz6, ne_eq, qz7] at c6
 refine W.exit ?_
 refine sQ rfl <| s_val (x_ld (v := vo) rfl (ldb_sc Sc34 ab rfl)) <| sA vo rfl <| s_nil ?_
 refine W.ret ?_
 exact ⟨_, resE_tmp rfl, (ak.done c6 ao ▸ ac.sl.mono (frm_mono _ (by omega))), E⟩

theorem opened_any {vw : Value} {ws : List Work} (w : World) (hw : Sl w.cell? vw ws) : Ret Try.prog 81 #[vw] w fun v w' => (openedE ws ≠ 0 /\ v = .tuple #[.pointer none, .slice none 0 0, I (openedE ws)] /\ Ext w w') ∨ (openedE ws = 0 /\ ∃ b so, v = .tuple #[Pz b, so, I 0] /\ New w b (.cells #[vw] 187 (0, 0)) w' /\ Sl (frm w' w.heap.size) so (orderP ws)) := by
 refine ret_of_W Try.func81 rfl rfl rfl ?_
 have E := Ext.refl w
 have K1 := KF.refl 0 w
 have ae := hw.len_le
 have hw := hw.par
 refine sQ rfl <| sA (.pointer none) rfl <| sA (.slice none 0 0) rfl <| sA (I 0) rfl <| s_nil <| W.seq <| sQ rfl <| sM vw rfl ?_
 refine s_call cf130 [vw] rfl (right_any _ (hw.to K1)) ?_
 rintro _ w2 ⟨rfl, x3⟩
 replace E := E.trans x3
 replace K1 := K1.ext x3
 clear x3
 refine sA (I (rightE ws)) rfl <| s_nil <| sQ rfl <| sM (I (rightE ws)) rfl <| sC _ _ ((rightE ws : Int) != 0) rfl rfl rfl <| s_nil ?_
 refine W.cond ((rightE ws : Int) != 0) rfl (fun c4 => ?_) (fun c4 => ?_)
 ·simp only [qz1, qz2, qz3, qz4, qz5, qz6, ne_eq, qz7] at c4
  refine sQ rfl <| sM (I (rightE ws)) rfl <| sA (.pointer none) rfl <| sA (.slice none 0 0) rfl <| sA (I (rightE ws)) rfl <| s_nil ?_
  refine W.ret ?_
  exact ⟨_, resE_tmp3 rfl, .inl ⟨(by rw [opened_wrong c4]; exact c4), (by rw [opened_wrong c4]; rfl), E⟩⟩
 simp only [qz1, qz2, qz3, qz4, qz5, qz6, ne_eq, qz7] at c4
 refine W.skip <| sQ rfl <| sM vw rfl <| s_val (x_bld (ps := [(0, vw)]) (zs := [.slice none 0 0]) (L' := [vw]) rfl Try.underlying185 Al185 rfl (Bd185 Try.underlying185) (.cons (cs := [vw]) (Sl.cells (hw.to K1)) rfl rfl rfl rfl <| .nil)) <| s_val (x_bld (ps := [(0, .agg #[vw])]) (zs := [.slice none 0 0]) (L' := [vw]) rfl Try.underlying187 Al187 rfl (Bd187 Try.underlying187) (.cons (cs := [vw]) rfl rfl rfl rfl rfl <| .nil)) ?_
 refine s_box (v := .agg #[vw]) (cs := [vw]) rfl rfl ?_
 intro b5 w6 Nb5
 have o_K1_b5 := Nat.le_trans K1.size Nb5.ge
 have o_b5 := Nat.le_trans E.size Nb5.ge
 replace E := E.trans Nb5.ext
 replace K1 := K1.ext Nb5.ext
 have ab := Nb5.same
 clear Nb5
 refine sA (Pz b5) rfl <| s_nil <| sQ rfl <| sM (Pz b5) rfl ?_
 refine s_call cf131 [Pz b5] rfl (order_any _ ab (hw.to K1) (right_len (by assumption)).2) ?_
 have sz_w7 := E.size
 have lt_b5_w7 := heap_lt ab
 rintro u9 w7 ⟨ac, x8⟩
 replace E := E.trans x8
 replace K1 := K1.ext x8
 replace ab := x8.get ab
 clear x8
 have ag := ac.len_le
 have K11 := KF.refl w6.heap.size w7
 refine sA u9 rfl <| s_nil <| W.seq <| sQ rfl <| sM u9 rfl <| s_val (x_lenS T34.und rfl (ac.to K11)) <| sM vw rfl <| s_val (x_lenS T22.und rfl (hw.to K1)) <| sC _ _ (decide ((((orderP ws).length) : Int) < ws.length)) rfl rfl rfl <| s_nil ?_
 refine W.cond (decide ((((orderP ws).length) : Int) < ws.length)) rfl (fun aa => ?_) (fun aa => ?_)
 ·simp only [qz1, qz2, qz3, qz4, qz5, qz6, ne_eq, qz7] at aa
  refine sQ rfl <| sA (.pointer none) rfl <| sA (.slice none 0 0) rfl <| sA (I 9) rfl <| s_nil ?_
  refine W.ret ?_
  exact ⟨_, resE_tmp3 rfl, .inl ⟨(by rw [opened_circle c4 aa]; decide), (by rw [opened_circle c4 aa]; rfl), E⟩⟩
 simp only [qz1, qz2, qz3, qz4, qz5, qz6, ne_eq, qz7] at aa
 refine W.skip <| sQ rfl <| sM (Pz b5) rfl <| sM u9 rfl <| sA (Pz b5) rfl <| sA u9 rfl <| sA (I 0) rfl <| s_nil ?_
 refine W.ret ?_
 exact ⟨_, resE_tmp3 rfl, .inr ⟨opened_ok c4 aa, b5, _, rfl, ⟨E, o_b5, ab⟩, (ac.kf K11).mono (frm_mono _ (by omega))⟩⟩

end Go.Proofs.Ytndobgodeicloaa
end
section
set_option maxRecDepth 100000
set_option maxHeartbeats 16000000
namespace Go.Proofs.Ytndobgodeicloaa
open Go Go.Nm
theorem listed1 {b : Nat} {vw : Value} {ws : List Work} (x : Int) (w : World) (aa : w.heap[b]? = some (.cells #[vw] 22 (0, 0))) (hw : Sl w.cell? vw ws) : Ret Try.prog 147 #[I x, Pz b] w fun v w' => v = B (inB x 0 ((ws.length : Int) - 1)) /\ Ext w w' := by
 refine ret_of_W Try.func147 rfl rfl rfl ?_
 have E := Ext.refl w
 have K1 := KF.refl 0 w
 have ab := hw.len_le
 have hw := hw.par
 refine sQ rfl <| sA (B false) rfl <| s_nil <| sQ rfl <| sM (I x) rfl <| s_val (x_ld (v := vw) rfl (ldb_sc Sc22 aa rfl)) <| s_val (x_lenS T22.und rfl (hw.to K1)) <| sR _ _ (ws.length - 1) rfl rfl rfl (by omega) ?_
 refine s_call cf84 [I x, I 0, I (ws.length - 1)] rfl (in_any _ _ _ _) ?_
 rintro _ w2 ⟨rfl, x3⟩
 replace E := E.trans x3
 replace K1 := K1.ext x3
 replace aa := x3.get aa
 clear x3
 refine sA (B (inB x 0 (ws.length - 1))) rfl <| s_nil ?_
 refine W.ret ?_
 exact ⟨_, resE_tmp rfl, rfl, E⟩

theorem listed_any {vw vl : Value} {ws : List Work} {l : List Int} (w : World) (hw : Sl w.cell? vw ws) (hl : Sl w.cell? vl l) : Ret Try.prog 96 #[vw, vl] w fun v w' => v = I (listedE ws.length l) /\ Ext w w' := by
 refine ret_of_W Try.func96 rfl rfl rfl ?_
 have E := Ext.refl w
 have K1 := KF.refl 0 w
 have ah := hw.len_le
 have hw := hw.par
 have ai := hl.len_le
 have hl := hl.par
 refine sQ rfl ?_
 refine s_box (v := vw) (cs := [vw]) rfl (Sl.cells (hw.to K1)) ?_
 intro b2 w3 Nb2
 have o_K1_b2 := Nat.le_trans K1.size Nb2.ge
 have o_b2 := Nat.le_trans E.size Nb2.ge
 replace E := E.trans Nb2.ext
 replace K1 := K1.ext Nb2.ext
 have aa := Nb2.same
 clear Nb2
 refine sA (I 0) rfl <| s_nil <| W.seq <| sQ rfl <| s_val (x_mf (fs := []) (cs := [Pz b2]) rfl rfl) <| sM vl rfl ?_
 refine s_call cf87 [.func (.func 147) #[] #[Pz b2], vl] rfl (every_int _ (hl.to K1) ⟨147, [Pz b2], rfl, cf147, fun w' v x hE hD hA => by obtain rfl := Arg.int hA; exact (listed1 _ _ (hE.get aa) ((hw.to K1).mono hE.le))⟩) ?_
 rintro _ w4 ⟨rfl, x5⟩
 replace E := E.trans x5
 replace K1 := K1.ext x5
 replace aa := x5.get aa
 clear x5
 refine s_val (x_not (b := l.all (fun x : Int => inB x 0 ((ws.length : Int) - 1))) rfl) <| s_nil ?_
 refine W.cond (!(l.all (fun x : Int => inB x 0 ((ws.length : Int) - 1)))) rfl (fun c6 => ?_) (fun c6 => ?_)
 ·skip
  refine sQ rfl <| sA (I 2) rfl <| s_nil ?_
  refine W.ret ?_
  exact ⟨_, resE_tmp rfl, (eqI (listed_arg c6)), E⟩
 skip
 refine W.skip <| W.seq <| sQ rfl <| sA (I 1) rfl <| s_nil <| W.block ?_
 refine W.loop (fun m σ W => ∃ (i : Nat) (ρ : Env), σ = upds ρ [(1, vl), (5, I i)] /\ m = l.length + 1 - i /\ Ext w W /\ KF 0 w W /\ W.heap[b2]? = some (.cells #[vw] 22 (0, 0)) /\ 1 <= i /\ i <= l.length + 1 /\ AscTo l i) ?_ ?_
 ·exact ⟨_, 1, _, upds_of _ _ ⟨rfl, (eqI (by omega)), trivial⟩, rfl, E, K1, aa, (Nat.le_refl _), (by omega), (fun j h1 h2 => by omega)⟩
 rintro m σ w7 ⟨i, ρ, rfl, rfl, E, K1, aa, ag, aj, ae⟩
 refine W.seq <| sQ rfl <| sM (I i) rfl <| sM vl rfl <| s_val (x_lenS T34.und rfl (hl.to K1)) <| sC _ _ (decide ((i : Int) < l.length)) rfl rfl rfl <| s_nil ?_
 refine W.cond (decide ((i : Int) < l.length)) rfl (fun c8 => ?_) (fun c8 => ?_)
 ·simp only [qz1, qz2, qz3, qz4, qz5, qz6, ne_eq, qz7] at c8
  refine W.skip <| W.seq <| W.block <| W.seq ?_
  refine W.draw (fun W => Ext w W /\ KF 0 w W /\ W.heap[b2]? = some (.cells #[vw] 22 (0, 0))) [(0, true), (1, true), (2, true), (3, true), (4, true), (5, true), (6, true), (7, true), (8, true), (9, true)] mixed (by decide +kernel) rfl ?_
  intro w9 ac
  replace E := E.trans ac
  replace K1 := K1.ext ac
  replace aa := ac.get aa
  clear ac
  refine ⟨⟨E, K1, aa⟩, ?_⟩
  refine d_q rfl (fun w' hC => by obtain ⟨E, K1, aa⟩ := hC; exact x_mv (v := vl) rfl) ?_
  refine d_q rfl (fun w' hC => by obtain ⟨E, K1, aa⟩ := hC; exact x_mv (v := I i) rfl) ?_
  refine d_q rfl (fun w' hC => by obtain ⟨E, K1, aa⟩ := hC; exact x_ix (v := vat vl 1 (Int.toNat i)) rfl rfl (Sl.ix (α := Int) T34.und T34.size (hl.to K1) (by omega) (by omega))) ?_
  refine d_q rfl (fun w' hC => by obtain ⟨E, K1, aa⟩ := hC; exact x_ld (v := I (l.getD i 0)) rfl (ld_sc Sc3 (At.to (Int_at hl (i := i) (by omega) (by omega)) K1))) ?_
  refine d_q rfl (fun w' hC => by obtain ⟨E, K1, aa⟩ := hC; exact x_mv (v := vl) rfl) ?_
  refine d_q rfl (fun w' hC => by obtain ⟨E, K1, aa⟩ := hC; exact x_mv (v := I i) rfl) ?_
  refine d_q rfl (fun w' hC => by obtain ⟨E, K1, aa⟩ := hC; exact x_ari (r := i - 1) rfl rfl rfl (by omega)) ?_
  refine d_q rfl (fun w' hC => by obtain ⟨E, K1, aa⟩ := hC; exact x_ix (v := vat vl 1 (Int.toNat (i - 1))) rfl rfl (Sl.ix (α := Int) T34.und T34.size (hl.to K1) (by omega) (by omega))) ?_
  refine d_q rfl (fun w' hC => by obtain ⟨E, K1, aa⟩ := hC; exact x_ld (v := I (l.getD (Int.toNat (i - 1)) 0)) rfl (ld_sc Sc3 (At.to (Int_at hl (i := i - 1) (by omega) (by omega)) K1))) ?_
  refine d_q rfl (fun w' hC => by obtain ⟨E, K1, aa⟩ := hC; exact x_cmp (kd := .i64) (r := decide ((l.getD i 0 : Int) <= (l.getD (Int.toNat (i - 1)) 0))) rfl rfl rfl) ?_
  refine d_nil ?_
  refine W.cond (decide ((l.getD i 0 : Int) <= (l.getD (Int.toNat (i - 1)) 0))) rfl (fun ab => ?_) (fun ab => ?_)
  ·simp only [qz1, qz2, qz3, qz4, qz5, qz6, ne_eq, qz7] at ab
   refine sQ rfl <| sA (I 9) rfl <| s_nil ?_
   refine W.ret ?_
   exact ⟨_, resE_tmp rfl, (eqI (listed_bad c6 c8 ag ab)), E⟩
  simp only [qz1, qz2, qz3, qz4, qz5, qz6, ne_eq, qz7] at ab
  refine W.skip <| W.region rfl <| sM (I i) rfl <| sR _ _ (i + 1) rfl rfl rfl (by omega) <| sA (I (i + 1)) rfl <| s_nil ?_
  exact ⟨_, (by omega), i+1, _, upds_of _ _ ⟨rfl, (eqI (by omega)), trivial⟩, rfl, E, K1, aa, (by omega), (by omega), (asc_next ae ab)⟩
 simp only [qz1, qz2, qz3, qz4, qz5, qz6, ne_eq, qz7] at c8
 refine W.exit ?_
 refine sQ rfl <| sA (I 0) rfl <| s_nil ?_
 refine W.ret ?_
 exact ⟨_, resE_tmp rfl, (eqI (listed_ok c6 c8 ae)), E⟩

theorem asked1 {b : Nat} {st : List Bool} (x : Int) (w : World) (aa : w.heap[b]? = some (.cells (encB st).toArray 141 (0, 0))) (ab : st.length = 30) (h0 : 0 <= x) (h1 : x < 30) : Ret Try.prog 146 #[I x, Pz b] w fun v w' => v = B (st.getD x.toNat false) /\ Ext w w' := by
 refine ret_of_W Try.func146 rfl rfl rfl ?_
 have E := Ext.refl w
 have K1 := KF.refl 0 w
 refine sQ rfl <| sA (B false) rfl <| s_nil <| sQ rfl <| sM (I x) rfl <| s_val (x_ix (v := .pointer (some ⟨b, 0 + Int.toNat x, none⟩)) rfl rfl (run_indexArr Try.underlying141 Sz4 (by omega) (by omega))) <| s_val (x_ld (v := B (st.getD (Int.toNat x) false)) rfl (ldArr Sc4 aa (by omega) (by omega))) <| sA (B (st.getD (Int.toNat x) false)) rfl <| s_nil ?_
 refine W.ret ?_
 exact ⟨_, resE_tmp rfl, rfl, E⟩

theorem asked_any {vw vr : Value} {ws : List Work} {rev : List Int} (w : World) (hw : Sl w.cell? vw ws) (hr : Sl w.cell? vr rev) : Ret Try.prog 92 #[vw, vr] w fun v w' => (askedE ws rev ≠ 0 /\ v = .tuple #[.pointer none, .slice none 0 0, .agg (encB (List.replicate 30 false)).toArray, I (askedE ws rev)] /\ Ext w w') ∨ (askedE ws rev = 0 /\ ∃ b so, v = .tuple #[Pz b, so, .agg (encB (staleL ws rev)).toArray, I 0] /\ New w b (.cells #[vw] 187 (0, 0)) w' /\ Sl (frm w' w.heap.size) so (orderP ws)) := by
 refine ret_of_W Try.func92 rfl rfl rfl ?_
 have E := Ext.refl w
 have K1 := KF.refl 0 w
 have aK := hw.len_le
 have hw := hw.par
 have aL := hr.len_le
 have hr := hr.par
 refine sQ rfl <| sA (.pointer none) rfl <| sA (.slice none 0 0) rfl ?_
 refine s_alloc (cs := encB (List.replicate 30 false)) Al141 rfl ?_
 intro b2 w3 Nb2
 have o_K1_b2 := Nat.le_trans K1.size Nb2.ge
 have o_b2 := Nat.le_trans E.size Nb2.ge
 replace E := E.trans Nb2.ext
 replace K1 := K1.ext Nb2.ext
 have ab := Nb2.same
 clear Nb2
 have aF : (List.replicate 30 false).length = 30 := by simp
 refine sA (I 0) rfl <| s_nil <| sQ rfl ?_
 refine s_alloc (cs := encB (List.replicate 30 false)) Al141 rfl ?_
 intro b4 w5 Nb4
 have o_K1_b4 := Nat.le_trans K1.size Nb4.ge
 have o_b4 := Nat.le_trans E.size Nb4.ge
 have o_b2_b4 := Nat.lt_of_lt_of_le (heap_lt ab) Nb4.ge
 replace E := E.trans Nb4.ext
 replace K1 := K1.ext Nb4.ext
 replace ab := Nb4.ext.get ab
 have aa := Nb4.same
 clear Nb4
 have ai : (List.replicate 30 false).length = 30 := by simp
 refine s_nil <| sQ rfl <| sM vw rfl ?_
 refine s_call cf81 [vw] rfl (opened_any _ (hw.to K1)) ?_
 rintro _ w6 (⟨h8, rfl, x9⟩ | ⟨aA, ae, ag, rfl, ah, av⟩)
 ·replace E := E.trans x9
  replace K1 := K1.ext x9
  replace ab := x9.get ab
  replace aa := x9.get aa
  refine sM (.tuple #[.pointer none, .slice none 0 0, I (openedE ws)]) rfl <| sX [.pointer none, .slice none 0 0, I (openedE ws)] (.pointer none) rfl rfl <| sX [.pointer none, .slice none 0 0, I (openedE ws)] (.slice none 0 0) rfl rfl <| sX [.pointer none, .slice none 0 0, I (openedE ws)] (I (openedE ws)) rfl rfl <| sA (.pointer none) rfl <| sA (.slice none 0 0) rfl <| sA (I (openedE ws)) rfl <| s_nil <| W.seq <| sQ rfl <| sM (I (openedE ws)) rfl ?_
  refine sC _ _ ((openedE ws : Int) == 0) rfl rfl rfl <| s_nil ?_
  refine W.cond ((openedE ws : Int) == 0) rfl (fun aB => ?_) (fun aB => ?_)
  ·simp only [qz1, qz2, qz3, qz4, qz5, qz6, ne_eq, qz7] at aB
   exact absurd aB h8
  simp only [qz1, qz2, qz3, qz4, qz5, qz6, ne_eq, qz7] at aB
  refine W.skip <| W.seq <| sQ rfl <| sM (I (openedE ws)) rfl <| sC _ _ ((openedE ws : Int) != 0) rfl rfl rfl <| s_nil ?_
  refine W.cond ((openedE ws : Int) != 0) rfl (fun aC => ?_) (fun aC => ?_)
  ·simp only [qz1, qz2, qz3, qz4, qz5, qz6, ne_eq, qz7] at aC
   refine W.seq ?_
   refine W.draw (fun W => Ext w W /\ KF 0 w W /\ W.heap[b4]? = some (.cells (encB (List.replicate 30 false)).toArray 141 (0, 0))) [(0, true), (1, true), (2, true), (3, true), (4, false), (5, true)] mixed (by decide +kernel) rfl ?_
   intro aM aw
   replace E := E.trans aw
   replace K1 := K1.ext aw
   replace ab := aw.get ab
   replace aa := aw.get aa
   clear aw
   refine ⟨⟨E, K1, aa⟩, ?_⟩
   refine d_q rfl (fun w' hC => by obtain ⟨E, K1, aa⟩ := hC; exact x_ld (v := .agg (encB (List.replicate 30 false)).toArray) rfl (ldArrA Ag141 Sz141 ai aa)) ?_
   refine d_q rfl (fun w' hC => by obtain ⟨E, K1, aa⟩ := hC; exact x_mv (v := I (openedE ws)) rfl) ?_
   refine d_q rfl (fun w' hC => by obtain ⟨E, K1, aa⟩ := hC; exact x_as (v := .pointer none) rfl) ?_
   refine d_q rfl (fun w' hC => by obtain ⟨E, K1, aa⟩ := hC; exact x_as (v := .slice none 0 0) rfl) ?_
   refine d_l rfl ?_
   refine s_stArrA (b := b2) (l := List.replicate 30 false) (l' := List.replicate 30 false) rfl rfl Sz141 ab aF ai ?_
   intro aN ax
   replace E := E.put (by omega) ax
   replace K1 := K1.put ax (by omega)
   replace aa := ax.get (by omega) aa
   replace ab := ax.same
   clear ax
   refine s_nil ⟨⟨E, K1, aa⟩, ?_⟩
   refine d_q rfl (fun w' hC => by obtain ⟨E, K1, aa⟩ := hC; exact x_as (v := I (openedE ws)) rfl) ?_
   refine d_nil ?_
   refine W.ret ?_
   exact ⟨_, (resE_ofn (vs := [.pointer none, .slice none 0 0, .agg (encB (List.replicate 30 false)).toArray, I (openedE ws)]) rfl rfl (.tmp (v := .pointer none) rfl <| .tmp (v := .slice none 0 0) rfl <| .cell (v := .agg (encB (List.replicate 30 false)).toArray) rfl (run_loadVar_arr Ag141 Sz141 ai ab) <| .tmp (v := I (openedE ws)) rfl <| .nil)), .inl ⟨(by rw [asked_wrong h8]; exact h8), (by rw [asked_wrong h8]), E⟩⟩
  simp only [qz1, qz2, qz3, qz4, qz5, qz6, ne_eq, qz7] at aC
  exact absurd aC h8
 have sz_w6 := E.size
 have lt_b2_w6 := heap_lt ab
 have lt_b4_w6 := heap_lt aa
 have o_K1_b11 := Nat.le_trans K1.size ah.ge
 have o_b11 := Nat.le_trans E.size ah.ge
 have o_b2_b11 := Nat.lt_of_lt_of_le (heap_lt ab) ah.ge
 have o_b4_b11 := Nat.lt_of_lt_of_le (heap_lt aa) ah.ge
 replace E := E.trans ah.ext
 replace K1 := K1.ext ah.ext
 replace ab := ah.ext.get ab
 replace aa := ah.ext.get aa
 have ac := ah.same
 clear ah
 have aO := av.len_le
 have K21 := KF.refl w5.heap.size w6
 refine sM (.tuple #[Pz ae, ag, I 0]) rfl <| sX [Pz ae, ag, I 0] (Pz ae) rfl rfl <| sX [Pz ae, ag, I 0] ag rfl rfl <| sX [Pz ae, ag, I 0] (I 0) rfl rfl <| sA (Pz ae) rfl <| sA ag rfl <| sA (I 0) rfl <| s_nil <| W.seq <| sQ rfl <| sM (I 0) rfl ?_
 refine sC _ _ ((0 : Int) == 0) rfl rfl rfl <| s_nil ?_
 refine W.cond ((0 : Int) == 0) rfl (fun aD => ?_) (fun aD => ?_)
 ·simp only [qz1, qz2, qz3, qz4, qz5, qz6, ne_eq, qz7] at aD
  refine W.region rfl <| sM vw rfl <| sM vr rfl ?_
  refine s_call cf96 [vw, vr] rfl (listed_any _ (hw.to K1) (hr.to K1)) ?_
  rintro _ aP ⟨rfl, aj⟩
  replace E := E.trans aj
  replace K1 := K1.ext aj
  replace K21 := K21.ext aj
  replace ab := aj.get ab
  replace aa := aj.get aa
  replace ac := aj.get ac
  clear aj
  refine sA (I (listedE ws.length rev)) rfl <| s_nil <| W.seq <| sQ rfl <| sM (I (listedE ws.length rev)) rfl <| sC _ _ ((listedE ws.length rev : Int) != 0) rfl rfl rfl <| s_nil ?_
  refine W.cond ((listedE ws.length rev : Int) != 0) rfl (fun ay => ?_) (fun ay => ?_)
  ·simp only [qz1, qz2, qz3, qz4, qz5, qz6, ne_eq, qz7] at ay
   refine W.seq ?_
   refine W.draw (fun W => Ext w W /\ KF 0 w W /\ KF w5.heap.size w6 W /\ W.heap[b4]? = some (.cells (encB (List.replicate 30 false)).toArray 141 (0, 0)) /\ W.heap[ae]? = some (.cells #[vw] 187 (0, 0))) [(0, true), (1, true), (2, true), (3, true), (4, false), (5, true)] mixed (by decide +kernel) rfl ?_
   intro aQ ak
   replace E := E.trans ak
   replace K1 := K1.ext ak
   replace K21 := K21.ext ak
   replace ab := ak.get ab
   replace aa := ak.get aa
   replace ac := ak.get ac
   clear ak
   refine ⟨⟨E, K1, K21, aa, ac⟩, ?_⟩
   refine d_q rfl (fun w' hC => by obtain ⟨E, K1, K21, aa, ac⟩ := hC; exact x_ld (v := .agg (encB (List.replicate 30 false)).toArray) rfl (ldArrA Ag141 Sz141 ai aa)) ?_
   refine d_q rfl (fun w' hC => by obtain ⟨E, K1, K21, aa, ac⟩ := hC; exact x_mv (v := I (listedE ws.length rev)) rfl) ?_
   refine d_q rfl (fun w' hC => by obtain ⟨E, K1, K21, aa, ac⟩ := hC; exact x_as (v := .pointer none) rfl) ?_
   refine d_q rfl (fun w' hC => by obtain ⟨E, K1, K21, aa, ac⟩ := hC; exact x_as (v := .slice none 0 0) rfl) ?_
   refine d_l rfl ?_
   refine s_stArrA (b := b2) (l := List.replicate 30 false) (l' := List.replicate 30 false) rfl rfl Sz141 ab aF ai ?_
   intro aR al
   replace E := E.put (by omega) al
   replace K1 := K1.put al (by omega)
   replace K21 := K21.put al (by omega)
   replace aa := al.get (by omega) aa
   replace ac := al.get (by omega) ac
   replace ab := al.same
   clear al
   refine s_nil ⟨⟨E, K1, K21, aa, ac⟩, ?_⟩
   refine d_q rfl (fun w' hC => by obtain ⟨E, K1, K21, aa, ac⟩ := hC; exact x_as (v := I (listedE ws.length rev)) rfl) ?_
   refine d_nil ?_
   refine W.ret ?_
   exact ⟨_, (resE_ofn (vs := [.pointer none, .slice none 0 0, .agg (encB (List.replicate 30 false)).toArray, I (listedE ws.length rev)]) rfl rfl (.tmp (v := .pointer none) rfl <| .tmp (v := .slice none 0 0) rfl <| .cell (v := .agg (encB (List.replicate 30 false)).toArray) rfl (run_loadVar_arr Ag141 Sz141 ai ab) <| .tmp (v := I (listedE ws.length rev)) rfl <| .nil)), .inl ⟨(by rw [asked_list aA]; exact ay), (by rw [asked_list aA]), E⟩⟩
  simp only [qz1, qz2, qz3, qz4, qz5, qz6, ne_eq, qz7] at ay
  refine W.skip <| W.seq <| sQ rfl <| sM ag rfl <| s_val (x_lenS T34.und rfl (av.to K21)) <| sM (I 0) rfl <| s_nil <| W.block ?_
  have aG := opened_right aA
  have aS := (right_len aG).2
  refine W.loop (fun m σ W => ∃ (k : Nat) (ρ : Env), σ = upds ρ [(0, vw), (1, vr), (6, Pz b2), (8, Pz b4), (9, Pz ae), (10, ag), (29, ag), (30, I ((orderP ws).length)), (31, I k)] /\ m = (orderP ws).length - k /\ Ext w W /\ KF 0 w W /\ KF w5.heap.size w6 W /\ W.heap[b2]? = some (.cells (encB (List.replicate 30 false)).toArray 141 (0, 0)) /\ W.heap[b4]? = some (.cells (encB (staleF ws rev ((orderP ws).take k) (List.replicate 30 false))).toArray 141 (0, 0)) /\ (staleF ws rev ((orderP ws).take k) (List.replicate 30 false)).length = 30 /\ W.heap[ae]? = some (.cells #[vw] 187 (0, 0)) /\ k <= (orderP ws).length) ?_ ?_
  ·exact ⟨_, 0, _, upds_of _ _ ⟨rfl, rfl, rfl, rfl, rfl, rfl, rfl, rfl, (eqI (by omega)), trivial⟩, rfl, E, K1, K21, ab, (by first | exact aa | simpa using aa), (by first | exact ai | simpa using ai), ac, (Nat.zero_le _)⟩
  rintro m σ aT ⟨k, ρ, rfl, rfl, E, K1, K21, ab, aa, az, ac, aI⟩
  refine sQ rfl <| sC _ _ (decide ((k : Int) < ((orderP ws).length))) rfl rfl rfl <| s_nil <| W.seq ?_
  refine W.cond (decide ((k : Int) < ((orderP ws).length))) rfl (fun au => ?_) (fun au => ?_)
  ·simp only [qz1, qz2, qz3, qz4, qz5, qz6, ne_eq, qz7] at au
   have hik := order_at ws au
   refine W.skip <| W.seq <| W.block <| sQ rfl <| s_val (x_ix (v := vat ag 1 (Int.toNat k)) rfl rfl (Sl.ix (α := Int) T34.und T34.size (av.to K21) (by omega) (by omega))) <| s_val (x_ld (v := I ((orderP ws).getD k 0)) rfl (ld_sc Sc3 (At.to (Int_at av (i := k) (by omega) (by omega)) K21))) <| sA (I ((orderP ws).getD k 0)) rfl <| s_nil <| W.region rfl <| sM (I ((orderP ws).getD k 0)) rfl <| sM vr rfl ?_
   refine sM (I ((orderP ws).getD k 0)) rfl ?_
   refine s_call cf45 [vr, I ((orderP ws).getD k 0)] rfl (contains_int ((orderP ws).getD k 0) _ (hr.to K1)) ?_
   rintro _ aU ⟨rfl, am⟩
   replace E := E.trans am
   replace K1 := K1.ext am
   replace K21 := K21.ext am
   replace ab := am.get ab
   replace aa := am.get aa
   replace ac := am.get ac
   clear am
   refine sM (B (rev.contains ((orderP ws).getD k 0))) rfl <| g_val (!(rev.contains ((orderP ws).getD k 0))) (gy_f rfl) (fun hg => x_mv (v := vw) rfl) <| g_val (!(rev.contains ((orderP ws).getD k 0))) (gy_f rfl) (fun hg => x_mv (v := I ((orderP ws).getD k 0)) rfl) <| g_val (!(rev.contains ((orderP ws).getD k 0))) (gy_f rfl) (fun hg => x_ix (v := vat vw 3 (Int.toNat ((orderP ws).getD k 0))) (gd_of hg (vw)) (gd_of hg (I ((orderP ws).getD k 0))) (Sl.ix (α := Work) T22.und T22.size (hw.to K1) (by first | omega | (simp at hg; omega) | (simp [inB] at hg; omega)) (by first | omega | (simp at hg; omega) | (simp [inB] at hg; omega)))) <| g_val (!(rev.contains ((orderP ws).getD k 0))) (gy_f rfl) (fun hg => x_fa (v := fat (vat vw 3 (Int.toNat ((orderP ws).getD k 0))) 0) (gd_of hg (vat vw 3 (Int.toNat ((orderP ws).getD k 0)))) (fa_pl Fd60_0 Sz34 (Sl.pl (i := (orderP ws).getD k 0) hw (by first | omega | (simp at hg; omega) | (simp [inB] at hg; omega)) (by first | omega | (simp at hg; omega) | (simp [inB] at hg; omega))))) ?_
   obtain ⟨aE, aJ, aH⟩ := gd_ex (c := !(rev.contains ((orderP ws).getD k 0))) fun hg => Work_at0 hw (i := (orderP ws).getD k 0) (by first | omega | (simp at hg; omega) | (simp [inB] at hg; omega)) (by first | omega | (simp at hg; omega) | (simp [inB] at hg; omega))
   replace aH : (!(rev.contains ((orderP ws).getD k 0))) = true -> Sl _ aE (ws.getD (Int.toNat ((orderP ws).getD k 0)) default).of := aH
   refine g_val (!(rev.contains ((orderP ws).getD k 0))) (gy_f rfl) (fun hg => x_ld (v := aE) (gd_of hg (fat (vat vw 3 (Int.toNat ((orderP ws).getD k 0))) 0)) (ld_sc Sc34 (At.to (aJ hg) K1))) <| g_val (!(rev.contains ((orderP ws).getD k 0))) (gy_f rfl) (fun hg => x_mf (fs := []) (cs := [Pz b4]) rfl rfl) ?_
   refine g_call (!(rev.contains ((orderP ws).getD k 0))) (gy_f rfl) cf48 (B (((ws.getD (Int.toNat ((orderP ws).getD k 0)) default).of).any (fun x : Int => (staleF ws rev ((orderP ws).take k) (List.replicate 30 false)).getD x.toNat false))) (fun _ => [aE, .func (.func 146) #[] #[Pz b4]]) (fun hg => lst2 (gd_of hg (aE)) (gd_of hg (.func (.func 146) #[] #[Pz b4]))) (fun hg => (containsFunc_int _ ((aH hg).to K1) ⟨146, [Pz b4], rfl, cf146, fun w' v x hE hD hA => by obtain rfl := Arg.int hA; exact (asked1 _ _ (hE.get aa) az (right_of aG (by omega) _ hD).1 (by have := (right_of aG (by omega) _ hD).2.1; omega))⟩)) ?_
   intro aV ao
   replace E := E.trans ao
   replace K1 := K1.ext ao
   replace K21 := K21.ext ao
   replace ab := ao.get ab
   replace aa := ao.get aa
   replace ac := ao.get ac
   clear ao
   refine s_val (x_por (b := rev.contains ((orderP ws).getD k 0)) (r := ((ws.getD (Int.toNat ((orderP ws).getD k 0)) default).of).any (fun x : Int => (staleF ws rev ((orderP ws).take k) (List.replicate 30 false)).getD x.toNat false)) rfl rfl (fun hb => gd_of (c := !(rev.contains ((orderP ws).getD k 0))) (by simp_all) (B (((ws.getD (Int.toNat ((orderP ws).getD k 0)) default).of).any (fun x : Int => (staleF ws rev ((orderP ws).take k) (List.replicate 30 false)).getD x.toNat false))))) <| s_val (x_ix (v := .pointer (some ⟨b4, 0 + Int.toNat ((orderP ws).getD k 0), none⟩)) rfl rfl (run_indexArr Try.underlying141 Sz4 (by omega) (by omega))) ?_
   refine s_stArr (b := b4) (l := staleF ws rev ((orderP ws).take k) (List.replicate 30 false)) (i := (orderP ws).getD k 0) (v := ((rev.contains ((orderP ws).getD k 0)) || (((ws.getD (Int.toNat ((orderP ws).getD k 0)) default).of).any (fun x : Int => (staleF ws rev ((orderP ws).take k) (List.replicate 30 false)).getD x.toNat false)))) rfl rfl Sz4 aa (by omega) (by omega) ?_
   intro aW ap
   replace E := E.put (by omega) ap
   replace K1 := K1.put ap (by omega)
   replace K21 := K21.put ap (by omega)
   replace ab := ap.get (by omega) ab
   replace ac := ap.get (by omega) ac
   replace aa := ap.same
   clear ap
   have aX : ((staleF ws rev ((orderP ws).take k) (List.replicate 30 false)).set (Int.toNat ((orderP ws).getD k 0)) (((rev.contains ((orderP ws).getD k 0)) || (((ws.getD (Int.toNat ((orderP ws).getD k 0)) default).of).any (fun x : Int => (staleF ws rev ((orderP ws).take k) (List.replicate 30 false)).getD x.toNat false))))).length = 30 := List.length_set.trans az
   refine s_nil <| W.region rfl <| sR _ _ (k + 1) rfl rfl rfl (by omega) <| sM (I (k + 1)) rfl <| s_nil ?_
   exact ⟨_, (by omega), k+1, _, upds_of _ _ ⟨rfl, rfl, rfl, rfl, rfl, rfl, rfl, rfl, (eqI (by omega)), trivial⟩, rfl, E, K1, K21, ab, (by rw [staleF_next ws rev (orderP ws) au]; exact aa), (by rw [staleF_len]; simp), ac, (by omega)⟩
  simp only [qz1, qz2, qz3, qz4, qz5, qz6, ne_eq, qz7] at au
  refine W.exit ?_
  refine W.seq ?_
  refine W.draw (fun W => Ext w W /\ KF 0 w W /\ KF w5.heap.size w6 W /\ W.heap[b4]? = some (.cells (encB (staleF ws rev ((orderP ws).take k) (List.replicate 30 false))).toArray 141 (0, 0)) /\ W.heap[ae]? = some (.cells #[vw] 187 (0, 0))) [(0, true), (1, true), (2, true), (3, true), (4, true), (5, false), (6, true)] mixed (by decide +kernel) rfl ?_
  intro aY aq
  replace E := E.trans aq
  replace K1 := K1.ext aq
  replace K21 := K21.ext aq
  replace ab := aq.get ab
  replace aa := aq.get aa
  replace ac := aq.get ac
  clear aq
  refine ⟨⟨E, K1, K21, aa, ac⟩, ?_⟩
  refine d_q rfl (fun w' hC => by obtain ⟨E, K1, K21, aa, ac⟩ := hC; exact x_mv (v := Pz ae) rfl) ?_
  refine d_q rfl (fun w' hC => by obtain ⟨E, K1, K21, aa, ac⟩ := hC; exact x_mv (v := ag) rfl) ?_
  refine d_q rfl (fun w' hC => by obtain ⟨E, K1, K21, aa, ac⟩ := hC; exact x_ld (v := .agg (encB (staleF ws rev ((orderP ws).take k) (List.replicate 30 false))).toArray) rfl (ldArrA Ag141 Sz141 az aa)) ?_
  refine d_q rfl (fun w' hC => by obtain ⟨E, K1, K21, aa, ac⟩ := hC; exact x_as (v := Pz ae) rfl) ?_
  refine d_q rfl (fun w' hC => by obtain ⟨E, K1, K21, aa, ac⟩ := hC; exact x_as (v := ag) rfl) ?_
  refine d_l rfl ?_
  refine s_stArrA (b := b2) (l := List.replicate 30 false) (l' := staleF ws rev ((orderP ws).take k) (List.replicate 30 false)) rfl rfl Sz141 ab aF az ?_
  intro aZ ar
  replace E := E.put (by omega) ar
  replace K1 := K1.put ar (by omega)
  replace K21 := K21.put ar (by omega)
  replace aa := ar.get (by omega) aa
  replace ac := ar.get (by omega) ac
  replace ab := ar.same
  clear ar
  refine s_nil ⟨⟨E, K1, K21, aa, ac⟩, ?_⟩
  refine d_q rfl (fun w' hC => by obtain ⟨E, K1, K21, aa, ac⟩ := hC; exact x_as (v := I 0) rfl) ?_
  refine d_nil ?_
  refine W.ret ?_
  exact ⟨_, (resE_ofn (vs := [Pz ae, ag, .agg (encB (staleF ws rev ((orderP ws).take k) (List.replicate 30 false))).toArray, I 0]) rfl rfl (.tmp (v := Pz ae) rfl <| .tmp (v := ag) rfl <| .cell (v := .agg (encB (staleF ws rev ((orderP ws).take k) (List.replicate 30 false))).toArray) rfl (run_loadVar_arr Ag141 Sz141 az ab) <| .tmp (v := I 0) rfl <| .nil)), .inr ⟨(by rw [asked_list aA]; exact ay), ae, _, (by rw [staleL_done au aI]), ⟨E, o_b11, ac⟩, (av.kf K21).mono (frm_mono _ (by omega))⟩⟩
 simp only [qz1, qz2, qz3, qz4, qz5, qz6, ne_eq, qz7] at aD
 exact absurd aD (by decide)

end Go.Proofs.Ytndobgodeicloaa
end
section
set_option maxRecDepth 100000
set_option maxHeartbeats 16000000
namespace Go.Proofs.Ytndobgodeicloaa
open Go Go.Nm
theorem repeat_int {vx : Value} {x n : Int} (w : World) (hx : Sl w.cell? vx [x]) (h1 : 1 <= n) (h2 : n <= 1000) : Ret Try.prog 86 #[vx, I n] w fun v w' => OwnF w.heap.size 3 w' v (List.replicate (Int.toNat n) x) /\ Ext w w' := by
 refine ret_of_W Try.func86 rfl rfl rfl ?_
 have E := Ext.refl w
 have K1 := KF.refl 0 w
 have aq := hx.len_le
 have hx := hx.par
 refine sQ rfl <| sA (.slice none 0 0) rfl <| s_nil <| W.seq <| sQ rfl <| sM (I n) rfl <| sC _ _ (decide ((n : Int) < 0)) rfl rfl rfl <| s_nil ?_
 refine W.cond (decide ((n : Int) < 0)) rfl (fun c2 => ?_) (fun c2 => ?_)
 ·simp only [qz1, qz2, qz3, qz4, qz5, qz6, ne_eq, qz7] at c2
  exfalso; omega
 simp only [qz1, qz2, qz3, qz4, qz5, qz6, ne_eq, qz7] at c2
 refine W.skip <| sQ rfl <| sM vx rfl <| s_val (x_lenS T34.und rfl (hx.to K1)) <| s_val (x_convU (kd := .i64) (a := ([x]).length) Try.underlying3 Try.underlying205 rfl (by omega)) <| sM (I n) rfl <| s_val (x_convU (kd := .i64) (a := n) Try.underlying3 Try.underlying205 rfl (by omega)) ?_
 refine s_call cf142 [.int .u64 (([x]).length), .int .u64 n] rfl (mul_any (by omega) (by omega) _) ?_
 rintro _ w3 ⟨rfl, x4⟩
 replace E := E.trans x4
 replace K1 := K1.ext x4
 clear x4
 refine sM (.tuple #[.int .u64 0, .int .u64 n]) rfl <| sX [.int .u64 0, .int .u64 n] (.int .u64 0) rfl rfl <| sX [.int .u64 0, .int .u64 n] (.int .u64 n) rfl rfl <| sA (.int .u64 0) rfl <| sA (.int .u64 n) rfl <| s_nil <| W.seq <| sQ rfl <| sM (.int .u64 0) rfl <| s_val (x_cmp (kd := .u64) (r := decide ((0 : Int) < 0)) rfl rfl rfl) <| sM (B (decide ((0 : Int) < 0))) rfl ?_
 refine g_val (!(decide ((0 : Int) < 0))) (gy_f rfl) (fun hg => x_mv (v := .int .u64 n) rfl) <| g_val (!(decide ((0 : Int) < 0))) (gy_f rfl) (fun hg => x_cmp (kd := .u64) (r := decide ((9223372036854775807 : Int) < n)) (gd_of hg (.int .u64 n)) rfl rfl) <| s_val (x_por (b := decide ((0 : Int) < 0)) (r := decide ((9223372036854775807 : Int) < n)) rfl rfl (fun hb => gd_of (c := !(decide ((0 : Int) < 0))) (by simp_all) (B (decide ((9223372036854775807 : Int) < n))))) <| s_nil ?_
 refine W.cond (((decide ((0 : Int) < 0)) || (decide ((9223372036854775807 : Int) < n)))) rfl (fun c5 => ?_) (fun c5 => ?_)
 ·skip
  exfalso; simp at c5; omega
 skip
 refine W.skip <| sQ rfl <| sM (.int .u64 n) rfl <| s_val (x_conv64 (kd := .u64) (a := n) Try.underlying205 Try.underlying3 rfl (by omega)) ?_
 refine s_mk (α := Int) T34 0 rfl (n := n) rfl rfl (by omega) (by omega) (by omega) ?_
 intro v6 w7 ho8 x9
 have aa := Nat.le_refl w3.heap.size
 have B_v6 := E.size
 have B_v6_K1 := K1.size
 replace E := E.trans x9
 replace aa := Nat.le_trans aa x9.size
 replace K1 := K1.ext x9
 refine sA v6 rfl <| s_nil <| sQ rfl <| sM v6 rfl <| sM vx rfl ?_
 refine s_copy (v := v6) (l := List.replicate (Int.toNat n) 0) (l2 := [x]) (o := 0) (vy := vx) T34 ((sufV_zero ho8 1).symm) rfl ho8 (by first | omega | (simp; done) | (simp; omega)) (hx.to K1) (Cells.Le.refl _) (by first | omega | (simp; done) | (simp; omega)) ?_
 intro ar al ae
 replace E := E.grow ae (by omega)
 replace aa := Nat.le_trans aa ae.size
 replace K1 := K1.grow ae (by omega)
 replace ho8 := al
 clear ae
 refine sA (I ((min ([x]).length ((List.replicate (Int.toNat n) 0).length - 0) : Nat))) rfl <| s_nil <| W.seq <| W.block ?_
 refine W.loop (fun m σ W => ∃ (k : Nat) (l : List Int) (vo : Value) (ρ : Env), σ = upds ρ [(7, vo), (8, I k)] /\ m = Int.toNat n - k /\ Ext w W /\ w3.heap.size <= W.heap.size /\ OwnF w3.heap.size 3 W vo l /\ l.length = Int.toNat n /\ 1 <= k /\ k <= Int.toNat n /\ (∀ y ∈ l.take k, y = x)) ?_ ?_
 ·exact ⟨_, 1, ([x] ++ List.replicate (Int.toNat n - 1) 0), v6, _, upds_of _ _ ⟨rfl, (eqI (by simp; omega)), trivial⟩, rfl, E, aa, (by have hq := ho8; rw [rep_init (n := Int.toNat n) x (by omega)] at hq; exact hq), (by simp; omega), (Nat.le_refl _), (by omega), (by simp)⟩
 rintro m σ au ⟨k, l, vo, ρ, rfl, rfl, E, aa, ab, am, av, aw, ak⟩
 refine W.seq <| sQ rfl <| sM (I k) rfl <| sM vo rfl <| s_val (x_lenS T34.und rfl (ab.sl.mono (frm_le _ _))) <| sC _ _ (decide ((k : Int) < l.length)) rfl rfl rfl <| s_nil ?_
 refine W.cond (decide ((k : Int) < l.length)) rfl (fun ah => ?_) (fun ah => ?_)
 ·simp only [qz1, qz2, qz3, qz4, qz5, qz6, ne_eq, qz7] at ah
  refine W.skip <| W.block ?_
  refine W.draw (fun W => Ext w W) [(0, true), (1, true), (2, true), (3, true), (4, true), (5, true), (6, true), (7, false), (8, true), (9, true)] mixed (by decide +kernel) rfl ?_
  intro ax ag
  replace E := E.trans ag
  replace aa := Nat.le_trans aa ag.size
  replace ab := ab.ext ag
  clear ag
  refine ⟨E, ?_⟩
  refine d_q rfl (fun w' hC => by have E := hC; exact x_mv (v := I k) rfl) ?_
  refine d_q rfl (fun w' hC => by have E := hC; exact x_mv (v := vo) rfl) ?_
  refine d_q rfl (fun w' hC => by have E := hC; exact x_mv (v := I k) rfl) ?_
  refine d_q rfl (fun w' hC => by have E := hC; exact x_sl (v := vo) (u := sufV 1 vo (Int.toNat k)) (lo' := some (I k)) (hi' := none) (mx' := none) rfl rfl rfl rfl (OwnF.suf (i := k) T34.und T34.size ab (by omega) (by omega) _)) ?_
  refine d_q rfl (fun w' hC => by have E := hC; exact x_mv (v := vo) rfl) ?_
  refine d_q rfl (fun w' hC => by have E := hC; exact x_mv (v := I k) rfl) ?_
  obtain ⟨ai, ao, ac⟩ := sl_hi T34.und T34.size ab.sl (j := k) (by omega) (by omega)
  replace ac := ac.mono (frm_le _ _)
  replace ac : Sl _ ai (l.take k) := ac
  refine d_q rfl (fun w' hC => by have E := hC; exact x_sl (v := vo) (u := ai) (lo' := none) (hi' := some (I k)) (mx' := none) rfl rfl rfl rfl (ao _)) ?_
  refine d_l rfl ?_
  refine s_copy (v := vo) (l := l) (l2 := l.take k) (o := (Int.toNat k)) (vy := ai) T34 rfl rfl ab (by first | omega | (simp; done) | (simp; omega)) ac (Cells.Le.refl _) (by first | omega | (simp; done) | (simp; omega)) ?_
  intro ay ap aj
  replace E := E.grow aj (by omega)
  replace aa := Nat.le_trans aa aj.size
  replace ab := ap
  clear aj
  refine s_nil ⟨E, ?_⟩
  refine d_q rfl (fun w' hC => by have E := hC; exact x_ari (r := k + ((min (l.take k).length ((l).length - (Int.toNat k)) : Nat))) rfl rfl rfl (by omega)) ?_
  refine d_q rfl (fun w' hC => by have E := hC; exact x_as (v := I (k + ((min (l.take k).length ((l).length - (Int.toNat k)) : Nat)))) rfl) ?_
  refine d_nil ?_
  have az : (l.take k).length = k := by simp; omega
  exact ⟨_, (by omega), (k + min (l.take k).length (l.length - Int.toNat k)), _, vo, _, upds_of _ _ ⟨rfl, (eqI (by omega)), trivial⟩, rfl, E, aa, (by first | exact ab | simpa using ab), (by simp only [List.length_append, List.length_take, List.length_drop]; omega), (by omega), (by omega), (rep_step ak (by omega))⟩
 simp only [qz1, qz2, qz3, qz4, qz5, qz6, ne_eq, qz7] at ah
 refine W.exit ?_
 refine sQ rfl <| sM vo rfl <| sA vo rfl <| s_nil ?_
 refine W.ret ?_
 exact ⟨_, resE_tmp rfl, ((rep_done am ak (by omega)) ▸ ab.dn (by omega)), E⟩

theorem ready_any {vw vd : Value} {ws : List Work} {ord : List Int} {st : List Bool} (w : World) (hw : Sl w.cell? vw ws) (hd : Sl w.cell? vd ord) (av : st.length = 30) (hR : rightE ws = 0) (am : ∀ x ∈ ord, 0 <= x /\ x < (ws.length : Int)) (hol : ord.length <= 30) : Ret Try.prog 99 #[vw, vd, .agg (encB st).toArray] w fun v w' => Sl (frm w' w.heap.size) v (readyL ws ord st) /\ Ext w w' := by
 refine ret_of_W Try.func99 rfl rfl rfl ?_
 have E := Ext.refl w
 have K1 := KF.refl 0 w
 have aw := hw.len_le
 have hw := hw.par
 have ax := hd.len_le
 have hd := hd.par
 have ay := right_len hR
 refine sQ rfl ?_
 refine s_box (v := .agg (encB st).toArray) (cs := encB st) rfl rfl ?_
 intro b2 w3 Nb2
 have o_K1_b2 := Nat.le_trans K1.size Nb2.ge
 have o_b2 := Nat.le_trans E.size Nb2.ge
 replace E := E.trans Nb2.ext
 replace K1 := K1.ext Nb2.ext
 have aa := Nb2.same
 clear Nb2
 refine sA (.slice none 0 0) rfl <| s_nil <| sQ rfl ?_
 refine s_bsl (α := Int) T34 w3.heap.size [I (-1)] [(-1 : Int)] rfl (.cons rfl (Flat.rep_enc _ _) <| .nil) (Nat.le_refl _) rfl (by decide) (by decide) ?_
 intro u4 w5 aq x7 nn_u4
 replace E := E.trans x7
 replace K1 := K1.ext x7
 replace aa := x7.get aa
 clear x7
 have K8 := KF.refl w3.heap.size w5
 refine sM vw rfl <| s_val (x_lenS T22.und rfl (hw.to K1)) ?_
 refine s_call cf86 [u4, I ws.length] rfl (repeat_int _ (aq.to K8) (by omega) (by omega)) ?_
 rintro ao w9 ⟨ap, ag⟩
 have n_v11_b2 := ap.ne' (heap_lt aa)
 have ab := Nat.le_refl w5.heap.size
 have B_v11 := E.size
 have B_v11_K1 := K1.size
 have B_v11_K8 := K8.size
 replace E := E.trans ag
 replace ab := Nat.le_trans ab ag.size
 replace K1 := K1.ext ag
 replace K8 := K8.ext ag
 replace aa := ag.get aa
 clear ag
 refine sA ao rfl <| s_nil <| W.seq <| sQ rfl <| sM vd rfl <| s_val (x_lenS T34.und rfl (hd.to K1)) <| sM (I 0) rfl <| s_nil <| W.block ?_
 refine W.loop (fun m σ W => ∃ (k : Nat) (vo : Value) (ρ : Env), σ = upds ρ [(0, vw), (5, Pz b2), (7, vo), (17, vd), (18, I ord.length), (19, I k)] /\ m = ord.length - k /\ Ext w W /\ KF 0 w W /\ W.heap[b2]? = some (.cells (encB st).toArray 141 (0, 0)) /\ w5.heap.size <= W.heap.size /\ OwnF w5.heap.size 3 W vo (readyF ws st (ord.take k) (List.replicate ws.length (-1))) /\ vo.ownBlock ≠ some b2 /\ k <= ord.length) ?_ ?_
 ·exact ⟨_, 0, ao, _, upds_of _ _ ⟨rfl, rfl, rfl, rfl, rfl, (eqI (by omega)), trivial⟩, rfl, E, K1, aa, ab, ap, n_v11_b2, (Nat.zero_le _)⟩
 rintro m σ az ⟨k, vo, ρ, rfl, rfl, E, K1, aa, ab, ac, n_vo_b2, ar⟩
 have hbd := readyF_bound hR st (List.replicate ws.length (-1)) ord am (fun y hy => by have := List.eq_of_mem_replicate hy; omega) k ar
 have aA : (readyF ws st (ord.take k) (List.replicate ws.length (-1))).length = ws.length := by rw [readyF_len]; simp
 refine sQ rfl <| sC _ _ (decide ((k : Int) < ord.length)) rfl rfl rfl <| s_nil <| W.seq ?_
 refine W.cond (decide ((k : Int) < ord.length)) rfl (fun ae => ?_) (fun ae => ?_)
 ·simp only [qz1, qz2, qz3, qz4, qz5, qz6, ne_eq, qz7] at ae
  have hik := am _ (getD_memN ord ae 0)
  have hof := right_of hR (i := (ord.getD k 0).toNat) (by omega)
  refine W.skip <| W.seq <| W.block <| sQ rfl <| s_val (x_ix (v := vat vd 1 (Int.toNat k)) rfl rfl (Sl.ix (α := Int) T34.und T34.size (hd.to K1) (by omega) (by omega))) <| s_val (x_ld (v := I (ord.getD k 0)) rfl (ld_sc Sc3 (At.to (Int_at hd (i := k) (by omega) (by omega)) K1))) <| sA (I (ord.getD k 0)) rfl <| s_nil <| W.seq <| sQ rfl ?_
  refine sM (I (ord.getD k 0)) rfl <| s_val (x_ix (v := .pointer (some ⟨b2, 0 + Int.toNat (ord.getD k 0), none⟩)) rfl rfl (run_indexArr Try.underlying141 Sz4 (by omega) (by omega))) <| s_val (x_ld (v := B (st.getD (Int.toNat (ord.getD k 0)) false)) rfl (ldArr Sc4 aa (by omega) (by omega))) <| s_val (x_not (b := st.getD (Int.toNat (ord.getD k 0)) false) rfl) <| s_nil ?_
  refine W.cond (!(st.getD (Int.toNat (ord.getD k 0)) false)) rfl (fun al => ?_) (fun al => ?_)
  ·skip
   refine W.exit ?_
   refine W.region rfl <| sR _ _ (k + 1) rfl rfl rfl (by omega) <| sM (I (k + 1)) rfl <| s_nil ?_
   exact ⟨_, (by omega), k+1, vo, _, upds_of _ _ ⟨rfl, rfl, rfl, rfl, rfl, (eqI (by omega)), trivial⟩, rfl, E, K1, aa, ab, (by rw [readyF_next ws st ord _ ae]; unfold readyStep; rw [if_neg (by simpa using al)]; exact ac), n_vo_b2, (by omega)⟩
  skip
  refine W.skip <| sQ rfl <| sA (I 0) rfl <| s_nil <| W.seq <| sQ rfl <| sM vw rfl <| sM (I (ord.getD k 0)) rfl <| s_val (x_ix (v := vat vw 3 (Int.toNat (ord.getD k 0))) rfl rfl (Sl.ix (α := Work) T22.und T22.size (hw.to K1) (by omega) (by omega))) <| s_val (x_fa (v := fat (vat vw 3 (Int.toNat (ord.getD k 0))) 0) rfl (fa_pl Fd60_0 Sz34 (Sl.pl (i := ord.getD k 0) hw (by omega) (by omega)))) ?_
  obtain ⟨ak, au, ah⟩ := Work_at0 hw (i := ord.getD k 0) (by omega) (by omega)
  replace ah : Sl _ ak (ws.getD (Int.toNat (ord.getD k 0)) default).of := ah
  have aB := ah.len_le
  refine s_val (x_ld (v := ak) rfl (ld_sc Sc34 (At.to au K1))) <| s_val (x_lenS T34.und rfl (ah.to K1)) <| sM (I 0) rfl <| s_nil <| W.block ?_
  refine W.loop (fun m σ W => ∃ (j : Nat) (ρ : Env), σ = upds ρ [(0, vw), (5, Pz b2), (7, vo), (9, I (ord.getD k 0)), (10, I (begF (readyF ws st (ord.take k) (List.replicate ws.length (-1))) ((ws.getD (ord.getD k 0).toNat default).of.take j))), (17, vd), (18, I ord.length), (19, I k), (31, ak), (32, I (((ws.getD (Int.toNat (ord.getD k 0)) default).of).length)), (33, I j)] /\ m = (ws.getD (ord.getD k 0).toNat default).of.length - j /\ Ext w W /\ KF 0 w W /\ W.heap[b2]? = some (.cells (encB st).toArray 141 (0, 0)) /\ w5.heap.size <= W.heap.size /\ OwnF w5.heap.size 3 W vo (readyF ws st (ord.take k) (List.replicate ws.length (-1))) /\ j <= (ws.getD (ord.getD k 0).toNat default).of.length) ?_ ?_
  ·exact ⟨_, 0, _, upds_of _ _ ⟨rfl, rfl, rfl, rfl, rfl, rfl, rfl, rfl, rfl, rfl, (eqI (by omega)), trivial⟩, rfl, E, K1, aa, ab, ac, (Nat.zero_le _)⟩
  rintro m σ aC ⟨j, ρ, rfl, rfl, E, K1, aa, ab, ac, aD⟩
  refine sQ rfl <| sC _ _ (decide ((j : Int) < (((ws.getD (Int.toNat (ord.getD k 0)) default).of).length))) rfl rfl rfl <| s_nil <| W.seq ?_
  refine W.cond (decide ((j : Int) < (((ws.getD (Int.toNat (ord.getD k 0)) default).of).length))) rfl (fun ai => ?_) (fun ai => ?_)
  ·simp only [qz1, qz2, qz3, qz4, qz5, qz6, ne_eq, qz7] at ai
   have hj := hof _ (getD_memN _ ai 0)
   refine W.skip <| W.seq <| W.block <| sQ rfl <| s_val (x_ix (v := vat ak 1 (Int.toNat j)) rfl rfl (Sl.ix (α := Int) T34.und T34.size (ah.to K1) (by omega) (by omega))) <| s_val (x_ld (v := I (((ws.getD (Int.toNat (ord.getD k 0)) default).of).getD j 0)) rfl (ld_sc Sc3 (At.to (Int_at ah (i := j) (by omega) (by omega)) K1))) <| sA (I (((ws.getD (Int.toNat (ord.getD k 0)) default).of).getD j 0)) rfl <| s_nil <| W.region rfl <| sM (I (begF (readyF ws st (ord.take k) (List.replicate ws.length (-1))) ((ws.getD (ord.getD k 0).toNat default).of.take j))) rfl <| sM vo rfl ?_
   refine sM (I (((ws.getD (Int.toNat (ord.getD k 0)) default).of).getD j 0)) rfl <| s_val (x_ix (v := vat vo 1 (Int.toNat (((ws.getD (Int.toNat (ord.getD k 0)) default).of).getD j 0))) rfl rfl (Sl.ix (α := Int) T34.und T34.size (ac.sl.mono (frm_le _ _)) (by omega) (by omega))) <| s_val (x_ld (v := I ((readyF ws st (ord.take k) (List.replicate ws.length (-1))).getD (Int.toNat (((ws.getD (Int.toNat (ord.getD k 0)) default).of).getD j 0)) 0)) rfl (ld_sc Sc3 (At.up (Int_at ac.sl (i := ((ws.getD (Int.toNat (ord.getD k 0)) default).of).getD j 0) (by omega) (by omega))))) <| s_val (x_max (kd := .i64) (a := begF (readyF ws st (ord.take k) (List.replicate ws.length (-1))) ((ws.getD (ord.getD k 0).toNat default).of.take j)) (b := (readyF ws st (ord.take k) (List.replicate ws.length (-1))).getD (Int.toNat (((ws.getD (Int.toNat (ord.getD k 0)) default).of).getD j 0)) 0) rfl rfl) <| sA (I (max (begF (readyF ws st (ord.take k) (List.replicate ws.length (-1))) ((ws.getD (ord.getD k 0).toNat default).of.take j)) ((readyF ws st (ord.take k) (List.replicate ws.length (-1))).getD (Int.toNat (((ws.getD (Int.toNat (ord.getD k 0)) default).of).getD j 0)) 0))) rfl <| s_nil <| W.region rfl <| sR _ _ (j + 1) rfl rfl rfl (by omega) <| sM (I (j + 1)) rfl <| s_nil ?_
   exact ⟨_, (by omega), j+1, _, upds_of _ _ ⟨rfl, rfl, rfl, rfl, (eqI (begF_next _ _ ai).symm), rfl, rfl, rfl, rfl, rfl, (eqI (by omega)), trivial⟩, rfl, E, K1, aa, ab, ac, (by omega)⟩
  simp only [qz1, qz2, qz3, qz4, qz5, qz6, ne_eq, qz7] at ai
  have hbg := begF_le (readyF ws st (ord.take k) (List.replicate ws.length (-1))) ((ws.getD (ord.getD k 0).toNat default).of.take j) (10000 * (k : Int)) (by omega) (fun y hy => (hbd y hy).2)
  have aE := right_nums hR (i := (ord.getD k 0).toNat) (by omega)
  refine W.exit ?_
  refine W.region rfl <| sM vo rfl <| sM (I (ord.getD k 0)) rfl <| sM (I (begF (readyF ws st (ord.take k) (List.replicate ws.length (-1))) ((ws.getD (ord.getD k 0).toNat default).of.take j))) rfl <| sM vw rfl <| sM (I (ord.getD k 0)) rfl <| s_val (x_ix (v := vat vw 3 (Int.toNat (ord.getD k 0))) rfl rfl (Sl.ix (α := Work) T22.und T22.size (hw.to K1) (by omega) (by omega))) <| s_val (x_fa (v := fat (vat vw 3 (Int.toNat (ord.getD k 0))) 2) rfl (fa_pl Fd60_2 Sz3 (Sl.pl (i := ord.getD k 0) hw (by omega) (by omega)))) <| s_val (x_ld (v := I ((ws.getD (Int.toNat (ord.getD k 0)) default).minutes)) rfl (ld_sc Sc3 (At.to (Work_at2 hw (i := ord.getD k 0) (by omega) (by omega)) K1))) <| sR _ _ ((begF (readyF ws st (ord.take k) (List.replicate ws.length (-1))) ((ws.getD (ord.getD k 0).toNat default).of.take j)) + ((ws.getD (Int.toNat (ord.getD k 0)) default).minutes)) rfl rfl rfl (by omega) <| s_val (x_ix (v := vat vo 1 (Int.toNat (ord.getD k 0))) rfl rfl (Sl.ix (α := Int) T34.und T34.size (ac.sl.mono (frm_le _ _)) (by omega) (by omega))) ?_
  refine s_ost ac Sz3 (i := ord.getD k 0) (by omega) (by omega) ((begF (readyF ws st (ord.take k) (List.replicate ws.length (-1))) ((ws.getD (ord.getD k 0).toNat default).of.take j)) + ((ws.getD (Int.toNat (ord.getD k 0)) default).minutes) : Int) (val := I ((begF (readyF ws st (ord.take k) (List.replicate ws.length (-1))) ((ws.getD (ord.getD k 0).toNat default).of.take j)) + ((ws.getD (Int.toNat (ord.getD k 0)) default).minutes))) rfl rfl rfl ?_
  intro aF ho2 aj
  replace E := E.grow aj (by omega)
  replace ab := Nat.le_trans ab aj.size
  replace K1 := K1.grow aj (by omega)
  replace aa := aj.get n_vo_b2 aa
  replace ac := ho2
  clear aj
  refine s_nil <| W.region rfl <| sR _ _ (k + 1) rfl rfl rfl (by omega) <| sM (I (k + 1)) rfl <| s_nil ?_
  exact ⟨_, (by omega), k+1, vo, _, upds_of _ _ ⟨rfl, rfl, rfl, rfl, rfl, (eqI (by omega)), trivial⟩, rfl, E, K1, aa, ab, (by rw [readyF_next ws st ord _ ae]; unfold readyStep; rw [if_pos (by simpa using al), ← begF_done _ _ ai]; exact ac), n_vo_b2, (by omega)⟩
 simp only [qz1, qz2, qz3, qz4, qz5, qz6, ne_eq, qz7] at ae
 refine W.exit ?_
 refine sQ rfl <| sM vo rfl <| sA vo rfl <| s_nil ?_
 refine W.ret ?_
 exact ⟨_, resE_tmp rfl, (by have hq := (ac.dn (B' := w.heap.size) (by omega)).sl; rw [readyF_done _ _ _ _ ae] at hq; exact hq), E⟩

theorem Stale_any {vw vr : Value} {ws : List Work} {rev : List Int} (w : World) (hw : Sl w.cell? vw ws) (hr : Sl w.cell? vr rev) : Ret Try.prog 32 #[vw, vr] w fun v w' => ∃ u, v = .tuple #[u, I (askedE ws rev)] /\ Sl (frm w' w.heap.size) u (staleR ws rev) /\ Ext w w' := by
 refine ret_of_W Try.func32 rfl rfl rfl ?_
 have E := Ext.refl w
 have K1 := KF.refl 0 w
 have aG := hw.len_le
 have hw := hw.par
 have aH := hr.len_le
 have hr := hr.par
 refine sQ rfl <| sA (.slice none 0 0) rfl <| sA (I 0) rfl <| s_nil <| sQ rfl <| sM vw rfl <| sM vr rfl ?_
 refine s_call cf92 [vw, vr] rfl (asked_any _ (hw.to K1) (hr.to K1)) ?_
 rintro _ w2 (⟨h4, rfl, x5⟩ | ⟨h6, b7, so8, rfl, n9, ay⟩)
 ·replace E := E.trans x5
  replace K1 := K1.ext x5
  refine sM (.tuple #[.pointer none, .slice none 0 0, .agg (encB (List.replicate 30 false)).toArray, I (askedE ws rev)]) rfl <| sX [.pointer none, .slice none 0 0, .agg (encB (List.replicate 30 false)).toArray, I (askedE ws rev)] (.pointer none) rfl rfl <| sX [.pointer none, .slice none 0 0, .agg (encB (List.replicate 30 false)).toArray, I (askedE ws rev)] (.slice none 0 0) rfl rfl <| sX [.pointer none, .slice none 0 0, .agg (encB (List.replicate 30 false)).toArray, I (askedE ws rev)] (.agg (encB (List.replicate 30 false)).toArray) rfl rfl <| sX [.pointer none, .slice none 0 0, .agg (encB (List.replicate 30 false)).toArray, I (askedE ws rev)] (I (askedE ws rev)) rfl rfl ?_
  refine s_alloc (cs := encB (List.replicate 30 false)) Al141 rfl ?_
  intro ak aI Nb11
  have o_K1_b11 := Nat.le_trans K1.size Nb11.ge
  have o_b11 := Nat.le_trans E.size Nb11.ge
  replace E := E.trans Nb11.ext
  replace K1 := K1.ext Nb11.ext
  have ah := Nb11.same
  clear Nb11
  have az : (List.replicate 30 false).length = 30 := by simp
  refine sA (.pointer none) rfl <| sA (.slice none 0 0) rfl ?_
  refine s_stArrA (b := ak) (l := List.replicate 30 false) (l' := List.replicate 30 false) rfl rfl Sz141 ah az (List.length_replicate) ?_
  intro aJ am
  replace E := E.put (by omega) am
  replace K1 := K1.put am (by omega)
  replace ah := am.same
  clear am
  refine sA (I (askedE ws rev)) rfl <| s_nil <| sQ rfl <| sA (.slice none 0 0) rfl <| s_nil <| W.seq <| sQ rfl <| sM vw rfl <| s_val (x_lenS T22.und rfl (hw.to K1)) <| sM (I 0) rfl ?_
  refine s_nil <| W.block ?_
  refine W.loop (fun m σ W => ∃ (i : Nat) (ρ : Env), σ = upds ρ [(8, Pz ak), (9, I (askedE ws rev)), (10, .slice none 0 0), (21, I ws.length), (22, I i)] /\ m = ws.length - i /\ Ext w W /\ W.heap[ak]? = some (.cells (encB (List.replicate 30 false)).toArray 141 (0, 0)) /\ i <= ws.length) ?_ ?_
  ·exact ⟨_, 0, _, upds_of _ _ ⟨rfl, rfl, rfl, rfl, (eqI (by omega)), trivial⟩, rfl, E, ah, (Nat.zero_le _)⟩
  rintro m σ aK ⟨i, ρ, rfl, rfl, E, ah, aL⟩
  refine sQ rfl <| sC _ _ (decide ((i : Int) < ws.length)) rfl rfl rfl <| s_nil <| W.seq ?_
  refine W.cond (decide ((i : Int) < ws.length)) rfl (fun ap => ?_) (fun ap => ?_)
  ·simp only [qz1, qz2, qz3, qz4, qz5, qz6, ne_eq, qz7] at ap
   refine W.skip <| W.seq <| W.block <| sQ rfl <| sM (I i) rfl <| sA (I i) rfl <| s_nil <| sQ rfl <| sM (I (askedE ws rev)) rfl <| sC _ _ ((askedE ws rev : Int) == 0) rfl rfl rfl ?_
   refine sM (B ((askedE ws rev : Int) == 0)) rfl <| g_val ((askedE ws rev : Int) == 0) (gy_t rfl) (fun hg => x_mv (v := I i) rfl) <| g_val ((askedE ws rev : Int) == 0) (gy_t rfl) (fun hg => x_ix (v := .pointer (some ⟨ak, 0 + Int.toNat i, none⟩)) rfl (gd_of hg (I i)) (run_indexArr Try.underlying141 Sz4 (by first | omega | (simp at hg; omega)) (by first | omega | (simp at hg; omega)))) <| g_val ((askedE ws rev : Int) == 0) (gy_t rfl) (fun hg => x_ld (v := B ((List.replicate 30 false).getD i false)) (gd_of hg (.pointer (some ⟨ak, 0 + Int.toNat i, none⟩))) (ldArr Sc4 ah (by first | omega | (simp at hg; omega) | (simp [inB] at hg; omega)) (by first | omega | (simp at hg; omega) | (simp [inB] at hg; omega)))) <| s_val (x_pand (b := (askedE ws rev : Int) == 0) (r := (List.replicate 30 false).getD i false) rfl (fun hb => gd_of (c := (askedE ws rev : Int) == 0) (by simp_all) (B ((List.replicate 30 false).getD i false))) rfl) <| s_nil ?_
   refine W.cond ((((askedE ws rev : Int) == 0) && ((List.replicate 30 false).getD i false))) rfl (fun av => ?_) (fun av => ?_)
   ·skip
    simp [h4] at av
   skip
   refine W.skip <| W.region rfl <| sR _ _ (i + 1) rfl rfl rfl (by omega) <| sM (I (i + 1)) rfl <| s_nil ?_
   exact ⟨_, (by omega), i+1, _, upds_of _ _ ⟨rfl, rfl, rfl, rfl, (eqI (by omega)), trivial⟩, rfl, E, ah, (by omega)⟩
  simp only [qz1, qz2, qz3, qz4, qz5, qz6, ne_eq, qz7] at ap
  refine W.exit ?_
  refine sQ rfl <| sM (.slice none 0 0) rfl <| sM (I (askedE ws rev)) rfl <| sA (.slice none 0 0) rfl <| sA (I (askedE ws rev)) rfl <| s_nil ?_
  refine W.ret ?_
  exact ⟨_, resE_tmp2 rfl, .slice none 0 0, rfl, (by rw [staleR_no h4]; exact Sl.nil _), E⟩
 have hO := (asked_ok h6).1
 have hR := opened_right hO
 have aM := (right_len hR).2
 have hn1 := (right_len hR).1
 have aN := staleL_len ws rev
 have sz_w2 := E.size
 have o_K1_b7 := Nat.le_trans K1.size n9.ge
 have o_b7 := Nat.le_trans E.size n9.ge
 replace E := E.trans n9.ext
 replace K1 := K1.ext n9.ext
 have aa := n9.same
 clear n9
 have aO := ay.len_le
 have K18 := KF.refl w.heap.size w2
 refine sM (.tuple #[Pz b7, so8, .agg (encB (staleL ws rev)).toArray, I 0]) rfl <| sX [Pz b7, so8, .agg (encB (staleL ws rev)).toArray, I 0] (Pz b7) rfl rfl <| sX [Pz b7, so8, .agg (encB (staleL ws rev)).toArray, I 0] so8 rfl rfl <| sX [Pz b7, so8, .agg (encB (staleL ws rev)).toArray, I 0] (.agg (encB (staleL ws rev)).toArray) rfl rfl <| sX [Pz b7, so8, .agg (encB (staleL ws rev)).toArray, I 0] (I 0) rfl rfl ?_
 refine s_alloc (cs := encB (List.replicate 30 false)) Al141 rfl ?_
 intro ae aP Nb19
 have o_K1_b19 := Nat.le_trans K1.size Nb19.ge
 have o_K18_b19 := Nat.le_trans K18.size Nb19.ge
 have o_b19 := Nat.le_trans E.size Nb19.ge
 have o_b7_b19 := Nat.lt_of_lt_of_le (heap_lt aa) Nb19.ge
 replace E := E.trans Nb19.ext
 replace K1 := K1.ext Nb19.ext
 replace K18 := K18.ext Nb19.ext
 replace aa := Nb19.ext.get aa
 have ab := Nb19.same
 clear Nb19
 have aA : (List.replicate 30 false).length = 30 := by simp
 refine sA (Pz b7) rfl <| sA so8 rfl ?_
 refine s_stArrA (b := ae) (l := List.replicate 30 false) (l' := staleL ws rev) rfl rfl Sz141 ab aA (staleL_len ws rev) ?_
 intro aq ai
 replace E := E.put (by omega) ai
 replace K1 := K1.put ai (by omega)
 replace K18 := K18.put ai (by omega)
 replace aa := ai.get (by omega) aa
 replace ab := ai.same
 clear ai
 refine sA (I 0) rfl <| s_nil <| sQ rfl <| sA (.slice none 0 0) rfl <| s_nil <| W.seq <| sQ rfl <| sM vw rfl <| s_val (x_lenS T22.und rfl (hw.to K1)) <| sM (I 0) rfl ?_
 refine s_nil <| W.block ?_
 have ac := Nat.le_refl aq.heap.size
 have B_vo := E.size
 have B_vo_K1 := K1.size
 have B_vo_K18 := K18.size
 have B_vo_b7 := heap_lt aa
 have B_vo_b19 := heap_lt ab
 refine W.loop (fun m σ W => ∃ (i : Nat) (vo : Value) (ρ : Env), σ = upds ρ [(8, Pz ae), (9, I 0), (10, vo), (21, I ws.length), (22, I i)] /\ m = ws.length - i /\ Ext w W /\ KF 0 w W /\ W.heap[b7]? = some (.cells #[vw] 187 (0, 0)) /\ W.heap[ae]? = some (.cells (encB (staleL ws rev)).toArray 141 (0, 0)) /\ aq.heap.size <= W.heap.size /\ OwnF aq.heap.size 3 W vo (stT ws rev i) /\ vo.ownBlock ≠ some b7 /\ vo.ownBlock ≠ some ae /\ i <= ws.length) ?_ ?_
 ·exact ⟨_, 0, .slice none 0 0, _, upds_of _ _ ⟨rfl, rfl, rfl, rfl, (eqI (by omega)), trivial⟩, rfl, E, K1, aa, ab, ac, (OwnF.nil _ _ _), by simp [Value.ownBlock], by simp [Value.ownBlock], (Nat.zero_le _)⟩
 rintro m σ aw ⟨i, vo, ρ, rfl, rfl, E, K1, aa, ab, ac, al, n_vo_b7, n_vo_b19, aB⟩
 have aQ := stT_len ws rev i
 refine sQ rfl <| sC _ _ (decide ((i : Int) < ws.length)) rfl rfl rfl <| s_nil <| W.seq ?_
 refine W.cond (decide ((i : Int) < ws.length)) rfl (fun ao => ?_) (fun ao => ?_)
 ·simp only [qz1, qz2, qz3, qz4, qz5, qz6, ne_eq, qz7] at ao
  refine W.skip <| W.seq <| W.block <| sQ rfl <| sM (I i) rfl <| sA (I i) rfl <| s_nil <| sQ rfl <| sM (I 0) rfl <| sC _ _ ((0 : Int) == 0) rfl rfl rfl ?_
  refine sM (B ((0 : Int) == 0)) rfl <| g_val ((0 : Int) == 0) (gy_t rfl) (fun hg => x_mv (v := I i) rfl) <| g_val ((0 : Int) == 0) (gy_t rfl) (fun hg => x_ix (v := .pointer (some ⟨ae, 0 + Int.toNat i, none⟩)) rfl (gd_of hg (I i)) (run_indexArr Try.underlying141 Sz4 (by first | omega | (simp at hg; omega)) (by first | omega | (simp at hg; omega)))) <| g_val ((0 : Int) == 0) (gy_t rfl) (fun hg => x_ld (v := B ((staleL ws rev).getD i false)) (gd_of hg (.pointer (some ⟨ae, 0 + Int.toNat i, none⟩))) (ldArr Sc4 ab (by first | omega | (simp at hg; omega) | (simp [inB] at hg; omega)) (by first | omega | (simp at hg; omega) | (simp [inB] at hg; omega)))) <| s_val (x_pand (b := (0 : Int) == 0) (r := (staleL ws rev).getD i false) rfl (fun hb => gd_of (c := (0 : Int) == 0) (by simp_all) (B ((staleL ws rev).getD i false))) rfl) <| s_nil ?_
  refine W.cond ((((0 : Int) == 0) && ((staleL ws rev).getD i false))) rfl (fun ar => ?_) (fun ar => ?_)
  ·skip
   refine W.region rfl <| sM vo rfl <| sM (I i) rfl ?_
   refine s_bsl (α := Int) T34 aw.heap.size [I i] [(i : Int)] rfl (.cons rfl (Flat.rep_enc _ _) <| .nil) (Nat.le_refl _) rfl (by decide) (by decide) ?_
   intro aC aD aE ag nn_u27
   replace E := E.trans ag
   replace ac := Nat.le_trans ac ag.size
   replace K1 := K1.ext ag
   replace aa := ag.get aa
   replace ab := ag.get ab
   replace al := al.ext ag
   clear ag
   have K31 := KF.refl aw.heap.size aD
   refine s_app (α := Int) (v := vo) (vy := aC) (l := stT ws rev i) (l2 := [(i : Int)]) T34 rfl rfl al (aE.to K31) (Cells.Le.refl _) ac (by first | omega | (simp only [List.length_append, List.length_cons, List.length_nil, List.length_set]; omega)) (by first | omega | (simp only [List.length_append, List.length_cons, List.length_nil, List.length_set]; omega)) ?_
   intro ax aR aF aj au
   have n_v32_b19 := au ae (heap_lt ab) n_vo_b19
   have n_v32_b7 := au b7 (heap_lt aa) n_vo_b7
   replace E := E.grow aj (by omega)
   replace ac := Nat.le_trans ac aj.size
   replace K1 := K1.grow aj (by omega)
   replace aa := aj.get n_vo_b7 aa
   replace ab := aj.get n_vo_b19 ab
   clear aj au
   refine sA ax rfl <| s_nil <| W.region rfl <| sR _ _ (i + 1) rfl rfl rfl (by omega) <| sM (I (i + 1)) rfl <| s_nil ?_
   exact ⟨_, (by omega), i+1, ax, _, upds_of _ _ ⟨rfl, rfl, rfl, rfl, (eqI (by omega)), trivial⟩, rfl, E, K1, aa, ab, ac, (by rw [stT_next, if_pos (by simpa using ar)]; exact aF), n_v32_b7, n_v32_b19, (by omega)⟩
  skip
  refine W.skip <| W.region rfl <| sR _ _ (i + 1) rfl rfl rfl (by omega) <| sM (I (i + 1)) rfl <| s_nil ?_
  exact ⟨_, (by omega), i+1, vo, _, upds_of _ _ ⟨rfl, rfl, rfl, rfl, (eqI (by omega)), trivial⟩, rfl, E, K1, aa, ab, ac, (by rw [stT_next, if_neg (by simpa using ar)]; exact al), n_vo_b7, n_vo_b19, (by omega)⟩
 simp only [qz1, qz2, qz3, qz4, qz5, qz6, ne_eq, qz7] at ao
 refine W.exit ?_
 refine sQ rfl <| sM vo rfl <| sM (I 0) rfl <| sA vo rfl <| sA (I 0) rfl <| s_nil ?_
 refine W.ret ?_
 exact ⟨_, resE_tmp2 rfl, vo, (by rw [h6]; rfl), (by have hq := (al.dn (B' := w.heap.size) (by omega)).sl; rw [staleR_ok h6 ao aB] at hq; exact hq), E⟩

theorem Ready_any {vw vr : Value} {ws : List Work} {rev : List Int} (w : World) (hw : Sl w.cell? vw ws) (hr : Sl w.cell? vr rev) : Ret Try.prog 36 #[vw, vr] w fun v w' => ∃ u, v = .tuple #[u, I (askedE ws rev)] /\ Sl (frm w' w.heap.size) u (readyR ws rev) /\ Ext w w' := by
 refine ret_of_W Try.func36 rfl rfl rfl ?_
 have E := Ext.refl w
 have K1 := KF.refl 0 w
 have aw := hw.len_le
 have hw := hw.par
 have ax := hr.len_le
 have hr := hr.par
 refine sQ rfl <| sA (.slice none 0 0) rfl <| sA (I 0) rfl <| s_nil <| sQ rfl <| sM vw rfl <| sM vr rfl ?_
 refine s_call cf92 [vw, vr] rfl (asked_any _ (hw.to K1) (hr.to K1)) ?_
 rintro _ w2 (⟨h4, rfl, x5⟩ | ⟨h6, b7, so8, rfl, n9, aj⟩)
 ·replace E := E.trans x5
  replace K1 := K1.ext x5
  refine sM (.tuple #[.pointer none, .slice none 0 0, .agg (encB (List.replicate 30 false)).toArray, I (askedE ws rev)]) rfl <| sX [.pointer none, .slice none 0 0, .agg (encB (List.replicate 30 false)).toArray, I (askedE ws rev)] (.pointer none) rfl rfl <| sX [.pointer none, .slice none 0 0, .agg (encB (List.replicate 30 false)).toArray, I (askedE ws rev)] (.slice none 0 0) rfl rfl <| sX [.pointer none, .slice none 0 0, .agg (encB (List.replicate 30 false)).toArray, I (askedE ws rev)] (.agg (encB (List.replicate 30 false)).toArray) rfl rfl <| sX [.pointer none, .slice none 0 0, .agg (encB (List.replicate 30 false)).toArray, I (askedE ws rev)] (I (askedE ws rev)) rfl rfl ?_
  refine s_alloc (cs := encB (List.replicate 30 false)) Al141 rfl ?_
  intro ao ay Nb11
  have o_K1_b11 := Nat.le_trans K1.size Nb11.ge
  have o_b11 := Nat.le_trans E.size Nb11.ge
  replace E := E.trans Nb11.ext
  replace K1 := K1.ext Nb11.ext
  have ak := Nb11.same
  clear Nb11
  have ap : (List.replicate 30 false).length = 30 := by simp
  refine sA (.pointer none) rfl <| sA (.slice none 0 0) rfl ?_
  refine s_stArrA (b := ao) (l := List.replicate 30 false) (l' := List.replicate 30 false) rfl rfl Sz141 ak ap (List.length_replicate) ?_
  intro az ag
  replace E := E.put (by omega) ag
  replace K1 := K1.put ag (by omega)
  replace ak := ag.same
  clear ag
  refine sA (I (askedE ws rev)) rfl <| s_nil <| W.seq <| sQ rfl <| sM (I (askedE ws rev)) rfl <| sC _ _ ((askedE ws rev : Int) != 0) rfl rfl rfl <| s_nil ?_
  refine W.cond ((askedE ws rev : Int) != 0) rfl (fun ah => ?_) (fun ah => ?_)
  ·simp only [qz1, qz2, qz3, qz4, qz5, qz6, ne_eq, qz7] at ah
   refine sQ rfl <| sM (I (askedE ws rev)) rfl <| sA (.slice none 0 0) rfl <| sA (I (askedE ws rev)) rfl <| s_nil ?_
   refine W.ret ?_
   exact ⟨_, resE_tmp2 rfl, .slice none 0 0, rfl, (by rw [readyR_no h4]; exact Sl.nil _), E⟩
  simp only [qz1, qz2, qz3, qz4, qz5, qz6, ne_eq, qz7] at ah
  exact absurd ah h4
 have hO := (asked_ok h6).1
 have hR := opened_right hO
 have aA := (right_len hR).2
 have hn1 := (right_len hR).1
 have aB := staleL_len ws rev
 have sz_w2 := E.size
 have o_K1_b7 := Nat.le_trans K1.size n9.ge
 have o_b7 := Nat.le_trans E.size n9.ge
 replace E := E.trans n9.ext
 replace K1 := K1.ext n9.ext
 have aa := n9.same
 clear n9
 have aC := aj.len_le
 have K16 := KF.refl w.heap.size w2
 refine sM (.tuple #[Pz b7, so8, .agg (encB (staleL ws rev)).toArray, I 0]) rfl <| sX [Pz b7, so8, .agg (encB (staleL ws rev)).toArray, I 0] (Pz b7) rfl rfl <| sX [Pz b7, so8, .agg (encB (staleL ws rev)).toArray, I 0] so8 rfl rfl <| sX [Pz b7, so8, .agg (encB (staleL ws rev)).toArray, I 0] (.agg (encB (staleL ws rev)).toArray) rfl rfl <| sX [Pz b7, so8, .agg (encB (staleL ws rev)).toArray, I 0] (I 0) rfl rfl ?_
 refine s_alloc (cs := encB (List.replicate 30 false)) Al141 rfl ?_
 intro aq aD Nb17
 have o_K1_b17 := Nat.le_trans K1.size Nb17.ge
 have o_K16_b17 := Nat.le_trans K16.size Nb17.ge
 have o_b17 := Nat.le_trans E.size Nb17.ge
 have o_b7_b17 := Nat.lt_of_lt_of_le (heap_lt aa) Nb17.ge
 replace E := E.trans Nb17.ext
 replace K1 := K1.ext Nb17.ext
 replace K16 := K16.ext Nb17.ext
 replace aa := Nb17.ext.get aa
 have ab := Nb17.same
 clear Nb17
 have ar : (List.replicate 30 false).length = 30 := by simp
 refine sA (Pz b7) rfl <| sA so8 rfl ?_
 refine s_stArrA (b := aq) (l := List.replicate 30 false) (l' := staleL ws rev) rfl rfl Sz141 ab ar (staleL_len ws rev) ?_
 intro au ac
 replace E := E.put (by omega) ac
 replace K1 := K1.put ac (by omega)
 replace K16 := K16.put ac (by omega)
 replace aa := ac.get (by omega) aa
 replace ab := ac.same
 clear ac
 refine sA (I 0) rfl <| s_nil <| W.seq <| sQ rfl <| sM (I 0) rfl <| sC _ _ ((0 : Int) != 0) rfl rfl rfl <| s_nil ?_
 refine W.cond ((0 : Int) != 0) rfl (fun ai => ?_) (fun ai => ?_)
 ·simp only [qz1, qz2, qz3, qz4, qz5, qz6, ne_eq, qz7] at ai
  exact absurd ai (by decide)
 simp only [qz1, qz2, qz3, qz4, qz5, qz6, ne_eq, qz7] at ai
 refine W.skip <| sQ rfl <| sM vw rfl <| sM so8 rfl <| s_val (x_ld (v := .agg (encB (staleL ws rev)).toArray) rfl (ldArrA Ag141 Sz141 (staleL_len ws rev) ab)) ?_
 refine s_call cf99 [vw, so8, .agg (encB (staleL ws rev)).toArray] rfl (ready_any _ (hw.to K1) (aj.to K16) (staleL_len ws rev) hR (order_rng _) (by have := order_len ws; omega)) ?_
 have sz_w22 := E.size
 have lt_b7_w22 := heap_lt aa
 have lt_b17_w22 := heap_lt ab
 rintro al av ⟨am, ae⟩
 replace E := E.trans ae
 replace K1 := K1.ext ae
 replace K16 := K16.ext ae
 replace aa := ae.get aa
 replace ab := ae.get ab
 clear ae
 have aE := am.len_le
 have K26 := KF.refl au.heap.size av
 refine sA al rfl <| sA (I 0) rfl <| s_nil ?_
 refine W.ret ?_
 exact ⟨_, resE_tmp2 rfl, al, (by rw [h6]; rfl), (by have hq := (am.kf K26).mono (frm_mono _ (lo' := w.heap.size) (by omega)); rw [readyR_ok h6] at hq; exact hq), E⟩

end Go.Proofs.Ytndobgodeicloaa
end
section
set_option maxRecDepth 100000
set_option maxHeartbeats 16000000
namespace Go.Proofs.Ytndobgodeicloaa
open Go Go.Nm
theorem max_int {vl : Value} {l : List Int} (w : World) (hl : Sl w.cell? vl l) (h1 : 1 <= l.length) : Ret Try.prog 101 #[vl] w fun v w' => v = I (maxT l l.length) /\ Ext w w' := by
 refine ret_of_W Try.func101 rfl rfl rfl ?_
 have E := Ext.refl w
 have K1 := KF.refl 0 w
 have aa := hl.len_le
 have hl := hl.par
 refine sQ rfl <| sA (I 0) rfl <| s_nil <| W.seq <| sQ rfl <| sM vl rfl <| s_val (x_lenS T34.und rfl (hl.to K1)) <| sC _ _ (decide ((l.length : Int) < 1)) rfl rfl rfl <| s_nil ?_
 refine W.cond (decide ((l.length : Int) < 1)) rfl (fun c2 => ?_) (fun c2 => ?_)
 ·simp only [qz1, qz2, qz3, qz4, qz5, qz6, ne_eq, qz7] at c2
  exfalso; omega
 simp only [qz1, qz2, qz3, qz4, qz5, qz6, ne_eq, qz7] at c2
 refine W.skip <| sQ rfl <| sM vl rfl <| s_val (x_ix (v := vat vl 1 (Int.toNat 0)) rfl rfl (Sl.ix (α := Int) T34.und T34.size (hl.to K1) (by omega) (by omega))) <| s_val (x_ld (v := I (l.getD 0 0)) rfl (ld_sc Sc3 (At.to (Int_at hl (i := 0) (by omega) (by omega)) K1))) <| sA (I (l.getD 0 0)) rfl <| s_nil <| W.seq <| sQ rfl <| sA (I 1) rfl ?_
 refine s_nil <| W.block ?_
 refine W.loop (fun m σ W => ∃ (i : Nat) (ρ : Env), σ = upds ρ [(0, vl), (3, I (maxT l i)), (4, I i)] /\ m = l.length - i /\ Ext w W /\ KF 0 w W /\ 1 <= i /\ i <= l.length) ?_ ?_
 ·exact ⟨_, 1, _, upds_of _ _ ⟨rfl, (eqI (maxT_one h1)), (eqI (by omega)), trivial⟩, rfl, E, K1, (Nat.le_refl _), (by omega)⟩
 rintro m σ w3 ⟨i, ρ, rfl, rfl, E, K1, ab, ac⟩
 refine W.seq <| sQ rfl <| sM (I i) rfl <| sM vl rfl <| s_val (x_lenS T34.und rfl (hl.to K1)) <| sC _ _ (decide ((i : Int) < l.length)) rfl rfl rfl <| s_nil ?_
 refine W.cond (decide ((i : Int) < l.length)) rfl (fun c4 => ?_) (fun c4 => ?_)
 ·simp only [qz1, qz2, qz3, qz4, qz5, qz6, ne_eq, qz7] at c4
  refine W.skip <| W.seq <| W.block <| W.region rfl <| sM (I (maxT l i)) rfl <| sM vl rfl <| sM (I i) rfl <| s_val (x_ix (v := vat vl 1 (Int.toNat i)) rfl rfl (Sl.ix (α := Int) T34.und T34.size (hl.to K1) (by omega) (by omega))) <| s_val (x_ld (v := I (l.getD i 0)) rfl (ld_sc Sc3 (At.to (Int_at hl (i := i) (by omega) (by omega)) K1))) <| s_val (x_max (kd := .i64) (a := maxT l i) (b := l.getD i 0) rfl rfl) <| sA (I (max (maxT l i) (l.getD i 0))) rfl <| s_nil ?_
  refine W.region rfl <| sM (I i) rfl <| sR _ _ (i + 1) rfl rfl rfl (by omega) <| sA (I (i + 1)) rfl <| s_nil ?_
  exact ⟨_, (by omega), i+1, _, upds_of _ _ ⟨rfl, (eqI (maxT_next l c4).symm), (eqI (by omega)), trivial⟩, rfl, E, K1, (by omega), (by omega)⟩
 simp only [qz1, qz2, qz3, qz4, qz5, qz6, ne_eq, qz7] at c4
 refine W.exit ?_
 refine sQ rfl <| sM (I (maxT l i)) rfl <| sA (I (maxT l i)) rfl <| s_nil ?_
 refine W.ret ?_
 exact ⟨_, resE_tmp rfl, (eqI (maxT_done l c4)), E⟩

theorem longest1 {b1 b2 b3 : Nat} {va vw : Value} {a : List Int} {ws : List Work} (x i : Int) (w : World) (aa : w.heap[b1]? = some (.cells #[va] 34 (0, 0))) (ab : w.heap[b2]? = some (.cells #[I i] 3 (0, 0))) (ac : w.heap[b3]? = some (.cells #[vw] 22 (0, 0))) (ha : Sl w.cell? va a) (hw : Sl w.cell? vw ws) (h0 : 0 <= x) (h1 : x < a.length) (hi0 : 0 <= i) (hi1 : i < a.length) (hi2 : i < ws.length) (hb : -1000000 <= a.getD (Int.toNat i) 0 - (ws.getD (Int.toNat i) default).minutes /\ a.getD (Int.toNat i) 0 - (ws.getD (Int.toNat i) default).minutes <= 1000000) : Ret Try.prog 103 #[I x, Pz b1, Pz b2, Pz b3] w fun v w' => v = B (a.getD (Int.toNat x) 0 == a.getD (Int.toNat i) 0 - (ws.getD (Int.toNat i) default).minutes) /\ Ext w w' := by
 refine ret_of_W Try.func103 rfl rfl rfl ?_
 have E := Ext.refl w
 have K1 := KF.refl 0 w
 have ae := ha.len_le
 have ha := ha.par
 have ag := hw.len_le
 have hw := hw.par
 refine sQ rfl <| sA (B false) rfl <| s_nil <| W.seq ?_
 refine W.draw (fun W => Ext w W /\ KF 0 w W /\ W.heap[b1]? = some (.cells #[va] 34 (0, 0)) /\ W.heap[b2]? = some (.cells #[I i] 3 (0, 0)) /\ W.heap[b3]? = some (.cells #[vw] 22 (0, 0))) [(0, true), (1, true), (2, true), (3, true), (4, true), (5, true), (6, true), (7, true), (8, true), (9, true), (10, true), (11, true), (12, true), (13, true), (14, true), (15, true)] mixed (by decide +kernel) rfl ?_
 intro w2 x3
 replace E := E.trans x3
 replace K1 := K1.ext x3
 replace aa := x3.get aa
 replace ab := x3.get ab
 replace ac := x3.get ac
 clear x3
 refine ⟨⟨E, K1, aa, ab, ac⟩, ?_⟩
 refine d_q rfl (fun w' hC => by obtain ⟨E, K1, aa, ab, ac⟩ := hC; exact x_ld (v := va) rfl (ldb_sc Sc34 aa rfl)) ?_
 refine d_q rfl (fun w' hC => by obtain ⟨E, K1, aa, ab, ac⟩ := hC; exact x_mv (v := I x) rfl) ?_
 refine d_q rfl (fun w' hC => by obtain ⟨E, K1, aa, ab, ac⟩ := hC; exact x_ix (v := vat va 1 (Int.toNat x)) rfl rfl (Sl.ix (α := Int) T34.und T34.size (ha.to K1) (by omega) (by omega))) ?_
 refine d_q rfl (fun w' hC => by obtain ⟨E, K1, aa, ab, ac⟩ := hC; exact x_ld (v := I (a.getD (Int.toNat x) 0)) rfl (ld_sc Sc3 (At.to (Int_at ha (i := x) (by omega) (by omega)) K1))) ?_
 refine d_q rfl (fun w' hC => by obtain ⟨E, K1, aa, ab, ac⟩ := hC; exact x_ld (v := va) rfl (ldb_sc Sc34 aa rfl)) ?_
 refine d_q rfl (fun w' hC => by obtain ⟨E, K1, aa, ab, ac⟩ := hC; exact x_ld (v := I i) rfl (ldb_sc Sc3 ab rfl)) ?_
 refine d_q rfl (fun w' hC => by obtain ⟨E, K1, aa, ab, ac⟩ := hC; exact x_ix (v := vat va 1 (Int.toNat i)) rfl rfl (Sl.ix (α := Int) T34.und T34.size (ha.to K1) (by omega) (by omega))) ?_
 refine d_q rfl (fun w' hC => by obtain ⟨E, K1, aa, ab, ac⟩ := hC; exact x_ld (v := I (a.getD (Int.toNat i) 0)) rfl (ld_sc Sc3 (At.to (Int_at ha (i := i) (by omega) (by omega)) K1))) ?_
 refine d_q rfl (fun w' hC => by obtain ⟨E, K1, aa, ab, ac⟩ := hC; exact x_ld (v := vw) rfl (ldb_sc Sc22 ac rfl)) ?_
 refine d_q rfl (fun w' hC => by obtain ⟨E, K1, aa, ab, ac⟩ := hC; exact x_ld (v := I i) rfl (ldb_sc Sc3 ab rfl)) ?_
 refine d_q rfl (fun w' hC => by obtain ⟨E, K1, aa, ab, ac⟩ := hC; exact x_ix (v := vat vw 3 (Int.toNat i)) rfl rfl (Sl.ix (α := Work) T22.und T22.size (hw.to K1) (by omega) (by omega))) ?_
 refine d_q rfl (fun w' hC => by obtain ⟨E, K1, aa, ab, ac⟩ := hC; exact x_fa (v := fat (vat vw 3 (Int.toNat i)) 2) rfl (fa_pl Fd60_2 Sz3 (Sl.pl (i := i) hw (by omega) (by omega)))) ?_
 refine d_q rfl (fun w' hC => by obtain ⟨E, K1, aa, ab, ac⟩ := hC; exact x_ld (v := I ((ws.getD (Int.toNat i) default).minutes)) rfl (ld_sc Sc3 (At.to (Work_at2 hw (i := i) (by omega) (by omega)) K1))) ?_
 refine d_q rfl (fun w' hC => by obtain ⟨E, K1, aa, ab, ac⟩ := hC; exact x_ari (r := (a.getD (Int.toNat i) 0) - ((ws.getD (Int.toNat i) default).minutes)) rfl rfl rfl (by omega)) ?_
 refine d_q rfl (fun w' hC => by obtain ⟨E, K1, aa, ab, ac⟩ := hC; exact x_cmp (kd := .i64) (r := ((a.getD (Int.toNat x) 0) : Int) == ((a.getD (Int.toNat i) 0) - ((ws.getD (Int.toNat i) default).minutes))) rfl rfl rfl) ?_
 refine d_q rfl (fun w' hC => by obtain ⟨E, K1, aa, ab, ac⟩ := hC; exact x_as (v := B (((a.getD (Int.toNat x) 0) : Int) == ((a.getD (Int.toNat i) 0) - ((ws.getD (Int.toNat i) default).minutes)))) rfl) ?_
 refine d_nil ?_
 refine W.ret ?_
 exact ⟨_, resE_tmp rfl, rfl, E⟩

theorem Longest_any {vw vr : Value} {ws : List Work} {rev : List Int} (w : World) (hw : Sl w.cell? vw ws) (hr : Sl w.cell? vr rev) : Ret Try.prog 38 #[vw, vr] w fun v w' => ∃ u, v = .tuple #[u, I (longestE ws rev)] /\ Sl (frm w' w.heap.size) u (longestR ws rev) /\ Ext w w' := by
 refine ret_of_W Try.func38 rfl rfl rfl ?_
 have E := Ext.refl w
 have K1 := KF.refl 0 w
 have cB := hw.len_le
 have hw := hw.par
 have cC := hr.len_le
 have hr := hr.par
 refine sQ rfl ?_
 refine s_box (v := vw) (cs := [vw]) rfl (Sl.cells (hw.to K1)) ?_
 intro b2 w3 Nb2
 have o_K1_b2 := Nat.le_trans K1.size Nb2.ge
 have o_b2 := Nat.le_trans E.size Nb2.ge
 replace E := E.trans Nb2.ext
 replace K1 := K1.ext Nb2.ext
 have aa := Nb2.same
 clear Nb2
 refine sA (.slice none 0 0) rfl <| sA (I 0) rfl <| s_nil <| sQ rfl <| s_val (x_ld (v := vw) rfl (ldb_sc Sc22 aa rfl)) <| sM vr rfl ?_
 refine s_call cf92 [vw, vr] rfl (asked_any _ (hw.to K1) (hr.to K1)) ?_
 rintro _ w4 (⟨h6, rfl, x7⟩ | ⟨h8, b9, aZ, rfl, bb, bO⟩)
 ·replace E := E.trans x7
  replace K1 := K1.ext x7
  replace aa := x7.get aa
  refine sM (.tuple #[.pointer none, .slice none 0 0, .agg (encB (List.replicate 30 false)).toArray, I (askedE ws rev)]) rfl <| sX [.pointer none, .slice none 0 0, .agg (encB (List.replicate 30 false)).toArray, I (askedE ws rev)] (.pointer none) rfl rfl <| sX [.pointer none, .slice none 0 0, .agg (encB (List.replicate 30 false)).toArray, I (askedE ws rev)] (.slice none 0 0) rfl rfl <| sX [.pointer none, .slice none 0 0, .agg (encB (List.replicate 30 false)).toArray, I (askedE ws rev)] (.agg (encB (List.replicate 30 false)).toArray) rfl rfl <| sX [.pointer none, .slice none 0 0, .agg (encB (List.replicate 30 false)).toArray, I (askedE ws rev)] (I (askedE ws rev)) rfl rfl ?_
  refine s_alloc (cs := encB (List.replicate 30 false)) Al141 rfl ?_
  intro ca cD Nb13
  have o_K1_b13 := Nat.le_trans K1.size Nb13.ge
  have o_b13 := Nat.le_trans E.size Nb13.ge
  have o_b2_b13 := Nat.lt_of_lt_of_le (heap_lt aa) Nb13.ge
  replace E := E.trans Nb13.ext
  replace K1 := K1.ext Nb13.ext
  replace aa := Nb13.ext.get aa
  have bP := Nb13.same
  clear Nb13
  have cb : (List.replicate 30 false).length = 30 := by simp
  refine sA (.pointer none) rfl <| sA (.slice none 0 0) rfl ?_
  refine s_stArrA (b := ca) (l := List.replicate 30 false) (l' := List.replicate 30 false) rfl rfl Sz141 bP cb (List.length_replicate) ?_
  intro cE bv
  replace E := E.put (by omega) bv
  replace K1 := K1.put bv (by omega)
  replace aa := bv.get (by omega) aa
  replace bP := bv.same
  clear bv
  refine sA (I (askedE ws rev)) rfl <| s_nil <| W.seq <| W.block <| sQ rfl <| sM (I (askedE ws rev)) rfl <| sC _ _ ((askedE ws rev : Int) != 0) rfl rfl rfl <| sA (B ((askedE ws rev : Int) != 0)) rfl <| s_nil ?_
  refine W.cond ((askedE ws rev : Int) != 0) rfl (fun bA => ?_) (fun bA => ?_)
  ·simp only [qz1, qz2, qz3, qz4, qz5, qz6, ne_eq, qz7] at bA
   refine sQ rfl <| sM (I (askedE ws rev)) rfl <| sA (.slice none 0 0) rfl <| sA (I (askedE ws rev)) rfl <| s_nil ?_
   refine W.ret ?_
   exact ⟨_, resE_tmp2 rfl, .slice none 0 0, (by rw [(longest_wrong h6).1]; rfl), (by rw [(longest_wrong h6).2]; exact Sl.nil _), E⟩
  simp only [qz1, qz2, qz3, qz4, qz5, qz6, ne_eq, qz7] at bA
  exact absurd bA h6
 have hO := (asked_ok h8).1
 have hR := opened_right hO
 have cF := (right_len hR).2
 have hn1 := (right_len hR).1
 have cG := staleL_len ws rev
 have sz_w4 := E.size
 have lt_b2_w4 := heap_lt aa
 have o_K1_b9 := Nat.le_trans K1.size bb.ge
 have o_b9 := Nat.le_trans E.size bb.ge
 have o_b2_b9 := Nat.lt_of_lt_of_le (heap_lt aa) bb.ge
 replace E := E.trans bb.ext
 replace K1 := K1.ext bb.ext
 replace aa := bb.ext.get aa
 have ab := bb.same
 clear bb
 have cH := bO.len_le
 have K18 := KF.refl w3.heap.size w4
 refine sM (.tuple #[Pz b9, aZ, .agg (encB (staleL ws rev)).toArray, I 0]) rfl <| sX [Pz b9, aZ, .agg (encB (staleL ws rev)).toArray, I 0] (Pz b9) rfl rfl <| sX [Pz b9, aZ, .agg (encB (staleL ws rev)).toArray, I 0] aZ rfl rfl <| sX [Pz b9, aZ, .agg (encB (staleL ws rev)).toArray, I 0] (.agg (encB (staleL ws rev)).toArray) rfl rfl <| sX [Pz b9, aZ, .agg (encB (staleL ws rev)).toArray, I 0] (I 0) rfl rfl ?_
 refine s_alloc (cs := encB (List.replicate 30 false)) Al141 rfl ?_
 intro ar cI Nb19
 have o_K1_b19 := Nat.le_trans K1.size Nb19.ge
 have o_K18_b19 := Nat.le_trans K18.size Nb19.ge
 have o_b19 := Nat.le_trans E.size Nb19.ge
 have o_b2_b19 := Nat.lt_of_lt_of_le (heap_lt aa) Nb19.ge
 have o_b9_b19 := Nat.lt_of_lt_of_le (heap_lt ab) Nb19.ge
 replace E := E.trans Nb19.ext
 replace K1 := K1.ext Nb19.ext
 replace K18 := K18.ext Nb19.ext
 replace aa := Nb19.ext.get aa
 replace ab := Nb19.ext.get ab
 have ac := Nb19.same
 clear Nb19
 have cc : (List.replicate 30 false).length = 30 := by simp
 refine sA (Pz b9) rfl <| sA aZ rfl ?_
 refine s_stArrA (b := ar) (l := List.replicate 30 false) (l' := staleL ws rev) rfl rfl Sz141 ac cc (staleL_len ws rev) ?_
 intro bc bj
 replace E := E.put (by omega) bj
 replace K1 := K1.put bj (by omega)
 replace K18 := K18.put bj (by omega)
 replace aa := bj.get (by omega) aa
 replace ab := bj.get (by omega) ab
 replace ac := bj.same
 clear bj
 refine sA (I 0) rfl <| s_nil <| W.seq <| W.block <| sQ rfl <| sM (I 0) rfl <| sC _ _ ((0 : Int) != 0) rfl rfl rfl <| sA (B ((0 : Int) != 0)) rfl <| s_nil ?_
 refine W.cond ((0 : Int) != 0) rfl (fun bB => ?_) (fun bB => ?_)
 ·simp only [qz1, qz2, qz3, qz4, qz5, qz6, ne_eq, qz7] at bB
  exact absurd bB (by decide)
 simp only [qz1, qz2, qz3, qz4, qz5, qz6, ne_eq, qz7] at bB
 refine sQ rfl <| sM vr rfl <| s_val (x_lenS T34.und rfl (hr.to K1)) <| sC _ _ ((rev.length : Int) == 0) rfl rfl rfl <| sA (B ((rev.length : Int) == 0)) rfl <| s_nil ?_
 refine W.cond ((rev.length : Int) == 0) rfl (fun au => ?_) (fun au => ?_)
 ·simp only [qz1, qz2, qz3, qz4, qz5, qz6, ne_eq, qz7] at au
  refine sQ rfl <| sA (.slice none 0 0) rfl <| sA (I 5) rfl <| s_nil ?_
  refine W.ret ?_
  exact ⟨_, resE_tmp2 rfl, .slice none 0 0, (by rw [(longest_none h8 au).1]; rfl), (by rw [(longest_none h8 au).2]; exact Sl.nil _), E⟩
 simp only [qz1, qz2, qz3, qz4, qz5, qz6, ne_eq, qz7] at au
 have hal := readyL_len ws (orderP ws) (staleL ws rev)
 have hla := lastL_rng (a := readyL ws (orderP ws) (staleL ws rev)) (by omega)
 refine W.skip <| sQ rfl <| s_val (x_ld (v := vw) rfl (ldb_sc Sc22 aa rfl)) <| sM aZ rfl <| s_val (x_ld (v := .agg (encB (staleL ws rev)).toArray) rfl (ldArrA Ag141 Sz141 (staleL_len ws rev) ac)) ?_
 refine s_call cf99 [vw, aZ, .agg (encB (staleL ws rev)).toArray] rfl (ready_any _ (hw.to K1) (bO.to K18) (staleL_len ws rev) hR (order_rng _) (by have := order_len ws; omega)) ?_
 have sz_w25 := E.size
 have lt_b2_w25 := heap_lt aa
 have lt_b9_w25 := heap_lt ab
 have lt_b19_w25 := heap_lt ac
 rintro al bf ⟨aq, bk⟩
 replace E := E.trans bk
 replace K1 := K1.ext bk
 replace K18 := K18.ext bk
 replace aa := bk.get aa
 replace ab := bk.get ab
 replace ac := bk.get ac
 clear bk
 have cJ := aq.len_le
 have K29 := KF.refl bc.heap.size bf
 refine s_alloc (cs := [.slice none 0 0]) Al34 rfl ?_
 intro ak cK Nb30
 have o_K1_b30 := Nat.le_trans K1.size Nb30.ge
 have o_K18_b30 := Nat.le_trans K18.size Nb30.ge
 have o_K29_b30 := Nat.le_trans K29.size Nb30.ge
 have o_b30 := Nat.le_trans E.size Nb30.ge
 have o_b2_b30 := Nat.lt_of_lt_of_le (heap_lt aa) Nb30.ge
 have o_b9_b30 := Nat.lt_of_lt_of_le (heap_lt ab) Nb30.ge
 have o_b19_b30 := Nat.lt_of_lt_of_le (heap_lt ac) Nb30.ge
 replace E := E.trans Nb30.ext
 replace K1 := K1.ext Nb30.ext
 replace K18 := K18.ext Nb30.ext
 replace K29 := K29.ext Nb30.ext
 replace aa := Nb30.ext.get aa
 replace ab := Nb30.ext.get ab
 replace ac := Nb30.ext.get ac
 have ae := Nb30.same
 clear Nb30
 refine s_st (b := ak) (off := 0) (vs := [al]) (cs' := [al]) (v := al) rfl rfl Sz34 ae (Sl.cells (aq.to K29)) rfl rfl (by simp only [List.all_cons, List.all_nil, Bool.true_and, Bool.and_true, Sl.oc (aq.to K29)]; try rfl) rfl ?_
 intro cL a6
 replace E := E.put (by omega) a6
 replace K1 := K1.put a6 (by omega)
 replace K18 := K18.put a6 (by omega)
 replace K29 := K29.put a6 (by omega)
 replace aa := a6.get (by omega) aa
 replace ab := a6.get (by omega) ab
 replace ac := a6.get (by omega) ac
 replace ae := a6.same
 clear a6
 refine s_nil <| W.seq ?_
 refine W.drawT (fun W => Ext w W /\ KF 0 w W /\ KF w3.heap.size w4 W /\ KF bc.heap.size bf W /\ W.heap[b2]? = some (.cells #[vw] 22 (0, 0)) /\ W.heap[b9]? = some (.cells #[vw] 187 (0, 0)) /\ W.heap[ar]? = some (.cells (encB (staleL ws rev)).toArray 141 (0, 0)) /\ W.heap[ak]? = some (.cells #[al] 34 (0, 0))) (.q 0 (.q 1 (.l2 2 (.l2 3 (.l 4 (.l 5 .nil)) 4 (.l 3 (.l 5 .nil))) 4 (.l 2 (.l 3 (.l 5 .nil)))))) mixed (by decide +kernel) rfl ?_
 intro cM a7
 replace E := E.trans a7
 replace K1 := K1.ext a7
 replace K18 := K18.ext a7
 replace K29 := K29.ext a7
 replace aa := a7.get aa
 replace ab := a7.get ab
 replace ac := a7.get ac
 replace ae := a7.get ae
 clear a7
 refine ⟨⟨E, K1, K18, K29, aa, ab, ac, ae⟩, ?_⟩
 refine t_q rfl (fun w' hC => by obtain ⟨E, K1, K18, K29, aa, ab, ac, ae⟩ := hC; exact x_ld (v := al) rfl (ldb_sc Sc34 ae rfl)) ?_
 refine t_q rfl (fun w' hC => by obtain ⟨E, K1, K18, K29, aa, ab, ac, ae⟩ := hC; exact x_ld (v := al) rfl (ldb_sc Sc34 ae rfl)) ?_
 refine t_l2 rfl rfl ?_ ?_
 ·refine s_call cf101 [al] rfl (max_int _ (aq.to K29) (by omega)) ?_
  rintro _ cN ⟨rfl, a8⟩
  replace E := E.trans a8
  replace K1 := K1.ext a8
  replace K18 := K18.ext a8
  replace K29 := K29.ext a8
  replace aa := a8.get aa
  replace ab := a8.get ab
  replace ac := a8.get ac
  replace ae := a8.get ae
  clear a8
  refine s_nil ⟨⟨E, K1, K18, K29, aa, ab, ac, ae⟩, ?_⟩
  refine t_l2 rfl rfl ?_ ?_
  ·refine s_call cf100 [al, I (maxT (readyL ws (orderP ws) (staleL ws rev)) (readyL ws (orderP ws) (staleL ws rev)).length)] rfl (index_int (maxT (readyL ws (orderP ws) (staleL ws rev)) (readyL ws (orderP ws) (staleL ws rev)).length) _ (aq.to K29)) ?_
   rintro _ cO ⟨rfl, ba⟩
   replace E := E.trans ba
   replace K1 := K1.ext ba
   replace K18 := K18.ext ba
   replace K29 := K29.ext ba
   replace aa := ba.get aa
   replace ab := ba.get ab
   replace ac := ba.get ac
   replace ae := ba.get ae
   clear ba
   refine s_nil ⟨⟨E, K1, K18, K29, aa, ab, ac, ae⟩, ?_⟩
   refine t_l rfl ?_
   refine s_alloc (cs := [I 0]) Al3 rfl ?_
   intro aK cP Nb40
   have o_K1_b40 := Nat.le_trans K1.size Nb40.ge
   have o_K18_b40 := Nat.le_trans K18.size Nb40.ge
   have o_K29_b40 := Nat.le_trans K29.size Nb40.ge
   have o_b40 := Nat.le_trans E.size Nb40.ge
   have o_b2_b40 := Nat.lt_of_lt_of_le (heap_lt aa) Nb40.ge
   have o_b9_b40 := Nat.lt_of_lt_of_le (heap_lt ab) Nb40.ge
   have o_b19_b40 := Nat.lt_of_lt_of_le (heap_lt ac) Nb40.ge
   have o_b30_b40 := Nat.lt_of_lt_of_le (heap_lt ae) Nb40.ge
   replace E := E.trans Nb40.ext
   replace K1 := K1.ext Nb40.ext
   replace K18 := K18.ext Nb40.ext
   replace K29 := K29.ext Nb40.ext
   replace aa := Nb40.ext.get aa
   replace ab := Nb40.ext.get ab
   replace ac := Nb40.ext.get ac
   replace ae := Nb40.ext.get ae
   have aj := Nb40.same
   clear Nb40
   refine s_nil ⟨⟨E, K1, K18, K29, aa, ab, ac, ae⟩, ?_⟩
   refine t_l rfl ?_
   refine s_st (b := aK) (off := 0) (vs := [I (idxI (readyL ws (orderP ws) (staleL ws rev)) (maxT (readyL ws (orderP ws) (staleL ws rev)) (readyL ws (orderP ws) (staleL ws rev)).length))]) (cs' := [I (idxI (readyL ws (orderP ws) (staleL ws rev)) (maxT (readyL ws (orderP ws) (staleL ws rev)) (readyL ws (orderP ws) (staleL ws rev)).length))]) (v := I (idxI (readyL ws (orderP ws) (staleL ws rev)) (maxT (readyL ws (orderP ws) (staleL ws rev)) (readyL ws (orderP ws) (staleL ws rev)).length))) rfl rfl Sz3 aj rfl rfl rfl rfl rfl ?_
   intro bC aL
   replace E := E.put (by omega) aL
   replace K1 := K1.put aL (by omega)
   replace K18 := K18.put aL (by omega)
   replace K29 := K29.put aL (by omega)
   replace aa := aL.get (by omega) aa
   replace ab := aL.get (by omega) ab
   replace ac := aL.get (by omega) ac
   replace ae := aL.get (by omega) ae
   replace aj := aL.same
   clear aL
   refine s_nil ⟨⟨E, K1, K18, K29, aa, ab, ac, ae⟩, ?_⟩
   refine t_nil ?_
   refine sQ rfl <| s_val (x_ld (v := I (idxI (readyL ws (orderP ws) (staleL ws rev)) (maxT (readyL ws (orderP ws) (staleL ws rev)) (readyL ws (orderP ws) (staleL ws rev)).length))) rfl (ldb_sc Sc3 aj rfl)) ?_
   refine s_bs1O (α := Int) T34 ((idxI (readyL ws (orderP ws) (staleL ws rev)) (maxT (readyL ws (orderP ws) (staleL ws rev)) (readyL ws (orderP ws) (staleL ws rev)).length) : Int)) rfl rfl rfl ?_
   intro bQ cQ bl av
   have n_v44_b2 := bl.ne' (heap_lt aa)
   have n_v44_b9 := bl.ne' (heap_lt ab)
   have n_v44_b19 := bl.ne' (heap_lt ac)
   have n_v44_b30 := bl.ne' (heap_lt ae)
   have n_v44_b40 := bl.ne' (heap_lt aj)
   have am := Nat.le_refl bC.heap.size
   have B_v44 := E.size
   have B_v44_K1 := K1.size
   have B_v44_K18 := K18.size
   have B_v44_K29 := K29.size
   replace E := E.trans av
   replace am := Nat.le_trans am av.size
   replace K1 := K1.ext av
   replace K18 := K18.ext av
   replace K29 := K29.ext av
   replace aa := av.get aa
   replace ab := av.get ab
   replace ac := av.get ac
   replace ae := av.get ae
   replace aj := av.get aj
   clear av
   refine sA bQ rfl <| s_nil <| W.seq <| W.block ?_
   refine W.loop (fun m σ W => ∃ (i : Int) (out : List Int) (f : Nat) (vo : Value) (ρ : Env), σ = upds ρ [(2, Pz b2), (10, Pz ak), (11, Pz aK), (12, vo)] /\ m = f + 1 /\ Ext w W /\ KF 0 w W /\ KF bc.heap.size bf W /\ W.heap[b2]? = some (.cells #[vw] 22 (0, 0)) /\ W.heap[b9]? = some (.cells #[vw] 187 (0, 0)) /\ W.heap[ar]? = some (.cells (encB (staleL ws rev)).toArray 141 (0, 0)) /\ W.heap[ak]? = some (.cells #[al] 34 (0, 0)) /\ W.heap[aK]? = some (.cells #[I i] 3 (0, 0)) /\ bC.heap.size <= W.heap.size /\ OwnF bC.heap.size 3 W vo out /\ vo.ownBlock ≠ some b2 /\ vo.ownBlock ≠ some b9 /\ vo.ownBlock ≠ some ar /\ vo.ownBlock ≠ some ak /\ vo.ownBlock ≠ some aK /\ 0 <= i /\ i < (ws.length : Int) /\ posO ws i <= f /\ longF ws (readyL ws (orderP ws) (staleL ws rev)) f i out = longF ws (readyL ws (orderP ws) (staleL ws rev)) ws.length (lastL (readyL ws (orderP ws) (staleL ws rev))) [lastL (readyL ws (orderP ws) (staleL ws rev))] /\ out.length + f <= ws.length + 1) ?_ ?_
   ·exact ⟨_, lastL (readyL ws (orderP ws) (staleL ws rev)), [lastL (readyL ws (orderP ws) (staleL ws rev))], ws.length, bQ, _, upds_of _ _ ⟨rfl, rfl, rfl, rfl, trivial⟩, rfl, E, K1, K29, aa, ab, ac, ae, aj, am, bl, n_v44_b2, n_v44_b9, n_v44_b19, n_v44_b30, n_v44_b40, hla.1, (by have := hla.2.1; omega), (Nat.le_of_lt (posO_le (order_all hO hla.1 (by have := hla.2.1; omega)))), rfl, (by simp; omega)⟩
   rintro m σ cR ⟨i, out, f, vo, ρ, rfl, rfl, E, K1, K29, aa, ab, ac, ae, aj, am, ag, n_vo_b2, n_vo_b9, n_vo_b19, n_vo_b30, n_vo_b40, bg, bh, bR, bi, bS⟩
   have hof := right_of hR (i := Int.toNat i) (by omega)
   have bT := right_nums hR (i := Int.toNat i) (by omega)
   have hai := readyL_at hR (staleL ws rev) (i := Int.toNat i) (by omega)
   refine W.seq <| W.seq ?_
   refine W.draw (fun W => Ext w W /\ KF 0 w W /\ KF bc.heap.size bf W /\ W.heap[b2]? = some (.cells #[vw] 22 (0, 0)) /\ W.heap[b9]? = some (.cells #[vw] 187 (0, 0)) /\ W.heap[ar]? = some (.cells (encB (staleL ws rev)).toArray 141 (0, 0)) /\ W.heap[ak]? = some (.cells #[al] 34 (0, 0)) /\ W.heap[aK]? = some (.cells #[I i] 3 (0, 0)) /\ OwnF bC.heap.size 3 W vo out) [(0, true), (1, true), (2, true), (3, true), (4, true), (5, true), (6, true), (7, true), (8, true), (9, true)] mixed (by decide +kernel) rfl ?_
   intro cS aw
   replace E := E.trans aw
   replace am := Nat.le_trans am aw.size
   replace K1 := K1.ext aw
   replace K29 := K29.ext aw
   replace aa := aw.get aa
   replace ab := aw.get ab
   replace ac := aw.get ac
   replace ae := aw.get ae
   replace aj := aw.get aj
   replace ag := ag.ext aw
   clear aw
   refine ⟨⟨E, K1, K29, aa, ab, ac, ae, aj, ag⟩, ?_⟩
   refine d_q rfl (fun w' hC => by obtain ⟨E, K1, K29, aa, ab, ac, ae, aj, ag⟩ := hC; exact x_ld (v := al) rfl (ldb_sc Sc34 ae rfl)) ?_
   refine d_q rfl (fun w' hC => by obtain ⟨E, K1, K29, aa, ab, ac, ae, aj, ag⟩ := hC; exact x_ld (v := I i) rfl (ldb_sc Sc3 aj rfl)) ?_
   refine d_q rfl (fun w' hC => by obtain ⟨E, K1, K29, aa, ab, ac, ae, aj, ag⟩ := hC; exact x_ix (v := vat al 1 (Int.toNat i)) rfl rfl (Sl.ix (α := Int) T34.und T34.size (aq.to K29) (by omega) (by omega))) ?_
   refine d_q rfl (fun w' hC => by obtain ⟨E, K1, K29, aa, ab, ac, ae, aj, ag⟩ := hC; exact x_ld (v := I ((readyL ws (orderP ws) (staleL ws rev)).getD (Int.toNat i) 0)) rfl (ld_sc Sc3 (At.to (Int_at aq (i := i) (by omega) (by omega)) K29))) ?_
   refine d_q rfl (fun w' hC => by obtain ⟨E, K1, K29, aa, ab, ac, ae, aj, ag⟩ := hC; exact x_ld (v := vw) rfl (ldb_sc Sc22 aa rfl)) ?_
   refine d_q rfl (fun w' hC => by obtain ⟨E, K1, K29, aa, ab, ac, ae, aj, ag⟩ := hC; exact x_ld (v := I i) rfl (ldb_sc Sc3 aj rfl)) ?_
   refine d_q rfl (fun w' hC => by obtain ⟨E, K1, K29, aa, ab, ac, ae, aj, ag⟩ := hC; exact x_ix (v := vat vw 3 (Int.toNat i)) rfl rfl (Sl.ix (α := Work) T22.und T22.size (hw.to K1) (by omega) (by omega))) ?_
   refine d_q rfl (fun w' hC => by obtain ⟨E, K1, K29, aa, ab, ac, ae, aj, ag⟩ := hC; exact x_fa (v := fat (vat vw 3 (Int.toNat i)) 2) rfl (fa_pl Fd60_2 Sz3 (Sl.pl (i := i) hw (by omega) (by omega)))) ?_
   refine d_q rfl (fun w' hC => by obtain ⟨E, K1, K29, aa, ab, ac, ae, aj, ag⟩ := hC; exact x_ld (v := I ((ws.getD (Int.toNat i) default).minutes)) rfl (ld_sc Sc3 (At.to (Work_at2 hw (i := i) (by omega) (by omega)) K1))) ?_
   refine d_q rfl (fun w' hC => by obtain ⟨E, K1, K29, aa, ab, ac, ae, aj, ag⟩ := hC; exact x_cmp (kd := .i64) (r := decide ((((ws.getD (Int.toNat i) default).minutes) : Int) < ((readyL ws (orderP ws) (staleL ws rev)).getD (Int.toNat i) 0))) rfl rfl rfl) ?_
   refine d_nil ?_
   refine W.cond (decide ((((ws.getD (Int.toNat i) default).minutes) : Int) < ((readyL ws (orderP ws) (staleL ws rev)).getD (Int.toNat i) 0))) rfl (fun bm => ?_) (fun bm => ?_)
   ·simp only [qz1, qz2, qz3, qz4, qz5, qz6, ne_eq, qz7] at bm
    have hnx := long_next hO bg bh bm
    have hnx1 := hnx.1
    have hnx2 := hnx.2.1
    refine W.skip <| W.block <| sQ rfl <| s_val (x_ld (v := vw) rfl (ldb_sc Sc22 aa rfl)) <| s_val (x_ld (v := I i) rfl (ldb_sc Sc3 aj rfl)) <| s_val (x_ix (v := vat vw 3 (Int.toNat i)) rfl rfl (Sl.ix (α := Work) T22.und T22.size (hw.to K1) (by omega) (by omega))) <| s_val (x_fa (v := fat (vat vw 3 (Int.toNat i)) 0) rfl (fa_pl Fd60_0 Sz34 (Sl.pl (i := i) hw (by omega) (by omega)))) ?_
    obtain ⟨bI, cd, bD⟩ := Work_at0 hw (i := i) (by omega) (by omega)
    replace bD : Sl _ bI (ws.getD (Int.toNat i) default).of := bD
    have cT := bD.len_le
    refine s_val (x_ld (v := bI) rfl (ld_sc Sc34 (At.to cd K1))) <| s_val (x_mf (fs := []) (cs := [Pz ak, Pz aK, Pz b2]) rfl rfl) ?_
    refine s_call cf102 [bI, .func (.func 103) #[] #[Pz ak, Pz aK, Pz b2]] rfl (indexFunc_int _ (bD.to K1) ⟨103, [Pz ak, Pz aK, Pz b2], rfl, cf103, fun w' v x hE hD hA => by obtain rfl := Arg.int hA; exact (longest1 _ _ _ (hE.get ae) (hE.get aj) (hE.get aa) ((aq.to K29).mono hE.le) ((hw.to K1).mono hE.le) (hof _ hD).1 (by have := (hof _ hD).2.1; omega) bg (by omega) bh (by omega))⟩) ?_
    rintro _ cU ⟨rfl, ax⟩
    replace E := E.trans ax
    replace am := Nat.le_trans am ax.size
    replace K1 := K1.ext ax
    replace K29 := K29.ext ax
    replace aa := ax.get aa
    replace ab := ax.get ab
    replace ac := ax.get ac
    replace ae := ax.get ae
    replace aj := ax.get aj
    replace ag := ag.ext ax
    clear ax
    refine sA (I (idxP (fun z_ : Int => (readyL ws (orderP ws) (staleL ws rev)).getD z_.toNat 0 == (readyL ws (orderP ws) (staleL ws rev)).getD (Int.toNat i) 0 - (ws.getD (Int.toNat i) default).minutes) ((ws.getD (Int.toNat i) default).of))) rfl <| s_nil <| sQ rfl <| s_val (x_ld (v := vw) rfl (ldb_sc Sc22 aa rfl)) <| s_val (x_ld (v := I i) rfl (ldb_sc Sc3 aj rfl)) <| s_val (x_ix (v := vat vw 3 (Int.toNat i)) rfl rfl (Sl.ix (α := Work) T22.und T22.size (hw.to K1) (by omega) (by omega))) <| s_val (x_fa (v := fat (vat vw 3 (Int.toNat i)) 0) rfl (fa_pl Fd60_0 Sz34 (Sl.pl (i := i) hw (by omega) (by omega)))) ?_
    obtain ⟨bJ, ce, bw⟩ := Work_at0 hw (i := i) (by omega) (by omega)
    replace bw : Sl _ bJ (ws.getD (Int.toNat i) default).of := bw
    have cV := bw.len_le
    refine s_val (x_ld (v := bJ) rfl (ld_sc Sc34 (At.to ce K1))) <| sM (I (idxP (fun z_ : Int => (readyL ws (orderP ws) (staleL ws rev)).getD z_.toNat 0 == (readyL ws (orderP ws) (staleL ws rev)).getD (Int.toNat i) 0 - (ws.getD (Int.toNat i) default).minutes) ((ws.getD (Int.toNat i) default).of))) rfl <| s_val (x_ix (v := vat bJ 1 (Int.toNat (idxP (fun z_ : Int => (readyL ws (orderP ws) (staleL ws rev)).getD z_.toNat 0 == (readyL ws (orderP ws) (staleL ws rev)).getD (Int.toNat i) 0 - (ws.getD (Int.toNat i) default).minutes) ((ws.getD (Int.toNat i) default).of)))) rfl rfl (Sl.ix (α := Int) T34.und T34.size (bw.to K1) (by omega) (by omega))) <| s_val (x_ld (v := I (((ws.getD (Int.toNat i) default).of).getD (Int.toNat (idxP (fun z_ : Int => (readyL ws (orderP ws) (staleL ws rev)).getD z_.toNat 0 == (readyL ws (orderP ws) (staleL ws rev)).getD (Int.toNat i) 0 - (ws.getD (Int.toNat i) default).minutes) ((ws.getD (Int.toNat i) default).of))) 0)) rfl (ld_sc Sc3 (At.to (Int_at bw (i := idxP (fun z_ : Int => (readyL ws (orderP ws) (staleL ws rev)).getD z_.toNat 0 == (readyL ws (orderP ws) (staleL ws rev)).getD (Int.toNat i) 0 - (ws.getD (Int.toNat i) default).minutes) ((ws.getD (Int.toNat i) default).of)) (by omega) (by omega)) K1))) ?_
    refine s_st (b := aK) (off := 0) (vs := [I (((ws.getD (Int.toNat i) default).of).getD (Int.toNat (idxP (fun z_ : Int => (readyL ws (orderP ws) (staleL ws rev)).getD z_.toNat 0 == (readyL ws (orderP ws) (staleL ws rev)).getD (Int.toNat i) 0 - (ws.getD (Int.toNat i) default).minutes) ((ws.getD (Int.toNat i) default).of))) 0)]) (cs' := [I (((ws.getD (Int.toNat i) default).of).getD (Int.toNat (idxP (fun z_ : Int => (readyL ws (orderP ws) (staleL ws rev)).getD z_.toNat 0 == (readyL ws (orderP ws) (staleL ws rev)).getD (Int.toNat i) 0 - (ws.getD (Int.toNat i) default).minutes) ((ws.getD (Int.toNat i) default).of))) 0)]) (v := I (((ws.getD (Int.toNat i) default).of).getD (Int.toNat (idxP (fun z_ : Int => (readyL ws (orderP ws) (staleL ws rev)).getD z_.toNat 0 == (readyL ws (orderP ws) (staleL ws rev)).getD (Int.toNat i) 0 - (ws.getD (Int.toNat i) default).minutes) ((ws.getD (Int.toNat i) default).of))) 0)) rfl rfl Sz3 aj rfl rfl rfl rfl rfl ?_
    intro bU ay
    replace E := E.put (by omega) ay
    replace am := Nat.le_trans am (Nat.le_of_eq ay.size.symm)
    replace K1 := K1.put ay (by omega)
    replace K29 := K29.put ay (by omega)
    replace aa := ay.get (by omega) aa
    replace ab := ay.get (by omega) ab
    replace ac := ay.get (by omega) ac
    replace ae := ay.get (by omega) ae
    replace ag := ag.put ay n_vo_b40
    replace aj := ay.same
    clear ay
    refine s_nil <| W.region rfl <| sM vo rfl <| s_val (x_ld (v := I (((ws.getD (Int.toNat i) default).of).getD (Int.toNat (idxP (fun z_ : Int => (readyL ws (orderP ws) (staleL ws rev)).getD z_.toNat 0 == (readyL ws (orderP ws) (staleL ws rev)).getD (Int.toNat i) 0 - (ws.getD (Int.toNat i) default).minutes) ((ws.getD (Int.toNat i) default).of))) 0)) rfl (ldb_sc Sc3 aj rfl)) ?_
    refine s_bsl (α := Int) T34 bU.heap.size [I (((ws.getD (Int.toNat i) default).of).getD (Int.toNat (idxP (fun z_ : Int => (readyL ws (orderP ws) (staleL ws rev)).getD z_.toNat 0 == (readyL ws (orderP ws) (staleL ws rev)).getD (Int.toNat i) 0 - (ws.getD (Int.toNat i) default).minutes) ((ws.getD (Int.toNat i) default).of))) 0)] [(((ws.getD (Int.toNat i) default).of).getD (Int.toNat (idxP (fun z_ : Int => (readyL ws (orderP ws) (staleL ws rev)).getD z_.toNat 0 == (readyL ws (orderP ws) (staleL ws rev)).getD (Int.toNat i) 0 - (ws.getD (Int.toNat i) default).minutes) ((ws.getD (Int.toNat i) default).of))) 0 : Int)] rfl (.cons rfl (Flat.rep_enc _ _) <| .nil) (Nat.le_refl _) rfl (by decide) (by decide) ?_
    intro cf cg ci az nn_u61
    replace E := E.trans az
    replace am := Nat.le_trans am az.size
    replace K1 := K1.ext az
    replace K29 := K29.ext az
    replace aa := az.get aa
    replace ab := az.get ab
    replace ac := az.get ac
    replace ae := az.get ae
    replace aj := az.get aj
    replace ag := ag.ext az
    clear az
    have K65 := KF.refl bU.heap.size cg
    refine s_app (α := Int) (v := vo) (vy := cf) (l := out) (l2 := [(((ws.getD (Int.toNat i) default).of).getD (Int.toNat (idxP (fun z_ : Int => (readyL ws (orderP ws) (staleL ws rev)).getD z_.toNat 0 == (readyL ws (orderP ws) (staleL ws rev)).getD (Int.toNat i) 0 - (ws.getD (Int.toNat i) default).minutes) ((ws.getD (Int.toNat i) default).of))) 0 : Int)]) T34 rfl rfl ag (ci.to K65) (Cells.Le.refl _) am (by first | omega | (simp only [List.length_append, List.length_cons, List.length_nil, List.length_set]; omega)) (by first | omega | (simp only [List.length_append, List.length_cons, List.length_nil, List.length_set]; omega)) ?_
    intro bV cW cj aM bn
    have n_v66_b19 := bn ar (heap_lt ac) n_vo_b19
    have n_v66_b2 := bn b2 (heap_lt aa) n_vo_b2
    have n_v66_b30 := bn ak (heap_lt ae) n_vo_b30
    have n_v66_b40 := bn aK (heap_lt aj) n_vo_b40
    have n_v66_b9 := bn b9 (heap_lt ab) n_vo_b9
    replace E := E.grow aM (by omega)
    replace am := Nat.le_trans am aM.size
    replace K1 := K1.grow aM (by omega)
    replace K29 := K29.grow aM (by omega)
    replace aa := aM.get n_vo_b2 aa
    replace ab := aM.get n_vo_b9 ab
    replace ac := aM.get n_vo_b19 ac
    replace ae := aM.get n_vo_b30 ae
    replace aj := aM.get n_vo_b40 aj
    clear aM bn
    refine sA bV rfl <| s_nil ?_
    exact ⟨_, (by have := hnx.2.2.2.2.1; omega), nextL ws (readyL ws (orderP ws) (staleL ws rev)) i, (out ++ [nextL ws (readyL ws (orderP ws) (staleL ws rev)) i]), (f - 1), bV, _, upds_of _ _ ⟨rfl, rfl, rfl, rfl, trivial⟩, rfl, E, K1, K29, aa, ab, ac, ae, aj, am, cj, n_v66_b2, n_v66_b9, n_v66_b19, n_v66_b30, n_v66_b40, hnx.2.2.1, hnx.2.2.2.1, (by have := hnx.2.2.2.2.1; omega), (by rw [← longF_step (by have := hnx.2.2.2.2.1; omega) bm]; exact bi), (by have := hnx.2.2.2.2.1; simp only [List.length_append, List.length_singleton]; omega)⟩
   simp only [qz1, qz2, qz3, qz4, qz5, qz6, ne_eq, qz7] at bm
   refine W.exit ?_
   refine sQ rfl <| sM vo rfl ?_
   refine s_call cf104 [vo] rfl (reverse_any ag) ?_
   rintro _ cX ⟨rfl, ck, aN⟩
   replace E := E.grow aN (by omega)
   replace am := Nat.le_trans am aN.size
   replace K1 := K1.grow aN (by omega)
   replace K29 := K29.grow aN (by omega)
   replace aa := aN.get n_vo_b2 aa
   replace ab := aN.get n_vo_b9 ab
   replace ac := aN.get n_vo_b19 ac
   replace ae := aN.get n_vo_b30 ae
   replace aj := aN.get n_vo_b40 aj
   replace ag := ck
   clear aN
   refine s_nil <| sQ rfl <| sM vo rfl <| sA vo rfl <| sA (I 0) rfl <| s_nil ?_
   refine W.ret ?_
   exact ⟨_, resE_tmp2 rfl, vo, (by rw [(longest_ok h8 au).1]; rfl), (by have hq := (ag.dn (B' := w.heap.size) (by omega)).sl; rw [(longest_ok h8 au).2]; unfold longL; rw [← bi, longF_end bm]; exact hq), E⟩
  refine s_alloc (cs := [I 0]) Al3 rfl ?_
  intro aO cY Nb76
  have o_K1_b76 := Nat.le_trans K1.size Nb76.ge
  have o_K18_b76 := Nat.le_trans K18.size Nb76.ge
  have o_K29_b76 := Nat.le_trans K29.size Nb76.ge
  have o_b76 := Nat.le_trans E.size Nb76.ge
  have o_b2_b76 := Nat.lt_of_lt_of_le (heap_lt aa) Nb76.ge
  have o_b9_b76 := Nat.lt_of_lt_of_le (heap_lt ab) Nb76.ge
  have o_b19_b76 := Nat.lt_of_lt_of_le (heap_lt ac) Nb76.ge
  have o_b30_b76 := Nat.lt_of_lt_of_le (heap_lt ae) Nb76.ge
  replace E := E.trans Nb76.ext
  replace K1 := K1.ext Nb76.ext
  replace K18 := K18.ext Nb76.ext
  replace K29 := K29.ext Nb76.ext
  replace aa := Nb76.ext.get aa
  replace ab := Nb76.ext.get ab
  replace ac := Nb76.ext.get ac
  replace ae := Nb76.ext.get ae
  have ai := Nb76.same
  clear Nb76
  refine s_nil ⟨⟨E, K1, K18, K29, aa, ab, ac, ae⟩, ?_⟩
  refine t_l rfl ?_
  refine s_call cf100 [al, I (maxT (readyL ws (orderP ws) (staleL ws rev)) (readyL ws (orderP ws) (staleL ws rev)).length)] rfl (index_int (maxT (readyL ws (orderP ws) (staleL ws rev)) (readyL ws (orderP ws) (staleL ws rev)).length) _ (aq.to K29)) ?_
  rintro _ cZ ⟨rfl, aP⟩
  replace E := E.trans aP
  replace K1 := K1.ext aP
  replace K18 := K18.ext aP
  replace K29 := K29.ext aP
  replace aa := aP.get aa
  replace ab := aP.get ab
  replace ac := aP.get ac
  replace ae := aP.get ae
  replace ai := aP.get ai
  clear aP
  refine s_nil ⟨⟨E, K1, K18, K29, aa, ab, ac, ae⟩, ?_⟩
  refine t_l rfl ?_
  refine s_st (b := aO) (off := 0) (vs := [I (idxI (readyL ws (orderP ws) (staleL ws rev)) (maxT (readyL ws (orderP ws) (staleL ws rev)) (readyL ws (orderP ws) (staleL ws rev)).length))]) (cs' := [I (idxI (readyL ws (orderP ws) (staleL ws rev)) (maxT (readyL ws (orderP ws) (staleL ws rev)) (readyL ws (orderP ws) (staleL ws rev)).length))]) (v := I (idxI (readyL ws (orderP ws) (staleL ws rev)) (maxT (readyL ws (orderP ws) (staleL ws rev)) (readyL ws (orderP ws) (staleL ws rev)).length))) rfl rfl Sz3 ai rfl rfl rfl rfl rfl ?_
  intro bE aQ
  replace E := E.put (by omega) aQ
  replace K1 := K1.put aQ (by omega)
  replace K18 := K18.put aQ (by omega)
  replace K29 := K29.put aQ (by omega)
  replace aa := aQ.get (by omega) aa
  replace ab := aQ.get (by omega) ab
  replace ac := aQ.get (by omega) ac
  replace ae := aQ.get (by omega) ae
  replace ai := aQ.same
  clear aQ
  refine s_nil ⟨⟨E, K1, K18, K29, aa, ab, ac, ae⟩, ?_⟩
  refine t_nil ?_
  refine sQ rfl <| s_val (x_ld (v := I (idxI (readyL ws (orderP ws) (staleL ws rev)) (maxT (readyL ws (orderP ws) (staleL ws rev)) (readyL ws (orderP ws) (staleL ws rev)).length))) rfl (ldb_sc Sc3 ai rfl)) ?_
  refine s_bs1O (α := Int) T34 ((idxI (readyL ws (orderP ws) (staleL ws rev)) (maxT (readyL ws (orderP ws) (staleL ws rev)) (readyL ws (orderP ws) (staleL ws rev)).length) : Int)) rfl rfl rfl ?_
  intro bW da bo aA
  have n_v82_b2 := bo.ne' (heap_lt aa)
  have n_v82_b9 := bo.ne' (heap_lt ab)
  have n_v82_b19 := bo.ne' (heap_lt ac)
  have n_v82_b30 := bo.ne' (heap_lt ae)
  have n_v82_b76 := bo.ne' (heap_lt ai)
  have ao := Nat.le_refl bE.heap.size
  have B_v82 := E.size
  have B_v82_K1 := K1.size
  have B_v82_K18 := K18.size
  have B_v82_K29 := K29.size
  replace E := E.trans aA
  replace ao := Nat.le_trans ao aA.size
  replace K1 := K1.ext aA
  replace K18 := K18.ext aA
  replace K29 := K29.ext aA
  replace aa := aA.get aa
  replace ab := aA.get ab
  replace ac := aA.get ac
  replace ae := aA.get ae
  replace ai := aA.get ai
  clear aA
  refine sA bW rfl <| s_nil <| W.seq <| W.block ?_
  refine W.loop (fun m σ W => ∃ (i : Int) (out : List Int) (f : Nat) (vo : Value) (ρ : Env), σ = upds ρ [(2, Pz b2), (10, Pz ak), (11, Pz aO), (12, vo)] /\ m = f + 1 /\ Ext w W /\ KF 0 w W /\ KF bc.heap.size bf W /\ W.heap[b2]? = some (.cells #[vw] 22 (0, 0)) /\ W.heap[b9]? = some (.cells #[vw] 187 (0, 0)) /\ W.heap[ar]? = some (.cells (encB (staleL ws rev)).toArray 141 (0, 0)) /\ W.heap[ak]? = some (.cells #[al] 34 (0, 0)) /\ W.heap[aO]? = some (.cells #[I i] 3 (0, 0)) /\ bE.heap.size <= W.heap.size /\ OwnF bE.heap.size 3 W vo out /\ vo.ownBlock ≠ some b2 /\ vo.ownBlock ≠ some b9 /\ vo.ownBlock ≠ some ar /\ vo.ownBlock ≠ some ak /\ vo.ownBlock ≠ some aO /\ 0 <= i /\ i < (ws.length : Int) /\ posO ws i <= f /\ longF ws (readyL ws (orderP ws) (staleL ws rev)) f i out = longF ws (readyL ws (orderP ws) (staleL ws rev)) ws.length (lastL (readyL ws (orderP ws) (staleL ws rev))) [lastL (readyL ws (orderP ws) (staleL ws rev))] /\ out.length + f <= ws.length + 1) ?_ ?_
  ·exact ⟨_, lastL (readyL ws (orderP ws) (staleL ws rev)), [lastL (readyL ws (orderP ws) (staleL ws rev))], ws.length, bW, _, upds_of _ _ ⟨rfl, rfl, rfl, rfl, trivial⟩, rfl, E, K1, K29, aa, ab, ac, ae, ai, ao, bo, n_v82_b2, n_v82_b9, n_v82_b19, n_v82_b30, n_v82_b76, hla.1, (by have := hla.2.1; omega), (Nat.le_of_lt (posO_le (order_all hO hla.1 (by have := hla.2.1; omega)))), rfl, (by simp; omega)⟩
  rintro m σ db ⟨i, out, f, vo, ρ, rfl, rfl, E, K1, K29, aa, ab, ac, ae, ai, ao, ag, n_vo_b2, n_vo_b9, n_vo_b19, n_vo_b30, n_vo_b76, bg, bh, bR, bi, bS⟩
  have hof := right_of hR (i := Int.toNat i) (by omega)
  have bT := right_nums hR (i := Int.toNat i) (by omega)
  have hai := readyL_at hR (staleL ws rev) (i := Int.toNat i) (by omega)
  refine W.seq <| W.seq ?_
  refine W.draw (fun W => Ext w W /\ KF 0 w W /\ KF bc.heap.size bf W /\ W.heap[b2]? = some (.cells #[vw] 22 (0, 0)) /\ W.heap[b9]? = some (.cells #[vw] 187 (0, 0)) /\ W.heap[ar]? = some (.cells (encB (staleL ws rev)).toArray 141 (0, 0)) /\ W.heap[ak]? = some (.cells #[al] 34 (0, 0)) /\ W.heap[aO]? = some (.cells #[I i] 3 (0, 0)) /\ OwnF bE.heap.size 3 W vo out) [(0, true), (1, true), (2, true), (3, true), (4, true), (5, true), (6, true), (7, true), (8, true), (9, true)] mixed (by decide +kernel) rfl ?_
  intro dc aB
  replace E := E.trans aB
  replace ao := Nat.le_trans ao aB.size
  replace K1 := K1.ext aB
  replace K29 := K29.ext aB
  replace aa := aB.get aa
  replace ab := aB.get ab
  replace ac := aB.get ac
  replace ae := aB.get ae
  replace ai := aB.get ai
  replace ag := ag.ext aB
  clear aB
  refine ⟨⟨E, K1, K29, aa, ab, ac, ae, ai, ag⟩, ?_⟩
  refine d_q rfl (fun w' hC => by obtain ⟨E, K1, K29, aa, ab, ac, ae, ai, ag⟩ := hC; exact x_ld (v := al) rfl (ldb_sc Sc34 ae rfl)) ?_
  refine d_q rfl (fun w' hC => by obtain ⟨E, K1, K29, aa, ab, ac, ae, ai, ag⟩ := hC; exact x_ld (v := I i) rfl (ldb_sc Sc3 ai rfl)) ?_
  refine d_q rfl (fun w' hC => by obtain ⟨E, K1, K29, aa, ab, ac, ae, ai, ag⟩ := hC; exact x_ix (v := vat al 1 (Int.toNat i)) rfl rfl (Sl.ix (α := Int) T34.und T34.size (aq.to K29) (by omega) (by omega))) ?_
  refine d_q rfl (fun w' hC => by obtain ⟨E, K1, K29, aa, ab, ac, ae, ai, ag⟩ := hC; exact x_ld (v := I ((readyL ws (orderP ws) (staleL ws rev)).getD (Int.toNat i) 0)) rfl (ld_sc Sc3 (At.to (Int_at aq (i := i) (by omega) (by omega)) K29))) ?_
  refine d_q rfl (fun w' hC => by obtain ⟨E, K1, K29, aa, ab, ac, ae, ai, ag⟩ := hC; exact x_ld (v := vw) rfl (ldb_sc Sc22 aa rfl)) ?_
  refine d_q rfl (fun w' hC => by obtain ⟨E, K1, K29, aa, ab, ac, ae, ai, ag⟩ := hC; exact x_ld (v := I i) rfl (ldb_sc Sc3 ai rfl)) ?_
  refine d_q rfl (fun w' hC => by obtain ⟨E, K1, K29, aa, ab, ac, ae, ai, ag⟩ := hC; exact x_ix (v := vat vw 3 (Int.toNat i)) rfl rfl (Sl.ix (α := Work) T22.und T22.size (hw.to K1) (by omega) (by omega))) ?_
  refine d_q rfl (fun w' hC => by obtain ⟨E, K1, K29, aa, ab, ac, ae, ai, ag⟩ := hC; exact x_fa (v := fat (vat vw 3 (Int.toNat i)) 2) rfl (fa_pl Fd60_2 Sz3 (Sl.pl (i := i) hw (by omega) (by omega)))) ?_
  refine d_q rfl (fun w' hC => by obtain ⟨E, K1, K29, aa, ab, ac, ae, ai, ag⟩ := hC; exact x_ld (v := I ((ws.getD (Int.toNat i) default).minutes)) rfl (ld_sc Sc3 (At.to (Work_at2 hw (i := i) (by omega) (by omega)) K1))) ?_
  refine d_q rfl (fun w' hC => by obtain ⟨E, K1, K29, aa, ab, ac, ae, ai, ag⟩ := hC; exact x_cmp (kd := .i64) (r := decide ((((ws.getD (Int.toNat i) default).minutes) : Int) < ((readyL ws (orderP ws) (staleL ws rev)).getD (Int.toNat i) 0))) rfl rfl rfl) ?_
  refine d_nil ?_
  refine W.cond (decide ((((ws.getD (Int.toNat i) default).minutes) : Int) < ((readyL ws (orderP ws) (staleL ws rev)).getD (Int.toNat i) 0))) rfl (fun bp => ?_) (fun bp => ?_)
  ·simp only [qz1, qz2, qz3, qz4, qz5, qz6, ne_eq, qz7] at bp
   have hnx := long_next hO bg bh bp
   have hnx1 := hnx.1
   have hnx2 := hnx.2.1
   refine W.skip <| W.block <| sQ rfl <| s_val (x_ld (v := vw) rfl (ldb_sc Sc22 aa rfl)) <| s_val (x_ld (v := I i) rfl (ldb_sc Sc3 ai rfl)) <| s_val (x_ix (v := vat vw 3 (Int.toNat i)) rfl rfl (Sl.ix (α := Work) T22.und T22.size (hw.to K1) (by omega) (by omega))) <| s_val (x_fa (v := fat (vat vw 3 (Int.toNat i)) 0) rfl (fa_pl Fd60_0 Sz34 (Sl.pl (i := i) hw (by omega) (by omega)))) ?_
   obtain ⟨bK, cm, bF⟩ := Work_at0 hw (i := i) (by omega) (by omega)
   replace bF : Sl _ bK (ws.getD (Int.toNat i) default).of := bF
   have dd := bF.len_le
   refine s_val (x_ld (v := bK) rfl (ld_sc Sc34 (At.to cm K1))) <| s_val (x_mf (fs := []) (cs := [Pz ak, Pz aO, Pz b2]) rfl rfl) ?_
   refine s_call cf102 [bK, .func (.func 103) #[] #[Pz ak, Pz aO, Pz b2]] rfl (indexFunc_int _ (bF.to K1) ⟨103, [Pz ak, Pz aO, Pz b2], rfl, cf103, fun w' v x hE hD hA => by obtain rfl := Arg.int hA; exact (longest1 _ _ _ (hE.get ae) (hE.get ai) (hE.get aa) ((aq.to K29).mono hE.le) ((hw.to K1).mono hE.le) (hof _ hD).1 (by have := (hof _ hD).2.1; omega) bg (by omega) bh (by omega))⟩) ?_
   rintro _ de ⟨rfl, aC⟩
   replace E := E.trans aC
   replace ao := Nat.le_trans ao aC.size
   replace K1 := K1.ext aC
   replace K29 := K29.ext aC
   replace aa := aC.get aa
   replace ab := aC.get ab
   replace ac := aC.get ac
   replace ae := aC.get ae
   replace ai := aC.get ai
   replace ag := ag.ext aC
   clear aC
   refine sA (I (idxP (fun z_ : Int => (readyL ws (orderP ws) (staleL ws rev)).getD z_.toNat 0 == (readyL ws (orderP ws) (staleL ws rev)).getD (Int.toNat i) 0 - (ws.getD (Int.toNat i) default).minutes) ((ws.getD (Int.toNat i) default).of))) rfl <| s_nil <| sQ rfl <| s_val (x_ld (v := vw) rfl (ldb_sc Sc22 aa rfl)) <| s_val (x_ld (v := I i) rfl (ldb_sc Sc3 ai rfl)) <| s_val (x_ix (v := vat vw 3 (Int.toNat i)) rfl rfl (Sl.ix (α := Work) T22.und T22.size (hw.to K1) (by omega) (by omega))) <| s_val (x_fa (v := fat (vat vw 3 (Int.toNat i)) 0) rfl (fa_pl Fd60_0 Sz34 (Sl.pl (i := i) hw (by omega) (by omega)))) ?_
   obtain ⟨bL, cn, bx⟩ := Work_at0 hw (i := i) (by omega) (by omega)
   replace bx : Sl _ bL (ws.getD (Int.toNat i) default).of := bx
   have dg := bx.len_le
   refine s_val (x_ld (v := bL) rfl (ld_sc Sc34 (At.to cn K1))) <| sM (I (idxP (fun z_ : Int => (readyL ws (orderP ws) (staleL ws rev)).getD z_.toNat 0 == (readyL ws (orderP ws) (staleL ws rev)).getD (Int.toNat i) 0 - (ws.getD (Int.toNat i) default).minutes) ((ws.getD (Int.toNat i) default).of))) rfl <| s_val (x_ix (v := vat bL 1 (Int.toNat (idxP (fun z_ : Int => (readyL ws (orderP ws) (staleL ws rev)).getD z_.toNat 0 == (readyL ws (orderP ws) (staleL ws rev)).getD (Int.toNat i) 0 - (ws.getD (Int.toNat i) default).minutes) ((ws.getD (Int.toNat i) default).of)))) rfl rfl (Sl.ix (α := Int) T34.und T34.size (bx.to K1) (by omega) (by omega))) <| s_val (x_ld (v := I (((ws.getD (Int.toNat i) default).of).getD (Int.toNat (idxP (fun z_ : Int => (readyL ws (orderP ws) (staleL ws rev)).getD z_.toNat 0 == (readyL ws (orderP ws) (staleL ws rev)).getD (Int.toNat i) 0 - (ws.getD (Int.toNat i) default).minutes) ((ws.getD (Int.toNat i) default).of))) 0)) rfl (ld_sc Sc3 (At.to (Int_at bx (i := idxP (fun z_ : Int => (readyL ws (orderP ws) (staleL ws rev)).getD z_.toNat 0 == (readyL ws (orderP ws) (staleL ws rev)).getD (Int.toNat i) 0 - (ws.getD (Int.toNat i) default).minutes) ((ws.getD (Int.toNat i) default).of)) (by omega) (by omega)) K1))) ?_
   refine s_st (b := aO) (off := 0) (vs := [I (((ws.getD (Int.toNat i) default).of).getD (Int.toNat (idxP (fun z_ : Int => (readyL ws (orderP ws) (staleL ws rev)).getD z_.toNat 0 == (readyL ws (orderP ws) (staleL ws rev)).getD (Int.toNat i) 0 - (ws.getD (Int.toNat i) default).minutes) ((ws.getD (Int.toNat i) default).of))) 0)]) (cs' := [I (((ws.getD (Int.toNat i) default).of).getD (Int.toNat (idxP (fun z_ : Int => (readyL ws (orderP ws) (staleL ws rev)).getD z_.toNat 0 == (readyL ws (orderP ws) (staleL ws rev)).getD (Int.toNat i) 0 - (ws.getD (Int.toNat i) default).minutes) ((ws.getD (Int.toNat i) default).of))) 0)]) (v := I (((ws.getD (Int.toNat i) default).of).getD (Int.toNat (idxP (fun z_ : Int => (readyL ws (orderP ws) (staleL ws rev)).getD z_.toNat 0 == (readyL ws (orderP ws) (staleL ws rev)).getD (Int.toNat i) 0 - (ws.getD (Int.toNat i) default).minutes) ((ws.getD (Int.toNat i) default).of))) 0)) rfl rfl Sz3 ai rfl rfl rfl rfl rfl ?_
   intro bX aD
   replace E := E.put (by omega) aD
   replace ao := Nat.le_trans ao (Nat.le_of_eq aD.size.symm)
   replace K1 := K1.put aD (by omega)
   replace K29 := K29.put aD (by omega)
   replace aa := aD.get (by omega) aa
   replace ab := aD.get (by omega) ab
   replace ac := aD.get (by omega) ac
   replace ae := aD.get (by omega) ae
   replace ag := ag.put aD n_vo_b76
   replace ai := aD.same
   clear aD
   refine s_nil <| W.region rfl <| sM vo rfl <| s_val (x_ld (v := I (((ws.getD (Int.toNat i) default).of).getD (Int.toNat (idxP (fun z_ : Int => (readyL ws (orderP ws) (staleL ws rev)).getD z_.toNat 0 == (readyL ws (orderP ws) (staleL ws rev)).getD (Int.toNat i) 0 - (ws.getD (Int.toNat i) default).minutes) ((ws.getD (Int.toNat i) default).of))) 0)) rfl (ldb_sc Sc3 ai rfl)) ?_
   refine s_bsl (α := Int) T34 bX.heap.size [I (((ws.getD (Int.toNat i) default).of).getD (Int.toNat (idxP (fun z_ : Int => (readyL ws (orderP ws) (staleL ws rev)).getD z_.toNat 0 == (readyL ws (orderP ws) (staleL ws rev)).getD (Int.toNat i) 0 - (ws.getD (Int.toNat i) default).minutes) ((ws.getD (Int.toNat i) default).of))) 0)] [(((ws.getD (Int.toNat i) default).of).getD (Int.toNat (idxP (fun z_ : Int => (readyL ws (orderP ws) (staleL ws rev)).getD z_.toNat 0 == (readyL ws (orderP ws) (staleL ws rev)).getD (Int.toNat i) 0 - (ws.getD (Int.toNat i) default).minutes) ((ws.getD (Int.toNat i) default).of))) 0 : Int)] rfl (.cons rfl (Flat.rep_enc _ _) <| .nil) (Nat.le_refl _) rfl (by decide) (by decide) ?_
   intro co cp cq aE nn_u99
   replace E := E.trans aE
   replace ao := Nat.le_trans ao aE.size
   replace K1 := K1.ext aE
   replace K29 := K29.ext aE
   replace aa := aE.get aa
   replace ab := aE.get ab
   replace ac := aE.get ac
   replace ae := aE.get ae
   replace ai := aE.get ai
   replace ag := ag.ext aE
   clear aE
   have K103 := KF.refl bX.heap.size cp
   refine s_app (α := Int) (v := vo) (vy := co) (l := out) (l2 := [(((ws.getD (Int.toNat i) default).of).getD (Int.toNat (idxP (fun z_ : Int => (readyL ws (orderP ws) (staleL ws rev)).getD z_.toNat 0 == (readyL ws (orderP ws) (staleL ws rev)).getD (Int.toNat i) 0 - (ws.getD (Int.toNat i) default).minutes) ((ws.getD (Int.toNat i) default).of))) 0 : Int)]) T34 rfl rfl ag (cq.to K103) (Cells.Le.refl _) ao (by first | omega | (simp only [List.length_append, List.length_cons, List.length_nil, List.length_set]; omega)) (by first | omega | (simp only [List.length_append, List.length_cons, List.length_nil, List.length_set]; omega)) ?_
   intro bY dh cr aR bq
   have n_v104_b19 := bq ar (heap_lt ac) n_vo_b19
   have n_v104_b2 := bq b2 (heap_lt aa) n_vo_b2
   have n_v104_b30 := bq ak (heap_lt ae) n_vo_b30
   have n_v104_b76 := bq aO (heap_lt ai) n_vo_b76
   have n_v104_b9 := bq b9 (heap_lt ab) n_vo_b9
   replace E := E.grow aR (by omega)
   replace ao := Nat.le_trans ao aR.size
   replace K1 := K1.grow aR (by omega)
   replace K29 := K29.grow aR (by omega)
   replace aa := aR.get n_vo_b2 aa
   replace ab := aR.get n_vo_b9 ab
   replace ac := aR.get n_vo_b19 ac
   replace ae := aR.get n_vo_b30 ae
   replace ai := aR.get n_vo_b76 ai
   clear aR bq
   refine sA bY rfl <| s_nil ?_
   exact ⟨_, (by have := hnx.2.2.2.2.1; omega), nextL ws (readyL ws (orderP ws) (staleL ws rev)) i, (out ++ [nextL ws (readyL ws (orderP ws) (staleL ws rev)) i]), (f - 1), bY, _, upds_of _ _ ⟨rfl, rfl, rfl, rfl, trivial⟩, rfl, E, K1, K29, aa, ab, ac, ae, ai, ao, cr, n_v104_b2, n_v104_b9, n_v104_b19, n_v104_b30, n_v104_b76, hnx.2.2.1, hnx.2.2.2.1, (by have := hnx.2.2.2.2.1; omega), (by rw [← longF_step (by have := hnx.2.2.2.2.1; omega) bp]; exact bi), (by have := hnx.2.2.2.2.1; simp only [List.length_append, List.length_singleton]; omega)⟩
  simp only [qz1, qz2, qz3, qz4, qz5, qz6, ne_eq, qz7] at bp
  refine W.exit ?_
  refine sQ rfl <| sM vo rfl ?_
  refine s_call cf104 [vo] rfl (reverse_any ag) ?_
  rintro _ di ⟨rfl, ct, aS⟩
  replace E := E.grow aS (by omega)
  replace ao := Nat.le_trans ao aS.size
  replace K1 := K1.grow aS (by omega)
  replace K29 := K29.grow aS (by omega)
  replace aa := aS.get n_vo_b2 aa
  replace ab := aS.get n_vo_b9 ab
  replace ac := aS.get n_vo_b19 ac
  replace ae := aS.get n_vo_b30 ae
  replace ai := aS.get n_vo_b76 ai
  replace ag := ct
  clear aS
  refine s_nil <| sQ rfl <| sM vo rfl <| sA vo rfl <| sA (I 0) rfl <| s_nil ?_
  refine W.ret ?_
  exact ⟨_, resE_tmp2 rfl, vo, (by rw [(longest_ok h8 au).1]; rfl), (by have hq := (ag.dn (B' := w.heap.size) (by omega)).sl; rw [(longest_ok h8 au).2]; unfold longL; rw [← bi, longF_end bp]; exact hq), E⟩
 refine s_alloc (cs := [I 0]) Al3 rfl ?_
 intro aT dj Nb114
 have o_K1_b114 := Nat.le_trans K1.size Nb114.ge
 have o_K18_b114 := Nat.le_trans K18.size Nb114.ge
 have o_K29_b114 := Nat.le_trans K29.size Nb114.ge
 have o_b114 := Nat.le_trans E.size Nb114.ge
 have o_b2_b114 := Nat.lt_of_lt_of_le (heap_lt aa) Nb114.ge
 have o_b9_b114 := Nat.lt_of_lt_of_le (heap_lt ab) Nb114.ge
 have o_b19_b114 := Nat.lt_of_lt_of_le (heap_lt ac) Nb114.ge
 have o_b30_b114 := Nat.lt_of_lt_of_le (heap_lt ae) Nb114.ge
 replace E := E.trans Nb114.ext
 replace K1 := K1.ext Nb114.ext
 replace K18 := K18.ext Nb114.ext
 replace K29 := K29.ext Nb114.ext
 replace aa := Nb114.ext.get aa
 replace ab := Nb114.ext.get ab
 replace ac := Nb114.ext.get ac
 replace ae := Nb114.ext.get ae
 have ah := Nb114.same
 clear Nb114
 refine s_nil ⟨⟨E, K1, K18, K29, aa, ab, ac, ae⟩, ?_⟩
 refine t_l rfl ?_
 refine s_call cf101 [al] rfl (max_int _ (aq.to K29) (by omega)) ?_
 rintro _ dk ⟨rfl, aU⟩
 replace E := E.trans aU
 replace K1 := K1.ext aU
 replace K18 := K18.ext aU
 replace K29 := K29.ext aU
 replace aa := aU.get aa
 replace ab := aU.get ab
 replace ac := aU.get ac
 replace ae := aU.get ae
 replace ah := aU.get ah
 clear aU
 refine s_nil ⟨⟨E, K1, K18, K29, aa, ab, ac, ae⟩, ?_⟩
 refine t_l rfl ?_
 refine s_call cf100 [al, I (maxT (readyL ws (orderP ws) (staleL ws rev)) (readyL ws (orderP ws) (staleL ws rev)).length)] rfl (index_int (maxT (readyL ws (orderP ws) (staleL ws rev)) (readyL ws (orderP ws) (staleL ws rev)).length) _ (aq.to K29)) ?_
 rintro _ dl ⟨rfl, aV⟩
 replace E := E.trans aV
 replace K1 := K1.ext aV
 replace K18 := K18.ext aV
 replace K29 := K29.ext aV
 replace aa := aV.get aa
 replace ab := aV.get ab
 replace ac := aV.get ac
 replace ae := aV.get ae
 replace ah := aV.get ah
 clear aV
 refine s_nil ⟨⟨E, K1, K18, K29, aa, ab, ac, ae⟩, ?_⟩
 refine t_l rfl ?_
 refine s_st (b := aT) (off := 0) (vs := [I (idxI (readyL ws (orderP ws) (staleL ws rev)) (maxT (readyL ws (orderP ws) (staleL ws rev)) (readyL ws (orderP ws) (staleL ws rev)).length))]) (cs' := [I (idxI (readyL ws (orderP ws) (staleL ws rev)) (maxT (readyL ws (orderP ws) (staleL ws rev)) (readyL ws (orderP ws) (staleL ws rev)).length))]) (v := I (idxI (readyL ws (orderP ws) (staleL ws rev)) (maxT (readyL ws (orderP ws) (staleL ws rev)) (readyL ws (orderP ws) (staleL ws rev)).length))) rfl rfl Sz3 ah rfl rfl rfl rfl rfl ?_
 intro bG aW
 replace E := E.put (by omega) aW
 replace K1 := K1.put aW (by omega)
 replace K18 := K18.put aW (by omega)
 replace K29 := K29.put aW (by omega)
 replace aa := aW.get (by omega) aa
 replace ab := aW.get (by omega) ab
 replace ac := aW.get (by omega) ac
 replace ae := aW.get (by omega) ae
 replace ah := aW.same
 clear aW
 refine s_nil ⟨⟨E, K1, K18, K29, aa, ab, ac, ae⟩, ?_⟩
 refine t_nil ?_
 refine sQ rfl <| s_val (x_ld (v := I (idxI (readyL ws (orderP ws) (staleL ws rev)) (maxT (readyL ws (orderP ws) (staleL ws rev)) (readyL ws (orderP ws) (staleL ws rev)).length))) rfl (ldb_sc Sc3 ah rfl)) ?_
 refine s_bs1O (α := Int) T34 ((idxI (readyL ws (orderP ws) (staleL ws rev)) (maxT (readyL ws (orderP ws) (staleL ws rev)) (readyL ws (orderP ws) (staleL ws rev)).length) : Int)) rfl rfl rfl ?_
 intro bZ dm br aF
 have n_v122_b2 := br.ne' (heap_lt aa)
 have n_v122_b9 := br.ne' (heap_lt ab)
 have n_v122_b19 := br.ne' (heap_lt ac)
 have n_v122_b30 := br.ne' (heap_lt ae)
 have n_v122_b114 := br.ne' (heap_lt ah)
 have ap := Nat.le_refl bG.heap.size
 have B_v122 := E.size
 have B_v122_K1 := K1.size
 have B_v122_K18 := K18.size
 have B_v122_K29 := K29.size
 replace E := E.trans aF
 replace ap := Nat.le_trans ap aF.size
 replace K1 := K1.ext aF
 replace K18 := K18.ext aF
 replace K29 := K29.ext aF
 replace aa := aF.get aa
 replace ab := aF.get ab
 replace ac := aF.get ac
 replace ae := aF.get ae
 replace ah := aF.get ah
 clear aF
 refine sA bZ rfl <| s_nil <| W.seq <| W.block ?_
 refine W.loop (fun m σ W => ∃ (i : Int) (out : List Int) (f : Nat) (vo : Value) (ρ : Env), σ = upds ρ [(2, Pz b2), (10, Pz ak), (11, Pz aT), (12, vo)] /\ m = f + 1 /\ Ext w W /\ KF 0 w W /\ KF bc.heap.size bf W /\ W.heap[b2]? = some (.cells #[vw] 22 (0, 0)) /\ W.heap[b9]? = some (.cells #[vw] 187 (0, 0)) /\ W.heap[ar]? = some (.cells (encB (staleL ws rev)).toArray 141 (0, 0)) /\ W.heap[ak]? = some (.cells #[al] 34 (0, 0)) /\ W.heap[aT]? = some (.cells #[I i] 3 (0, 0)) /\ bG.heap.size <= W.heap.size /\ OwnF bG.heap.size 3 W vo out /\ vo.ownBlock ≠ some b2 /\ vo.ownBlock ≠ some b9 /\ vo.ownBlock ≠ some ar /\ vo.ownBlock ≠ some ak /\ vo.ownBlock ≠ some aT /\ 0 <= i /\ i < (ws.length : Int) /\ posO ws i <= f /\ longF ws (readyL ws (orderP ws) (staleL ws rev)) f i out = longF ws (readyL ws (orderP ws) (staleL ws rev)) ws.length (lastL (readyL ws (orderP ws) (staleL ws rev))) [lastL (readyL ws (orderP ws) (staleL ws rev))] /\ out.length + f <= ws.length + 1) ?_ ?_
 ·exact ⟨_, lastL (readyL ws (orderP ws) (staleL ws rev)), [lastL (readyL ws (orderP ws) (staleL ws rev))], ws.length, bZ, _, upds_of _ _ ⟨rfl, rfl, rfl, rfl, trivial⟩, rfl, E, K1, K29, aa, ab, ac, ae, ah, ap, br, n_v122_b2, n_v122_b9, n_v122_b19, n_v122_b30, n_v122_b114, hla.1, (by have := hla.2.1; omega), (Nat.le_of_lt (posO_le (order_all hO hla.1 (by have := hla.2.1; omega)))), rfl, (by simp; omega)⟩
 rintro m σ dp ⟨i, out, f, vo, ρ, rfl, rfl, E, K1, K29, aa, ab, ac, ae, ah, ap, ag, n_vo_b2, n_vo_b9, n_vo_b19, n_vo_b30, n_vo_b114, bg, bh, bR, bi, bS⟩
 have hof := right_of hR (i := Int.toNat i) (by omega)
 have bT := right_nums hR (i := Int.toNat i) (by omega)
 have hai := readyL_at hR (staleL ws rev) (i := Int.toNat i) (by omega)
 refine W.seq <| W.seq ?_
 refine W.draw (fun W => Ext w W /\ KF 0 w W /\ KF bc.heap.size bf W /\ W.heap[b2]? = some (.cells #[vw] 22 (0, 0)) /\ W.heap[b9]? = some (.cells #[vw] 187 (0, 0)) /\ W.heap[ar]? = some (.cells (encB (staleL ws rev)).toArray 141 (0, 0)) /\ W.heap[ak]? = some (.cells #[al] 34 (0, 0)) /\ W.heap[aT]? = some (.cells #[I i] 3 (0, 0)) /\ OwnF bG.heap.size 3 W vo out) [(0, true), (1, true), (2, true), (3, true), (4, true), (5, true), (6, true), (7, true), (8, true), (9, true)] mixed (by decide +kernel) rfl ?_
 intro dq aG
 replace E := E.trans aG
 replace ap := Nat.le_trans ap aG.size
 replace K1 := K1.ext aG
 replace K29 := K29.ext aG
 replace aa := aG.get aa
 replace ab := aG.get ab
 replace ac := aG.get ac
 replace ae := aG.get ae
 replace ah := aG.get ah
 replace ag := ag.ext aG
 clear aG
 refine ⟨⟨E, K1, K29, aa, ab, ac, ae, ah, ag⟩, ?_⟩
 refine d_q rfl (fun w' hC => by obtain ⟨E, K1, K29, aa, ab, ac, ae, ah, ag⟩ := hC; exact x_ld (v := al) rfl (ldb_sc Sc34 ae rfl)) ?_
 refine d_q rfl (fun w' hC => by obtain ⟨E, K1, K29, aa, ab, ac, ae, ah, ag⟩ := hC; exact x_ld (v := I i) rfl (ldb_sc Sc3 ah rfl)) ?_
 refine d_q rfl (fun w' hC => by obtain ⟨E, K1, K29, aa, ab, ac, ae, ah, ag⟩ := hC; exact x_ix (v := vat al 1 (Int.toNat i)) rfl rfl (Sl.ix (α := Int) T34.und T34.size (aq.to K29) (by omega) (by omega))) ?_
 refine d_q rfl (fun w' hC => by obtain ⟨E, K1, K29, aa, ab, ac, ae, ah, ag⟩ := hC; exact x_ld (v := I ((readyL ws (orderP ws) (staleL ws rev)).getD (Int.toNat i) 0)) rfl (ld_sc Sc3 (At.to (Int_at aq (i := i) (by omega) (by omega)) K29))) ?_
 refine d_q rfl (fun w' hC => by obtain ⟨E, K1, K29, aa, ab, ac, ae, ah, ag⟩ := hC; exact x_ld (v := vw) rfl (ldb_sc Sc22 aa rfl)) ?_
 refine d_q rfl (fun w' hC => by obtain ⟨E, K1, K29, aa, ab, ac, ae, ah, ag⟩ := hC; exact x_ld (v := I i) rfl (ldb_sc Sc3 ah rfl)) ?_
 refine d_q rfl (fun w' hC => by obtain ⟨E, K1, K29, aa, ab, ac, ae, ah, ag⟩ := hC; exact x_ix (v := vat vw 3 (Int.toNat i)) rfl rfl (Sl.ix (α := Work) T22.und T22.size (hw.to K1) (by omega) (by omega))) ?_
 refine d_q rfl (fun w' hC => by obtain ⟨E, K1, K29, aa, ab, ac, ae, ah, ag⟩ := hC; exact x_fa (v := fat (vat vw 3 (Int.toNat i)) 2) rfl (fa_pl Fd60_2 Sz3 (Sl.pl (i := i) hw (by omega) (by omega)))) ?_
 refine d_q rfl (fun w' hC => by obtain ⟨E, K1, K29, aa, ab, ac, ae, ah, ag⟩ := hC; exact x_ld (v := I ((ws.getD (Int.toNat i) default).minutes)) rfl (ld_sc Sc3 (At.to (Work_at2 hw (i := i) (by omega) (by omega)) K1))) ?_
 refine d_q rfl (fun w' hC => by obtain ⟨E, K1, K29, aa, ab, ac, ae, ah, ag⟩ := hC; exact x_cmp (kd := .i64) (r := decide ((((ws.getD (Int.toNat i) default).minutes) : Int) < ((readyL ws (orderP ws) (staleL ws rev)).getD (Int.toNat i) 0))) rfl rfl rfl) ?_
 refine d_nil ?_
 refine W.cond (decide ((((ws.getD (Int.toNat i) default).minutes) : Int) < ((readyL ws (orderP ws) (staleL ws rev)).getD (Int.toNat i) 0))) rfl (fun bt => ?_) (fun bt => ?_)
 ·simp only [qz1, qz2, qz3, qz4, qz5, qz6, ne_eq, qz7] at bt
  have hnx := long_next hO bg bh bt
  have hnx1 := hnx.1
  have hnx2 := hnx.2.1
  refine W.skip <| W.block <| sQ rfl <| s_val (x_ld (v := vw) rfl (ldb_sc Sc22 aa rfl)) <| s_val (x_ld (v := I i) rfl (ldb_sc Sc3 ah rfl)) <| s_val (x_ix (v := vat vw 3 (Int.toNat i)) rfl rfl (Sl.ix (α := Work) T22.und T22.size (hw.to K1) (by omega) (by omega))) <| s_val (x_fa (v := fat (vat vw 3 (Int.toNat i)) 0) rfl (fa_pl Fd60_0 Sz34 (Sl.pl (i := i) hw (by omega) (by omega)))) ?_
  obtain ⟨bM, cu, bH⟩ := Work_at0 hw (i := i) (by omega) (by omega)
  replace bH : Sl _ bM (ws.getD (Int.toNat i) default).of := bH
  have dr := bH.len_le
  refine s_val (x_ld (v := bM) rfl (ld_sc Sc34 (At.to cu K1))) <| s_val (x_mf (fs := []) (cs := [Pz ak, Pz aT, Pz b2]) rfl rfl) ?_
  refine s_call cf102 [bM, .func (.func 103) #[] #[Pz ak, Pz aT, Pz b2]] rfl (indexFunc_int _ (bH.to K1) ⟨103, [Pz ak, Pz aT, Pz b2], rfl, cf103, fun w' v x hE hD hA => by obtain rfl := Arg.int hA; exact (longest1 _ _ _ (hE.get ae) (hE.get ah) (hE.get aa) ((aq.to K29).mono hE.le) ((hw.to K1).mono hE.le) (hof _ hD).1 (by have := (hof _ hD).2.1; omega) bg (by omega) bh (by omega))⟩) ?_
  rintro _ dt ⟨rfl, aH⟩
  replace E := E.trans aH
  replace ap := Nat.le_trans ap aH.size
  replace K1 := K1.ext aH
  replace K29 := K29.ext aH
  replace aa := aH.get aa
  replace ab := aH.get ab
  replace ac := aH.get ac
  replace ae := aH.get ae
  replace ah := aH.get ah
  replace ag := ag.ext aH
  clear aH
  refine sA (I (idxP (fun z_ : Int => (readyL ws (orderP ws) (staleL ws rev)).getD z_.toNat 0 == (readyL ws (orderP ws) (staleL ws rev)).getD (Int.toNat i) 0 - (ws.getD (Int.toNat i) default).minutes) ((ws.getD (Int.toNat i) default).of))) rfl <| s_nil <| sQ rfl <| s_val (x_ld (v := vw) rfl (ldb_sc Sc22 aa rfl)) <| s_val (x_ld (v := I i) rfl (ldb_sc Sc3 ah rfl)) <| s_val (x_ix (v := vat vw 3 (Int.toNat i)) rfl rfl (Sl.ix (α := Work) T22.und T22.size (hw.to K1) (by omega) (by omega))) <| s_val (x_fa (v := fat (vat vw 3 (Int.toNat i)) 0) rfl (fa_pl Fd60_0 Sz34 (Sl.pl (i := i) hw (by omega) (by omega)))) ?_
  obtain ⟨bN, cv, bz⟩ := Work_at0 hw (i := i) (by omega) (by omega)
  replace bz : Sl _ bN (ws.getD (Int.toNat i) default).of := bz
  have du := bz.len_le
  refine s_val (x_ld (v := bN) rfl (ld_sc Sc34 (At.to cv K1))) <| sM (I (idxP (fun z_ : Int => (readyL ws (orderP ws) (staleL ws rev)).getD z_.toNat 0 == (readyL ws (orderP ws) (staleL ws rev)).getD (Int.toNat i) 0 - (ws.getD (Int.toNat i) default).minutes) ((ws.getD (Int.toNat i) default).of))) rfl <| s_val (x_ix (v := vat bN 1 (Int.toNat (idxP (fun z_ : Int => (readyL ws (orderP ws) (staleL ws rev)).getD z_.toNat 0 == (readyL ws (orderP ws) (staleL ws rev)).getD (Int.toNat i) 0 - (ws.getD (Int.toNat i) default).minutes) ((ws.getD (Int.toNat i) default).of)))) rfl rfl (Sl.ix (α := Int) T34.und T34.size (bz.to K1) (by omega) (by omega))) <| s_val (x_ld (v := I (((ws.getD (Int.toNat i) default).of).getD (Int.toNat (idxP (fun z_ : Int => (readyL ws (orderP ws) (staleL ws rev)).getD z_.toNat 0 == (readyL ws (orderP ws) (staleL ws rev)).getD (Int.toNat i) 0 - (ws.getD (Int.toNat i) default).minutes) ((ws.getD (Int.toNat i) default).of))) 0)) rfl (ld_sc Sc3 (At.to (Int_at bz (i := idxP (fun z_ : Int => (readyL ws (orderP ws) (staleL ws rev)).getD z_.toNat 0 == (readyL ws (orderP ws) (staleL ws rev)).getD (Int.toNat i) 0 - (ws.getD (Int.toNat i) default).minutes) ((ws.getD (Int.toNat i) default).of)) (by omega) (by omega)) K1))) ?_
  refine s_st (b := aT) (off := 0) (vs := [I (((ws.getD (Int.toNat i) default).of).getD (Int.toNat (idxP (fun z_ : Int => (readyL ws (orderP ws) (staleL ws rev)).getD z_.toNat 0 == (readyL ws (orderP ws) (staleL ws rev)).getD (Int.toNat i) 0 - (ws.getD (Int.toNat i) default).minutes) ((ws.getD (Int.toNat i) default).of))) 0)]) (cs' := [I (((ws.getD (Int.toNat i) default).of).getD (Int.toNat (idxP (fun z_ : Int => (readyL ws (orderP ws) (staleL ws rev)).getD z_.toNat 0 == (readyL ws (orderP ws) (staleL ws rev)).getD (Int.toNat i) 0 - (ws.getD (Int.toNat i) default).minutes) ((ws.getD (Int.toNat i) default).of))) 0)]) (v := I (((ws.getD (Int.toNat i) default).of).getD (Int.toNat (idxP (fun z_ : Int => (readyL ws (orderP ws) (staleL ws rev)).getD z_.toNat 0 == (readyL ws (orderP ws) (staleL ws rev)).getD (Int.toNat i) 0 - (ws.getD (Int.toNat i) default).minutes) ((ws.getD (Int.toNat i) default).of))) 0)) rfl rfl Sz3 ah rfl rfl rfl rfl rfl ?_
  intro b6 aI
  replace E := E.put (by omega) aI
  replace ap := Nat.le_trans ap (Nat.le_of_eq aI.size.symm)
  replace K1 := K1.put aI (by omega)
  replace K29 := K29.put aI (by omega)
  replace aa := aI.get (by omega) aa
  replace ab := aI.get (by omega) ab
  replace ac := aI.get (by omega) ac
  replace ae := aI.get (by omega) ae
  replace ag := ag.put aI n_vo_b114
  replace ah := aI.same
  clear aI
  refine s_nil <| W.region rfl <| sM vo rfl <| s_val (x_ld (v := I (((ws.getD (Int.toNat i) default).of).getD (Int.toNat (idxP (fun z_ : Int => (readyL ws (orderP ws) (staleL ws rev)).getD z_.toNat 0 == (readyL ws (orderP ws) (staleL ws rev)).getD (Int.toNat i) 0 - (ws.getD (Int.toNat i) default).minutes) ((ws.getD (Int.toNat i) default).of))) 0)) rfl (ldb_sc Sc3 ah rfl)) ?_
  refine s_bsl (α := Int) T34 b6.heap.size [I (((ws.getD (Int.toNat i) default).of).getD (Int.toNat (idxP (fun z_ : Int => (readyL ws (orderP ws) (staleL ws rev)).getD z_.toNat 0 == (readyL ws (orderP ws) (staleL ws rev)).getD (Int.toNat i) 0 - (ws.getD (Int.toNat i) default).minutes) ((ws.getD (Int.toNat i) default).of))) 0)] [(((ws.getD (Int.toNat i) default).of).getD (Int.toNat (idxP (fun z_ : Int => (readyL ws (orderP ws) (staleL ws rev)).getD z_.toNat 0 == (readyL ws (orderP ws) (staleL ws rev)).getD (Int.toNat i) 0 - (ws.getD (Int.toNat i) default).minutes) ((ws.getD (Int.toNat i) default).of))) 0 : Int)] rfl (.cons rfl (Flat.rep_enc _ _) <| .nil) (Nat.le_refl _) rfl (by decide) (by decide) ?_
  intro cw cx cy aJ nn_u139
  replace E := E.trans aJ
  replace ap := Nat.le_trans ap aJ.size
  replace K1 := K1.ext aJ
  replace K29 := K29.ext aJ
  replace aa := aJ.get aa
  replace ab := aJ.get ab
  replace ac := aJ.get ac
  replace ae := aJ.get ae
  replace ah := aJ.get ah
  replace ag := ag.ext aJ
  clear aJ
  have K143 := KF.refl b6.heap.size cx
  refine s_app (α := Int) (v := vo) (vy := cw) (l := out) (l2 := [(((ws.getD (Int.toNat i) default).of).getD (Int.toNat (idxP (fun z_ : Int => (readyL ws (orderP ws) (staleL ws rev)).getD z_.toNat 0 == (readyL ws (orderP ws) (staleL ws rev)).getD (Int.toNat i) 0 - (ws.getD (Int.toNat i) default).minutes) ((ws.getD (Int.toNat i) default).of))) 0 : Int)]) T34 rfl rfl ag (cy.to K143) (Cells.Le.refl _) ap (by first | omega | (simp only [List.length_append, List.length_cons, List.length_nil, List.length_set]; omega)) (by first | omega | (simp only [List.length_append, List.length_cons, List.length_nil, List.length_set]; omega)) ?_
  intro b8 dv cz aX bu
  have n_v144_b114 := bu aT (heap_lt ah) n_vo_b114
  have n_v144_b19 := bu ar (heap_lt ac) n_vo_b19
  have n_v144_b2 := bu b2 (heap_lt aa) n_vo_b2
  have n_v144_b30 := bu ak (heap_lt ae) n_vo_b30
  have n_v144_b9 := bu b9 (heap_lt ab) n_vo_b9
  replace E := E.grow aX (by omega)
  replace ap := Nat.le_trans ap aX.size
  replace K1 := K1.grow aX (by omega)
  replace K29 := K29.grow aX (by omega)
  replace aa := aX.get n_vo_b2 aa
  replace ab := aX.get n_vo_b9 ab
  replace ac := aX.get n_vo_b19 ac
  replace ae := aX.get n_vo_b30 ae
  replace ah := aX.get n_vo_b114 ah
  clear aX bu
  refine sA b8 rfl <| s_nil ?_
  exact ⟨_, (by have := hnx.2.2.2.2.1; omega), nextL ws (readyL ws (orderP ws) (staleL ws rev)) i, (out ++ [nextL ws (readyL ws (orderP ws) (staleL ws rev)) i]), (f - 1), b8, _, upds_of _ _ ⟨rfl, rfl, rfl, rfl, trivial⟩, rfl, E, K1, K29, aa, ab, ac, ae, ah, ap, cz, n_v144_b2, n_v144_b9, n_v144_b19, n_v144_b30, n_v144_b114, hnx.2.2.1, hnx.2.2.2.1, (by have := hnx.2.2.2.2.1; omega), (by rw [← longF_step (by have := hnx.2.2.2.2.1; omega) bt]; exact bi), (by have := hnx.2.2.2.2.1; simp only [List.length_append, List.length_singleton]; omega)⟩
 simp only [qz1, qz2, qz3, qz4, qz5, qz6, ne_eq, qz7] at bt
 refine W.exit ?_
 refine sQ rfl <| sM vo rfl ?_
 refine s_call cf104 [vo] rfl (reverse_any ag) ?_
 rintro _ dw ⟨rfl, cA, aY⟩
 replace E := E.grow aY (by omega)
 replace ap := Nat.le_trans ap aY.size
 replace K1 := K1.grow aY (by omega)
 replace K29 := K29.grow aY (by omega)
 replace aa := aY.get n_vo_b2 aa
 replace ab := aY.get n_vo_b9 ab
 replace ac := aY.get n_vo_b19 ac
 replace ae := aY.get n_vo_b30 ae
 replace ah := aY.get n_vo_b114 ah
 replace ag := cA
 clear aY
 refine s_nil <| sQ rfl <| sM vo rfl <| sA vo rfl <| sA (I 0) rfl <| s_nil ?_
 refine W.ret ?_
 exact ⟨_, resE_tmp2 rfl, vo, (by rw [(longest_ok h8 au).1]; rfl), (by have hq := (ag.dn (B' := w.heap.size) (by omega)).sl; rw [(longest_ok h8 au).2]; unfold longL; rw [← bi, longF_end bt]; exact hq), E⟩

end Go.Proofs.Ytndobgodeicloaa
end
