/- Part 2 of the texts on which the proof rests. Conditions: none. -/
import Derived.Test.YtndobgodeicloaaProg
import Derived.Laws.StructEq
import Derived.Laws.Tables
import Derived.KernelRfl
import Derived.WideKeyRuns
import Derived.Ground.NamesProg
import Derived.Shelf.Slices.Cells
import Derived.Shelf.Bits.Mul64
import Derived.Test.YtndobgodeicloaaZB1
set_option linter.unusedVariables false
set_option linter.unusedSimpArgs false
set_option linter.unusedSectionVars false
namespace Go.Nm
/-- The greatest one of the first numbers. -/
def maxT (l : List Int) (i : Nat) : Int := (l.take i).foldl max (l.getD 0 0)
theorem maxT_one {l : List Int} (h : 1 <= l.length) : l.getD 0 0 = maxT l 1 := by
  cases l with
  | nil => simp at h
  | cons a l => simp [maxT]
theorem maxT_next (l : List Int) {i : Nat} (h : (i : Int) < l.length) : maxT l (i + 1) = max (maxT l i) (l.getD i 0) := by
  unfold maxT
  rw [take_succ_getD l (by omega) 0, List.foldl_append]; rfl
theorem maxT_done (l : List Int) {i : Nat} (h : ¬ (i : Int) < l.length) : maxT l i = maxT l l.length := by
  unfold maxT
  rw [List.take_of_length_le (by omega), List.take_length]
theorem foldl_max_mem : ∀ (l : List Int) (z : Int), l.foldl max z = z ∨ l.foldl max z ∈ l
  | [], _ => .inl rfl
  | k :: l, z => by
    simp only [List.foldl_cons]
    rcases foldl_max_mem l (max z k) with h | h
    · rw [h]
      by_cases hz : k <= z
      · left; omega
      · right; rw [show max z k = k from by omega]; simp
    · exact .inr (List.mem_cons_of_mem _ h)
theorem maxT_mem {l : List Int} (h : 1 <= l.length) (i : Nat) : maxT l i ∈ l := by
  unfold maxT
  rcases foldl_max_mem (l.take i) (l.getD 0 0) with h1 | h1
  · rw [h1]; exact getD_memN l (by omega) 0
  · exact List.mem_of_mem_take h1
/-- The work that another one had to wait for. -/
def nextL (ws : List Work) (a : List Int) (i : Int) : Int :=
  (ws.getD i.toNat default).of.getD (Int.toNat (idxP (fun k : Int => a.getD k.toNat 0 == a.getD i.toNat 0 - (ws.getD i.toNat default).minutes) (ws.getD i.toNat default).of)) 0
def longF (ws : List Work) (a : List Int) : Nat -> Int -> List Int -> List Int
  | 0, _, out => out
  | f + 1, i, out => if (ws.getD i.toNat default).minutes < a.getD i.toNat 0 then longF ws a f (nextL ws a i) (out ++ [nextL ws a i]) else out
theorem long_next {ws : List Work} (hO : openedE ws = 0) {st : List Bool} {i : Int} (h0 : 0 <= i) (h1 : i < ws.length) (c : (ws.getD i.toNat default).minutes < (readyL ws (orderP ws) st).getD i.toNat 0) :
    0 <= idxP (fun k : Int => (readyL ws (orderP ws) st).getD k.toNat 0 == (readyL ws (orderP ws) st).getD i.toNat 0 - (ws.getD i.toNat default).minutes) (ws.getD i.toNat default).of ∧
    idxP (fun k : Int => (readyL ws (orderP ws) st).getD k.toNat 0 == (readyL ws (orderP ws) st).getD i.toNat 0 - (ws.getD i.toNat default).minutes) (ws.getD i.toNat default).of < (ws.getD i.toNat default).of.length ∧
    0 <= nextL ws (readyL ws (orderP ws) st) i /\ nextL ws (readyL ws (orderP ws) st) i < ws.length /\ posO ws (nextL ws (readyL ws (orderP ws) st) i) < posO ws i ∧
    nextL ws (readyL ws (orderP ws) st) i ∈ (ws.getD i.toNat default).of ∧
    (readyL ws (orderP ws) st).getD (nextL ws (readyL ws (orderP ws) st) i).toNat 0 = (readyL ws (orderP ws) st).getD i.toNat 0 - (ws.getD i.toNat default).minutes /\ st.getD i.toNat false = true := by
  have hR := opened_right hO
  have hq := ready_eq hO st h0 h1
  have hn := right_nums hR (i := i.toNat) (by omega)
  have hst : st.getD i.toNat false = true := by
    by_cases hst : st.getD i.toNat false = true
    · exact hst
    · rw [if_neg hst] at hq; omega
  rw [if_pos hst] at hq
  obtain ⟨k, hk, hbk⟩ := begF_mem (readyL ws (orderP ws) st) (ws.getD i.toNat default).of (by omega)
  have hany : (ws.getD i.toNat default).of.any (fun k : Int => (readyL ws (orderP ws) st).getD k.toNat 0 == (readyL ws (orderP ws) st).getD i.toNat 0 - (ws.getD i.toNat default).minutes) = true :=
    List.any_eq_true.2 ⟨k, hk, by rw [hbk, hq]; simp⟩
  obtain ⟨h2, h3, h4⟩ := idxP_spec (0 : Int) hany
  have hmem : nextL ws (readyL ws (orderP ws) st) i ∈ (ws.getD i.toNat default).of := getD_mem _ h2 h3 0
  have hr := right_of hR (i := i.toNat) (by omega) _ hmem
  exact ⟨h2, h3, hr.1, hr.2.1, posO_lt (order_all hO h0 h1) hmem, hmem, eq_of_beq h4, hst⟩
/-- The work that is ready last. -/
def lastL (a : List Int) : Int := idxI a (maxT a a.length)
theorem lastL_rng {a : List Int} (h : 1 <= a.length) : 0 <= lastL a /\ lastL a < a.length /\ a.getD (lastL a).toNat 0 = maxT a a.length := idxI_spec (maxT_mem h _)
def longL (ws : List Work) (a : List Int) : List Int := (longF ws a ws.length (lastL a) [lastL a]).reverse
def longestE (ws : List Work) (rev : List Int) : Int := if askedE ws rev ≠ 0 then askedE ws rev else if rev.length = 0 then 5 else 0
/-- A line of stale works that takes longest, if there is one. -/
def longestR (ws : List Work) (rev : List Int) : List Int := if longestE ws rev = 0 then longL ws (readyL ws (orderP ws) (staleL ws rev)) else []
theorem longest_wrong {ws : List Work} {rev : List Int} (h : askedE ws rev ≠ 0) : longestE ws rev = askedE ws rev /\ longestR ws rev = [] := by
  have : longestE ws rev = askedE ws rev := by unfold longestE; rw [if_pos h]
  exact ⟨this, by unfold longestR; rw [this, if_neg h]⟩
theorem longest_none {ws : List Work} {rev : List Int} (h : askedE ws rev = 0) (hn : (rev.length : Int) = 0) : longestE ws rev = 5 /\ longestR ws rev = [] := by
  have : longestE ws rev = 5 := by unfold longestE; rw [if_neg (by simp [h]), if_pos (by omega)]
  exact ⟨this, by unfold longestR; rw [this, if_neg (by decide)]⟩
theorem longest_ok {ws : List Work} {rev : List Int} (h : askedE ws rev = 0) (hn : ¬ (rev.length : Int) = 0) : longestE ws rev = 0 /\ longestR ws rev = longL ws (readyL ws (orderP ws) (staleL ws rev)) := by
  have : longestE ws rev = 0 := by unfold longestE; rw [if_neg (by simp [h]), if_neg (by omega)]
  exact ⟨this, by unfold longestR; rw [this, if_pos rfl]⟩
theorem longF_step {ws : List Work} {a : List Int} {f : Nat} {i : Int} {out : List Int} (hf : 1 <= f) (c : (ws.getD i.toNat default).minutes < a.getD i.toNat 0) : longF ws a f i out = longF ws a (f - 1) (nextL ws a i) (out ++ [nextL ws a i]) := by
  obtain ⟨g, rfl⟩ : ∃ g, f = g + 1 := ⟨f - 1, by omega⟩
  simp only [longF, Nat.add_sub_cancel]
  rw [if_pos c]
theorem longF_end {ws : List Work} {a : List Int} {f : Nat} {i : Int} {out : List Int} (c : ¬ (ws.getD i.toNat default).minutes < a.getD i.toNat 0) : longF ws a f i out = out := by
  cases f with
  | zero => rfl
  | succ f => simp only [longF]; rw [if_neg c]
theorem readyL_bound {ws : List Work} (hR : rightE ws = 0) (st : List Bool) : ∀ y ∈ readyL ws (orderP ws) st, -1 <= y /\ y <= 300000 := by
  intro y hy
  have := readyF_bound hR st (List.replicate ws.length (-1)) (orderP ws) (order_rng ws) (fun y hy => by have := List.eq_of_mem_replicate hy; omega) (orderP ws).length (Nat.le_refl _) y (by rw [List.take_length]; exact hy)
  have := order_len ws
  have := (right_len hR).2
  omega
theorem readyL_at {ws : List Work} (hR : rightE ws = 0) (st : List Bool) {i : Nat} (h : (i : Int) < ws.length) : -1 <= (readyL ws (orderP ws) st).getD i 0 /\ (readyL ws (orderP ws) st).getD i 0 <= 300000 :=
  readyL_bound hR st _ (getD_memN _ (by rw [readyL_len]; exact h) 0)
end Go.Nm
namespace Go.Nm
open Go
structure Gate where
  src : Int
  dst : Int
deriving DecidableEq, Inhabited
abbrev encN (n : Note) : Value := .agg #[I n.work, I n.version, I n.value]
abbrev encG (g : Gate) : Value := .agg #[I g.src, I g.dst]
theorem note_val (o : Option Note) : (o.map encN).getD (.agg #[I 0, I 0, I 0]) = .agg #[I (o.getD default).work, I (o.getD default).version, I (o.getD default).value] := by cases o <;> rfl
theorem bool_val (o : Option Bool) : (o.map B).getD (.bool false) = B (o.getD false) := by cases o <;> rfl
theorem int_val (o : Option Int) : (o.map I).getD (.int .i64 0) = I (o.getD 0) := by cases o <;> rfl
section
variable {P : Program} {w : World} {σ : Env} {d : Nat} {ty : TypeId} {pos : String} {af : Array Edge} {g : Option (Nat × Bool)}
theorem x_neS {t yt : TypeId} {x y : Operand} {xs ys : Array Value} {r : Bool} (he : (Op.equalIn 10000 t (.agg xs) (.agg ys)).run P w = .ok r w) (hm : P.eqGuardType P.depth t = false) (hx : ev σ x = .agg xs) (hy : ev σ y = .agg ys) :
    (execOp (ev σ) ⟨some d, .binOp .neq t x y yt, ty, pos, af, g⟩).run P w = .ok (.value (.bool !r)) w := by
  simp [execOp, hx, hy, run_eqGuard_agg _ _ _ _ _ _ _ hm, run_neq_struct, he]
end
end Go.Nm
namespace Go.Proofs.Ytndobgodeicloaa
open Go Go.Nm Go.Proofs
theorem eqN (a b : Note) (w : World) : (Op.equalIn 10000 30 (encN a) (encN b)).run Try.prog w = .ok (decide (a = b)) w := by
  have u3 := Try.underlying3
  have a3 := Try.isAgg3
  have z3 := Try.sizeOf3
  have hS : Try.prog.underlying 30 = some (.struct (Try.prog.fieldsOf 30)) := by kernel_rfl
  have hp : Try.prog.stoodInHeld 30 = false := by kernel_rfl
  obtain ⟨a1, a2, a3'⟩ := a
  obtain ⟨b1, b2, b3⟩ := b
  rw [show (10000 : Nat) = 9999 + 1 from rfl, run_equalIn_agg w 9999 30 _ _ hS hp]
  simp only [Program.fieldsOf, Try.underlying30]
  go_simp
  by_cases h1 : a1 = b1 <;> by_cases h2 : a2 = b2 <;> by_cases h3 : a3' = b3 <;> simp [h1, h2, h3]
theorem eqG (a b : Gate) (w : World) : (Op.equalIn 10000 182 (encG a) (encG b)).run Try.prog w = .ok (decide (a = b)) w := by
  have u3 := Try.underlying3
  have a3 := Try.isAgg3
  have z3 := Try.sizeOf3
  have hS : Try.prog.underlying 182 = some (.struct (Try.prog.fieldsOf 182)) := by kernel_rfl
  have hp : Try.prog.stoodInHeld 182 = false := by kernel_rfl
  obtain ⟨a1, a2⟩ := a
  obtain ⟨b1, b2⟩ := b
  rw [show (10000 : Nat) = 9999 + 1 from rfl, run_equalIn_agg w 9999 182 _ _ hS hp]
  simp only [Program.fieldsOf, Try.underlying182]
  go_simp
  by_cases h1 : a1 = b1 <;> by_cases h2 : a2 = b2 <;> simp [h1, h2]
theorem findAskG {ν : Type} (k : Gate) (w : World) : ∀ (es : List MapEntry) (m : List (Gate × ν)) (venc : ν -> Value) (j : Nat), es.map (fun e => (e.key, e.val)) = m.map (fun p => (encG p.1, venc p.2)) →
    (Instr.findAsking 182 (encG k) es j).run Try.prog w = .ok ((idxM m k).bind fun i => (es[i]?).map fun e => (i + j, e.val)) w
  | [], [], _, _, _ => rfl
  | [], _ :: _, _, _, h => by simp at h
  | _ :: _, [], _, _, h => by simp at h
  | e :: es, p :: m, venc, j, h => by
    simp only [List.map_cons, List.cons.injEq, Prod.mk.injEq] at h
    have ih := findAskG k w es m venc (j + 1) h.2
    unfold Instr.findAsking
    rw [h.1.1]
    have he := eqG k p.1 w
    unfold idxM
    by_cases hp : p.1 = k
    · rw [if_pos hp]
      have : decide (k = p.1) = true := by simp [hp]
      rw [this] at he
      simp [Op.equal, Op.maxDepth, he]
    · rw [if_neg hp]
      have : decide (k = p.1) = false := by simp; exact fun e => hp e.symm
      rw [this] at he
      simp only [Op.equal, Op.maxDepth, Sem.run_bind, he, Result.andThen_ok, Bool.false_eq_true, if_false, ih]
      cases hi : idxM m k with
      | none => rfl
      | some i =>
        simp only [Option.map_some, Option.bind_some, List.getElem?_cons_succ]
        cases es[i]? with
        | none => rfl
        | some e' => simp; omega
theorem keyGate : KeyL (ν := Int) Try.prog 182 encG := by
  refine ⟨fun e w k => ?_, fun w es m venc k h => ?_, fun k => ?_⟩
  · have u3 := Try.underlying3
    have a3 := Try.isAgg3
    have z3 := Try.sizeOf3
    have h1 : ∀ (n : Nat) (x : Int), (Instr.checkKey e (n + 1) 3 (I x)).run Try.prog w = .ok () w := fun n x => MapKept.run_checkKey u3 (show MapKept.IsKey (.int .i64) (I x) from rfl) e n
    have key : ∀ n : Nat, (Instr.checkKey e (n + 1 + 1) 182 (encG k)).run Try.prog w = .ok () w := by
      intro n
      rw [Instr.checkKey]
      simp only [Sem.run_bind, run_underlying Try.underlying182, Result.andThen_ok]
      rw [← Array.forIn_toList]
      simp only [List.forIn_cons, List.forIn_nil]
      go_simp
    exact key 9998
  · rw [run_findKey_eq w (by rw [Try.underlying182]), findAskG k w es m venc 0 h]
    rfl
  · simp [Instr.sameBits]
theorem gdN : Try.prog.eqGuardType Try.prog.depth 30 = false := by kernel_rfl
theorem keyInt : KeyL (ν := Note) Try.prog 3 I := KeyL.int Try.underlying3
theorem keyIntB : KeyL (ν := Bool) Try.prog 3 I := KeyL.int Try.underlying3
end Go.Proofs.Ytndobgodeicloaa
namespace Go.Nm
/-- Do two notes contradict each other? -/
def twP (m n : Note) : Bool := ((m.work == n.work) && (m.version == n.version)) && !(decide (m = n))
def twAt (l : List Note) (i : Nat) : Bool := (l.take i).any fun m => twP m (l.getD i default)
def newStep (f : Int -> Option Note) (n : Note) : Int -> Option Note := if !((f n.work).isSome) || decide (((f n.work).getD default).version < n.version) then updF f n.work n else f
/-- The newest note of each work. -/
def newF (l : List Note) : Int -> Option Note := l.foldl newStep fun _ => none
theorem newF_next (l : List Note) {i : Nat} (h : (i : Int) < l.length) : newF (l.take (i + 1)) = newStep (newF (l.take i)) (l.getD i default) := by
  unfold newF
  rw [take_succ_getD l (by omega) default, List.foldl_append]; rfl
def sumV (out : List Int) (base : Int) (of : List Int) : Nat -> Int
  | 0 => base
  | j + 1 => sumV out base of j + ((j : Int) + 1) * out.getD (of.getD j 0).toNat 0
def noteV (f : Int -> Option Note) (out : List Int) (i : Int) : List Int := if (f i).isSome then out.set i.toNat ((f i).getD default).value else out
def valStep (ws : List Work) (f : Int -> Option Note) (out : List Int) (i : Int) : List Int :=
  if (((ws.getD i.toNat default).of.length : Int) == 0) || !((ws.getD i.toNat default).of.all fun k => (noteV f out i).getD k.toNat 0 != -1) then noteV f out i
  else (noteV f out i).set i.toNat (sumV (noteV f out i) (ws.getD i.toNat default).base (ws.getD i.toNat default).of (ws.getD i.toNat default).of.length % 1000003)
def valF (ws : List Work) (f : Int -> Option Note) (l out : List Int) : List Int := l.foldl (valStep ws f) out
def valL (ws : List Work) (l : List Note) : List Int := valF ws (newF l) (orderP ws) (List.replicate ws.length (-1))
theorem valF_next (ws : List Work) (f : Int -> Option Note) (l out : List Int) {k : Nat} (h : (k : Int) < l.length) : valF ws f (l.take (k + 1)) out = valStep ws f (valF ws f (l.take k) out) (l.getD k 0) := by
  unfold valF
  rw [take_succ_getD l (by omega) 0, List.foldl_append]; rfl
def argB (ws : List Work) (l : List Note) : Bool := l.all fun n => inB n.work 0 ((ws.length : Int) - 1) && (((ws.getD n.work.toNat default).of.length : Int) == 0)
def rngB (l : List Note) : Bool := l.all fun n => inB n.version 0 1000000 && inB n.value 0 1000002
/-- The error of works and notes. -/
def valuesE (ws : List Work) (l : List Note) : Int :=
  if openedE ws ≠ 0 then openedE ws else if 200 < (l.length : Int) then 3 else if !(argB ws l) then 2 else if !(rngB l) then 4 else if (List.range l.length).any (twAt l) then 10 else 0
/-- The values of works, if there is no error. -/
def valuesR (ws : List Work) (l : List Note) : List Int := if valuesE ws l = 0 then valL ws l else []
end Go.Nm
namespace Go.Nm
theorem tw_step {l : List Note} {n : Note} {j : Nat} (h : (l.take j).any (fun m => twP m n) = false) (hj : (j : Int) < l.length) (c : twP (l.getD j default) n = false) : (l.take (j + 1)).any (fun m => twP m n) = false := by
  rw [any_take_succ (fun m => twP m n) l (by omega) default, h, c]; rfl
theorem tw_end {l : List Note} {i j : Nat} (hb : (List.range i).any (twAt l) = false) (h : ((l.take i).take j).any (fun m => twP m (l.getD i default)) = false) (hj : ¬ (j : Int) < (l.take i).length) : (List.range (i + 1)).any (twAt l) = false := by
  rw [List.take_of_length_le (by omega)] at h
  rw [any_range_succ, hb]
  exact h
theorem tw_yes {l : List Note} {i j : Nat} (hi : (i : Int) < l.length) (hj : (j : Int) < (l.take i).length) (c : twP ((l.take i).getD j default) (l.getD i default) = true) : (List.range l.length).any (twAt l) = true := by
  refine List.any_eq_true.2 ⟨i, List.mem_range.2 (by omega), List.any_eq_true.2 ⟨_, getD_memN _ hj default, c⟩⟩
theorem v_wrong {ws : List Work} {l : List Note} (h : openedE ws ≠ 0) : valuesE ws l = openedE ws /\ valuesR ws l = [] := by
  have : valuesE ws l = openedE ws := by unfold valuesE; rw [if_pos h]
  exact ⟨this, by unfold valuesR; rw [this, if_neg h]⟩
theorem v_err {ws : List Work} {l : List Note} {e : Int} (h : valuesE ws l = e) (he : e ≠ 0) : valuesR ws l = [] := by unfold valuesR; rw [h, if_neg he]
theorem v_many {ws : List Work} {l : List Note} (h : openedE ws = 0) (c : 200 < (l.length : Int)) : valuesE ws l = 3 := by unfold valuesE; rw [if_neg (by simp [h]), if_pos c]
theorem v_arg {ws : List Work} {l : List Note} (h : openedE ws = 0) (c : ¬ 200 < (l.length : Int)) (c2 : (!(argB ws l)) = true) : valuesE ws l = 2 := by unfold valuesE; rw [if_neg (by simp [h]), if_neg c, if_pos c2]
theorem v_rng {ws : List Work} {l : List Note} (h : openedE ws = 0) (c : ¬ 200 < (l.length : Int)) (c2 : (!(argB ws l)) = false) (c3 : (!(rngB l)) = true) : valuesE ws l = 4 := by
  unfold valuesE; rw [if_neg (by simp [h]), if_neg c, if_neg (by simp [c2]), if_pos c3]
theorem v_twice {ws : List Work} {l : List Note} (h : openedE ws = 0) (c : ¬ 200 < (l.length : Int)) (c2 : (!(argB ws l)) = false) (c3 : (!(rngB l)) = false) (c4 : (List.range l.length).any (twAt l) = true) : valuesE ws l = 10 := by
  unfold valuesE; rw [if_neg (by simp [h]), if_neg c, if_neg (by simp [c2]), if_neg (by simp [c3]), if_pos c4]
theorem v_ok {ws : List Work} {l : List Note} {i : Nat} (h : openedE ws = 0) (c : ¬ 200 < (l.length : Int)) (c2 : (!(argB ws l)) = false) (c3 : (!(rngB l)) = false) (hi : ¬ (i : Int) < l.length) (hle : i <= l.length) (c4 : (List.range i).any (twAt l) = false) :
    valuesE ws l = 0 /\ valuesR ws l = valL ws l := by
  obtain rfl : i = l.length := by omega
  have : valuesE ws l = 0 := by unfold valuesE; rw [if_neg (by simp [h]), if_neg c, if_neg (by simp [c2]), if_neg (by simp [c3]), if_neg (by simp [c4])]
  exact ⟨this, by unfold valuesR; rw [this, if_pos rfl]⟩
theorem newStep_yes {f : Int -> Option Note} {n : Note} (c : (!((f n.work).isSome) || decide (((f n.work).getD default).version < n.version)) = true) : newStep f n = updF f n.work n := by unfold newStep; rw [if_pos c]
theorem newStep_no {f : Int -> Option Note} {n : Note} (c : (!((f n.work).isSome) || decide (((f n.work).getD default).version < n.version)) = false) : newStep f n = f := by unfold newStep; rw [if_neg (by rw [c]; decide)]
theorem newF_memA : ∀ (l : List Note) (f : Int -> Option Note) (k : Int) (n : Note), l.foldl newStep f k = some n -> f k = some n ∨ n ∈ l
  | [], _, _, _, h => .inl h
  | m :: l, f, k, n, h => by
    simp only [List.foldl_cons] at h
    rcases newF_memA l (newStep f m) k n h with h1 | h1
    · unfold newStep at h1
      split at h1
      · unfold updF at h1
        split at h1
        · injection h1 with h1; subst h1; exact .inr (by simp)
        · exact .inl h1
      · exact .inl h1
    · exact .inr (by simp [h1])
theorem newF_mem {l : List Note} {k : Int} {n : Note} (h : newF l k = some n) : n ∈ l := by
  rcases newF_memA l _ k n h with h1 | h1
  · cases h1
  · exact h1
theorem newF_val {l : List Note} (c3 : (!(rngB l)) = false) (i : Nat) (k : Int) (h : (newF (l.take i) k).isSome = true) : 0 <= ((newF (l.take i) k).getD default).value /\ ((newF (l.take i) k).getD default).value <= 1000002 := by
  obtain ⟨n, hn⟩ := Option.isSome_iff_exists.1 h
  have hm := List.mem_of_mem_take (newF_mem hn)
  rw [hn]
  simp only [Bool.not_eq_false'] at c3
  have := List.all_eq_true.1 c3 n hm
  simp [inB] at this
  simp only [Option.getD_some]
  omega
theorem noteV_yes {f : Int -> Option Note} {R : List Int} {i : Int} (h : (f i).isSome = true) : noteV f R i = R.set i.toNat ((f i).getD default).value := by unfold noteV; rw [if_pos h]
theorem noteV_no {f : Int -> Option Note} {R : List Int} {i : Int} (h : (f i).isSome = false) : noteV f R i = R := by unfold noteV; rw [if_neg (by simp [h])]
theorem val_skip {ws : List Work} {f : Int -> Option Note} {R O : List Int} {i : Int} (hO : noteV f R i = O)
    (c : (((((ws.getD i.toNat default).of.length : Int) == 0)) || !((ws.getD i.toNat default).of.all fun k => O.getD k.toNat 0 != -1)) = true) : valStep ws f R i = O := by
  unfold valStep; rw [hO, if_pos c]
theorem val_set {ws : List Work} {f : Int -> Option Note} {R O : List Int} {i : Int} (hO : noteV f R i = O)
    (c : (((((ws.getD i.toNat default).of.length : Int) == 0)) || !((ws.getD i.toNat default).of.all fun k => O.getD k.toNat 0 != -1)) = false) {j : Nat} (hj : ¬ (j : Int) < (ws.getD i.toNat default).of.length) (hle : j <= (ws.getD i.toNat default).of.length) :
    valStep ws f R i = O.set i.toNat (sumV O (ws.getD i.toNat default).base (ws.getD i.toNat default).of j % 1000003) := by
  obtain rfl : j = (ws.getD i.toNat default).of.length := by omega
  unfold valStep; rw [hO, if_neg (by simp only [c]; simp)]
theorem noteV_len (f : Int -> Option Note) (R : List Int) (i : Int) : (noteV f R i).length = R.length := by unfold noteV; split <;> simp
theorem valStep_len (ws : List Work) (f : Int -> Option Note) (R : List Int) (i : Int) : (valStep ws f R i).length = R.length := by
  unfold valStep; split <;> simp [noteV_len]
theorem valF_len (ws : List Work) (f : Int -> Option Note) : ∀ (l out : List Int), (valF ws f l out).length = out.length
  | [], _ => rfl
  | i :: l, out => (valF_len ws f l _).trans (valStep_len ws f out i)
def VB (l : List Int) : Prop := ∀ y ∈ l, -1 <= y /\ y <= 1000002
theorem VB.set {l : List Int} (h : VB l) {v : Int} (h1 : -1 <= v) (h2 : v <= 1000002) (k : Nat) : VB (l.set k v) := by
  intro y hy
  rcases List.mem_or_eq_of_mem_set hy with h3 | h3
  · exact h y h3
  · omega
theorem VB.at {l : List Int} (h : VB l) {k : Nat} (hk : (k : Int) < l.length) : -1 <= l.getD k 0 /\ l.getD k 0 <= 1000002 := h _ (getD_memN l hk 0)
theorem valStep_VB {ws : List Work} {f : Int -> Option Note} (hf : ∀ k, (f k).isSome = true -> 0 <= ((f k).getD default).value /\ ((f k).getD default).value <= 1000002) {R : List Int} (h : VB R) (i : Int) : VB (valStep ws f R i) := by
  have hn : VB (noteV f R i) := by
    unfold noteV
    split
    · rename_i h1
      have := hf i h1
      exact h.set (by omega) (by omega) _
    · exact h
  unfold valStep
  split
  · exact hn
  · exact hn.set (by have := Int.emod_nonneg (sumV (noteV f R i) (ws.getD i.toNat default).base (ws.getD i.toNat default).of (ws.getD i.toNat default).of.length) (show (1000003 : Int) ≠ 0 by decide); omega)
      (by have := Int.emod_lt_of_pos (sumV (noteV f R i) (ws.getD i.toNat default).base (ws.getD i.toNat default).of (ws.getD i.toNat default).of.length) (show (0 : Int) < 1000003 by decide); omega) _
theorem valF_VB {ws : List Work} {f : Int -> Option Note} (hf : ∀ k, (f k).isSome = true -> 0 <= ((f k).getD default).value /\ ((f k).getD default).value <= 1000002) : ∀ (l : List Int) {R : List Int}, VB R -> VB (valF ws f l R)
  | [], _, h => h
  | i :: l, _, h => valF_VB hf l (valStep_VB hf h i)
theorem prod_b {a b : Int} (h1 : 0 <= a) (h2 : a <= 5) (h3 : 0 <= b) (h4 : b <= 1000002) : 0 <= a * b /\ a * b <= 5000010 :=
  ⟨Int.mul_nonneg h1 h3, by have := Int.mul_le_mul h2 h4 h3 (show (0 : Int) <= 5 by decide); omega⟩
theorem sumV_b {out : List Int} {base : Int} {of : List Int} (hb : 0 <= base /\ base <= 1000002) (h5 : of.length <= 5) (hof : ∀ k ∈ of, 0 <= out.getD k.toNat 0 /\ out.getD k.toNat 0 <= 1000002) : ∀ j : Nat, j <= of.length -> 0 <= sumV out base of j /\ sumV out base of j <= 1000002 + 5000010 * (j : Int)
  | 0, _ => by simp only [sumV]; omega
  | j + 1, hj => by
    have ih := sumV_b hb h5 hof j (by omega)
    have hm := hof _ (getD_memN of (i := j) (by omega) 0)
    have := prod_b (a := (j : Int) + 1) (by omega) (by omega) hm.1 hm.2
    simp only [sumV]
    omega
theorem known_vals {O of : List Int} {len0 : Bool} (c : (len0 || !(of.all fun k => O.getD k.toNat 0 != -1)) = false) (hO : VB O) (hr : ∀ k ∈ of, 0 <= k /\ k < (O.length : Int)) : ∀ k ∈ of, 0 <= O.getD k.toNat 0 /\ O.getD k.toNat 0 <= 1000002 := by
  intro k hk
  simp only [Bool.or_eq_false_iff, Bool.not_eq_false'] at c
  have h1 := List.all_eq_true.1 c.2 k hk
  have h2 := hO.at (k := k.toNat) (by have := hr k hk; omega)
  have h3 : O.getD k.toNat 0 ≠ -1 := by simpa [-List.getD_eq_getElem?_getD] using h1
  omega
end Go.Nm
namespace Go.Nm
def pubB (ws : List Work) (p : List Pub) : Bool := p.all fun x => inB x.work 0 ((ws.length : Int) - 1)
def wdAt (v : List Int) (x : Pub) : Bool := (v.getD x.work.toNat 0 == -1) || (v.getD x.work.toNat 0 != x.value)
def wdT (v : List Int) (p : List Pub) (n : Nat) : List Int := ((List.range n).filter fun j => wdAt v (p.getD j default)).map (fun j : Nat => (j : Int))
theorem wdT_next (v : List Int) (p : List Pub) (n : Nat) : wdT v p (n + 1) = if wdAt v (p.getD n default) = true then wdT v p n ++ [(n : Int)] else wdT v p n := by
  unfold wdT
  rw [List.range_succ, List.filter_append]
  split
  · rename_i h; simp only [List.filter_cons, h, if_true, List.filter_nil, List.map_append, List.map_cons, List.map_nil]
  · rename_i h; simp only [List.filter_cons, h, List.filter_nil, Bool.false_eq_true, if_false, List.append_nil]
theorem wdT_len (v : List Int) (p : List Pub) (n : Nat) : (wdT v p n).length <= n := by
  unfold wdT
  rw [List.length_map]
  exact Nat.le_trans (List.length_filter_le _ _) (by simp)
def withdrawnE (ws : List Work) (l : List Note) (p : List Pub) : Int := if valuesE ws l ≠ 0 then valuesE ws l else if 200 < (p.length : Int) then 3 else if (!(pubB ws p)) = true then 2 else 0
/-- The publications that are withdrawn, if there is no error. -/
def withdrawnR (ws : List Work) (l : List Note) (p : List Pub) : List Int := if withdrawnE ws l p = 0 then wdT (valuesR ws l) p p.length else []
theorem w_err {ws : List Work} {l : List Note} {p : List Pub} {e : Int} (h : withdrawnE ws l p = e) (he : e ≠ 0) : withdrawnR ws l p = [] := by unfold withdrawnR; rw [h, if_neg he]
theorem w_wrong {ws : List Work} {l : List Note} {p : List Pub} (h : ¬ valuesE ws l = 0) : withdrawnE ws l p = valuesE ws l := by unfold withdrawnE; rw [if_pos h]
theorem w_many {ws : List Work} {l : List Note} {p : List Pub} (h : valuesE ws l = 0) (c : 200 < (p.length : Int)) : withdrawnE ws l p = 3 := by unfold withdrawnE; rw [if_neg (by simp [h]), if_pos c]
theorem w_arg {ws : List Work} {l : List Note} {p : List Pub} (h : valuesE ws l = 0) (c : ¬ 200 < (p.length : Int)) (c2 : (!(pubB ws p)) = true) : withdrawnE ws l p = 2 := by unfold withdrawnE; rw [if_neg (by simp [h]), if_neg c, if_pos c2]
theorem w_ok {ws : List Work} {l : List Note} {p : List Pub} {i : Nat} (h : valuesE ws l = 0) (c : ¬ 200 < (p.length : Int)) (c2 : (!(pubB ws p)) = false) (hi : ¬ (i : Int) < p.length) (hle : i <= p.length) :
    withdrawnE ws l p = 0 /\ withdrawnR ws l p = wdT (valuesR ws l) p i := by
  obtain rfl : i = p.length := by omega
  have : withdrawnE ws l p = 0 := by unfold withdrawnE; rw [if_neg (by simp [h]), if_neg c, if_neg (by rw [c2]; decide)]
  exact ⟨this, by unfold withdrawnR; rw [this, if_pos rfl]⟩
theorem pub_rng {ws : List Work} {p : List Pub} (c2 : (!(pubB ws p)) = false) {i : Nat} (hi : (i : Int) < p.length) : 0 <= (p.getD i default).work /\ (p.getD i default).work < ws.length := by
  simp only [Bool.not_eq_false'] at c2
  have := List.all_eq_true.1 c2 _ (getD_memN p hi default)
  simp [inB, -List.getD_eq_getElem?_getD] at this
  omega
theorem valuesR_len {ws : List Work} {l : List Note} (h : valuesE ws l = 0) : (valuesR ws l).length = ws.length := by
  unfold valuesR valL
  rw [if_pos h, valF_len]
  simp
end Go.Nm
namespace Go.Nm
section
variable {α : Type} [DecidableEq α] {a b : List α}
theorem same_len (h : ¬ (a.length : Int) = b.length) : false = decide (a = b) := by
  symm
  simp only [decide_eq_false_iff_not]
  intro e
  subst e
  exact h rfl
theorem same_ne {k : Nat} (d : α) (h : ¬ a.getD k d = b.getD k d) : false = decide (a = b) := by
  symm
  simp only [decide_eq_false_iff_not]
  intro e
  subst e
  exact h rfl
theorem same_step {k : Nat} (d : α) (hl : (a.length : Int) = b.length) (hk : (k : Int) < a.length) (ht : a.take k = b.take k) (c : a.getD k d = b.getD k d) : a.take (k + 1) = b.take (k + 1) := by
  rw [take_succ_getD a (by omega) d, take_succ_getD b (by omega) d, ht, c]
theorem same_done {k : Nat} (hl : (a.length : Int) = b.length) (hk : ¬ (k : Int) < a.length) (ht : a.take k = b.take k) : true = decide (a = b) := by
  rw [List.take_of_length_le (by omega), List.take_of_length_le (by omega)] at ht
  simp [ht]
end
end Go.Nm
namespace Go.Nm
theorem all_take_succ {α : Type} (p : α -> Bool) (l : List α) {k : Nat} (h : k < l.length) (d : α) : (l.take (k + 1)).all p = ((l.take k).all p && p (l.getD k d)) := by
  rw [take_succ_getD l h d, List.all_append]; simp
end Go.Nm
namespace Go.Nm
end Go.Nm
namespace Go.Nm
section
variable {ws : List Work}
end
end Go.Nm
namespace Go.Nm
/-- A loop whose states are known. -/
theorem M.i_for {σ ρ : Type} {body : σ -> M (σ ⊕ ρ)} {r : ρ} (st : Nat -> σ) (n : Nat) (step : ∀ i, i < n -> (body (st i)).Ends (.inl (st (i + 1)))) (fin : (body (st n)).Ends (.inr r)) : (M.iter body (st 0)).Ends r := by
  refine M.i_loop (r := r) (fun m s => ∃ i, i <= n /\ m = n - i /\ s = st i) ?_ n (st 0) ⟨0, Nat.zero_le _, rfl, rfl⟩
  rintro m s ⟨i, hi, rfl, rfl⟩
  by_cases h : i < n
  · exact .inl ⟨_, n - (i + 1), by omega, step i h, i + 1, h, rfl, rfl⟩
  · obtain rfl : i = n := by omega
    exact .inr fin
theorem M.grdD {α : Type} {p : Prop} [Decidable p] {k : M α} {r : α} (hp : p) (h : k.Ends r) : (M.grd (decide p) k).Ends r := M.i_grd (decide_eq_true hp) h
theorem M.i_t {α : Type} {b : Bool} {x y : M α} {r : α} (hb : b = true) (h : x.Ends r) : (bif b then x else y).Ends r := by subst hb; exact h
theorem M.i_f {α : Type} {b : Bool} {x y : M α} {r : α} (hb : b = false) (h : y.Ends r) : (bif b then x else y).Ends r := by subst hb; exact h
end Go.Nm
namespace Go.Nm
/-- A way from one work to another one that is made of it. -/
inductive Wy (ws : List Work) : Nat -> Nat -> Prop
  | one {a b : Nat} (h : (a : Int) ∈ (ws.getD b default).of) (hb : b < ws.length) : Wy ws a b
  | more {a m b : Nat} (w : Wy ws a m) (h : (m : Int) ∈ (ws.getD b default).of) (hb : b < ws.length) : Wy ws a b
def Tb (T : List (List Bool)) (a b : Nat) : Bool := (T.getD a []).getD b false
def fc : List Bool -> Nat
  | [] => 0
  | true :: l => fc l
  | false :: l => fc l + 1
def fT : List (List Bool) -> Nat
  | [] => 0
  | r :: T => fc r + fT T
theorem gset {α : Type} (l : List α) (i j : Nat) (x d : α) (h : i < l.length) : (l.set i x).getD j d = if j = i then x else l.getD j d := by
  simp only [List.getD_eq_getElem?_getD, List.getElem?_set]
  by_cases e : i = j
  · subst e; simp [h]
  · rw [if_neg e, if_neg (fun h => e h.symm)]
theorem getD_el {α : Type} (l : List α) {k : Nat} (h : k < l.length) (d : α) : l.getD k d = l[k] := by rw [List.getD_eq_getElem?_getD, List.getElem?_eq_getElem h, Option.getD_some]
structure Sq (n : Nat) (T : List (List Bool)) : Prop where
  len : T.length = n
  row : ∀ a, a < n -> (T.getD a []).length = n
theorem Sq.put {n : Nat} {T : List (List Bool)} (h : Sq n T) {a b : Nat} (ha : a < n) : Sq n (T.set a ((T.getD a []).set b true)) := by
  refine ⟨by rw [List.length_set]; exact h.len, fun a' ha' => ?_⟩
  rw [gset _ _ _ _ _ (by rw [h.len]; exact ha)]
  split
  · rw [List.length_set]; exact h.row a ha
  · exact h.row a' ha'
/-- The rule at one place. -/
def ClAt (ws : List Work) (T : List (List Bool)) (b k a : Nat) : Prop :=
  (((a : Int) == ((ws.getD b default).of).getD k 0) || Tb T a (Int.toNat (((ws.getD b default).of).getD k 0))) = true -> Tb T a b = true
structure BInv (ws : List Work) (T0 : List (List Bool)) (pr : Nat -> Nat -> Nat -> Prop) (T : List (List Bool)) (ch : Bool) : Prop where
  sq : Sq ws.length T
  sound : ∀ a b, Tb T a b = true -> Wy ws a b
  yes : ch = true -> fT T < fT T0
  no : ch = false -> T = T0 /\ ∀ b k a, pr b k a -> ClAt ws T b k a
theorem BInv.imp {ws : List Work} {T0 T : List (List Bool)} {pr pr' : Nat -> Nat -> Nat -> Prop} {ch : Bool} (h : BInv ws T0 pr T ch) (hp : ∀ b k a, pr' b k a -> pr b k a) : BInv ws T0 pr' T ch :=
  ⟨h.sq, h.sound, h.yes, fun e => ⟨(h.no e).1, fun b k a hh => (h.no e).2 b k a (hp b k a hh)⟩⟩
theorem gOr {c : Bool} {p : Prop} [Decidable p] (hp : p) : (!c || decide p) = true := by rw [decide_eq_true hp, Bool.or_true]
theorem gOr2 {c : Bool} {p q : Prop} [Decidable p] [Decidable q] (hp : p) (hq : q) : (!c || (decide p && decide q)) = true := by rw [decide_eq_true hp, decide_eq_true hq]; cases c <;> rfl
theorem gA2 {p q : Prop} [Decidable p] [Decidable q] (hp : p) (hq : q) : (decide p && decide q) = true := by rw [decide_eq_true hp, decide_eq_true hq]; rfl
theorem gA3 {p q r : Prop} [Decidable p] [Decidable q] [Decidable r] (hp : p) (hq : q) (hr : r) : (decide p && decide q && decide r) = true := by rw [decide_eq_true hp, decide_eq_true hq, decide_eq_true hr]; rfl
end Go.Nm
namespace Go.Nm
theorem orderF_stuck {ws : List Work} : ∀ (f : Nat) (out : List Int), (orderF ws f out).length < out.length + f -> nextR ws (orderF ws f out) = none
  | 0, out, h => by simp only [orderF] at h; omega
  | f + 1, out, h => by
    unfold orderF at h ⊢
    cases hn : nextR ws out with
    | none => exact hn
    | some i =>
      rw [hn] at h
      dsimp only at h ⊢
      exact orderF_stuck f _ (by simp only [List.length_append, List.length_cons, List.length_nil]; omega)
theorem nodup_sub : ∀ (l m : List Int), l.Nodup -> (∀ x ∈ l, x ∈ m) -> l.length <= m.length
  | [], _, _, _ => Nat.zero_le _
  | x :: l, m, hn, hs => by
    rw [List.nodup_cons] at hn
    have h1 := nodup_sub l (m.erase x) hn.2 (fun y hy => (List.mem_erase_of_ne (show y ≠ x from fun e => hn.1 (by rw [← e]; exact hy))).2 (hs y (List.mem_cons_of_mem _ hy)))
    have h2 := hs x (List.mem_cons_self ..)
    rw [List.length_erase_of_mem h2] at h1
    have := List.length_pos_of_mem h2
    simp only [List.length_cons]
    omega
theorem order_circle {ws : List Work} (hR : rightE ws = 0) (h : (orderP ws).length < ws.length) : ∃ i, i < ws.length /\ Wy ws i i := by
  have hst : nextR ws (orderP ws) = none := orderF_stuck ws.length [] (by simpa [orderP] using h)
  have hnr : ∀ i, i < ws.length -> readyAt ws (orderP ws) i = false := by
    intro i hi
    unfold nextR at hst
    rw [List.find?_eq_none] at hst
    simpa using hst i (List.mem_range.2 hi)
  have step : ∀ i, i < ws.length -> (i : Int) ∉ orderP ws -> ∃ k, k < ws.length /\ (k : Int) ∉ orderP ws /\ (k : Int) ∈ (ws.getD i default).of := by
    intro i hi hni
    have h1 := hnr i hi
    unfold readyAt at h1
    have h2 : (orderP ws).contains (i : Int) = false := by simpa using hni
    rw [h2, Bool.not_false, Bool.true_and, List.all_eq_false] at h1
    obtain ⟨x, hx, hx2⟩ := h1
    have h3 := right_of hR hi x hx
    refine ⟨x.toNat, by omega, ?_, ?_⟩
    · rw [Int.toNat_of_nonneg h3.1]; simpa using hx2
    · rw [Int.toNat_of_nonneg h3.1]; exact hx
  have start : ∃ i, i < ws.length /\ (i : Int) ∉ orderP ws := by
    refine Classical.byContradiction fun hc => ?_
    have h1 : ∀ i, i < ws.length -> (i : Int) ∈ orderP ws := fun i hi => Classical.byContradiction fun hn => hc ⟨i, hi, hn⟩
    have h2 : ((List.range ws.length).map fun i : Nat => (i : Int)).length <= (orderP ws).length := by
      refine nodup_sub _ _ ?_ ?_
      · rw [List.Nodup, List.pairwise_map]
        exact List.nodup_range.imp fun hne e => hne (by omega)
      · intro x hx
        obtain ⟨i, hi, rfl⟩ := List.mem_map.1 hx
        exact h1 i (List.mem_range.1 hi)
    simp at h2
    omega
  obtain ⟨i0, hi0, hn0⟩ := start
  have hg : ∃ g : Nat -> Nat, ∀ i, i < ws.length -> (i : Int) ∉ orderP ws -> g i < ws.length /\ (g i : Int) ∉ orderP ws /\ (g i : Int) ∈ (ws.getD i default).of := by
    refine ⟨fun i => if hh : i < ws.length /\ (i : Int) ∉ orderP ws then (step i hh.1 hh.2).choose else 0, fun i h1 h2 => ?_⟩
    dsimp only
    rw [dif_pos (show i < ws.length /\ (i : Int) ∉ orderP ws from ⟨h1, h2⟩)]
    exact (step i h1 h2).choose_spec
  obtain ⟨g, hg⟩ := hg
  let sq : Nat -> Nat := fun j => Nat.rec i0 (fun _ x => g x) j
  have hs : ∀ j : Nat, sq j < ws.length /\ (Int.ofNat (sq j)) ∉ orderP ws := by
    intro j
    induction j with
    | zero => exact ⟨hi0, hn0⟩
    | succ j ih => exact ⟨(hg _ ih.1 ih.2).1, (hg _ ih.1 ih.2).2.1⟩
  have hw : ∀ d p : Nat, Wy ws (sq (p + d + 1)) (sq p) := by
    intro d
    induction d with
    | zero => intro p; exact .one (hg _ (hs p).1 (hs p).2).2.2 (hs p).1
    | succ d ih =>
      intro p
      have := ih (p + 1)
      rw [show p + 1 + d + 1 = p + (d + 1) + 1 from by omega] at this
      exact .more this (hg _ (hs p).1 (hs p).2).2.2 (hs p).1
  refine Classical.byContradiction fun hc => ?_
  have hne : ∀ p q : Nat, p < q -> sq p ≠ sq q := by
    intro p q hpq e
    have := hw (q - p - 1) p
    rw [show p + (q - p - 1) + 1 = q from by omega, ← e] at this
    exact hc ⟨sq p, (hs p).1, this⟩
  have h1 := nodup_bound ws.length ((List.range (ws.length + 1)).map fun j => Int.ofNat (sq j)) (by
    rw [List.Nodup, List.pairwise_map]
    exact List.pairwise_lt_range.imp fun hlt e => hne _ _ hlt (Int.ofNat.inj e)) (fun x hx => by
    obtain ⟨j, _, rfl⟩ := List.mem_map.1 hx
    have := (hs j).1
    show 0 <= ((sq j : Nat) : Int) /\ ((sq j : Nat) : Int) < _
    omega)
  simp at h1
  omega
end Go.Nm
namespace Go.Nm
end Go.Nm
namespace Go.Nm
variable {ws : List Work}
/-! ### The line that takes longest -/
/-- Is each work of a line made of the one ahead of it? -/
def lineB (ws : List Work) : List Int -> Bool
  | a :: b :: l => (ws.getD b.toNat default).of.contains a && lineB ws (b :: l)
  | _ => true
/-- What the list behind a work is like: it goes back along works that had to be waited for. -/
structure Back (ws : List Work) (st : List Bool) (i : Int) (r : List Int) : Prop where
  rng : ∀ x ∈ r, 0 <= x /\ x < (ws.length : Int) /\ st.getD x.toNat false = true
  line : lineB ws (r.reverse ++ [i]) = true
  sum : ∀ z, r.foldl (fun s i => s + (ws.getD i.toNat default).minutes) z = z + (readyL ws (orderP ws) st).getD i.toNat 0 - (ws.getD i.toNat default).minutes
end Go.Nm
namespace Go.Nm
variable {ws : List Work} {rev : List Int}
theorem lineB_at : ∀ (l : List Int), lineB ws l = !((List.range (l.length - 1)).any fun i => !((ws.getD (l.getD (i + 1) 0).toNat default).of.contains (l.getD i 0)))
  | [] => rfl
  | [_] => rfl
  | a :: b :: l => by
    have ih := lineB_at (b :: l)
    simp only [lineB]
    rw [ih]
    simp only [List.length_cons, Nat.add_sub_cancel]
    rw [List.range_succ_eq_map, List.any_cons, List.any_map]
    simp only [List.getD_cons_zero, List.getD_cons_succ, Nat.zero_add, Function.comp_def, Nat.succ_eq_add_one]
    cases (ws.getD b.toNat default).of.contains a <;> simp
end Go.Nm
namespace Go.Nm
namespace M
variable {α β σ ρ : Type}
def Out (m : M α) (Q : α -> Prop) : Prop := ∃ r, m.Ends r /\ Q r
theorem o_of {m : M α} {a : α} {Q : α -> Prop} (h : m.Ends a) (q : Q a) : m.Out Q := ⟨a, h, q⟩
theorem o_pure {a : α} {Q : α -> Prop} (h : Q a) : (pure a).Out Q := ⟨a, i_pure, h⟩
theorem o_mono {m : M α} {P Q : α -> Prop} (h : m.Out P) (k : ∀ a, P a -> Q a) : m.Out Q := by
  obtain ⟨a, h1, h2⟩ := h
  exact ⟨a, h1, k a h2⟩
theorem o_bind {m : M α} {k : α -> M β} {P : α -> Prop} {Q : β -> Prop} (h : m.Out P) (h' : ∀ a, P a -> (k a).Out Q) : (bind m k).Out Q := by
  obtain ⟨a, h1, h2⟩ := h
  obtain ⟨b, h3, h4⟩ := h' a h2
  exact ⟨b, i_bind h1 h3, h4⟩
theorem o_bindE {m : M α} {k : α -> M β} {a : α} {Q : β -> Prop} (h : m.Ends a) (h' : (k a).Out Q) : (bind m k).Out Q := o_bind (o_of (Q := fun x => x = a) h rfl) (fun _ e => by subst e; exact h')
theorem o_grd {b : Bool} {k : M α} {Q : α -> Prop} (hb : b = true) (h : k.Out Q) : (grd b k).Out Q := by subst hb; exact h
theorem o_grdD {p : Prop} [Decidable p] {k : M α} {Q : α -> Prop} (hp : p) (h : k.Out Q) : (grd (decide p) k).Out Q := o_grd (decide_eq_true hp) h
theorem o_if {b : Bool} {x y : M α} {Q : α -> Prop} (h : b = true -> x.Out Q) (h' : b = false -> y.Out Q) : (bif b then x else y).Out Q := by
  cases b with
  | true => exact h rfl
  | false => exact h' rfl
theorem o_t {b : Bool} {x y : M α} {Q : α -> Prop} (hb : b = true) (h : x.Out Q) : (bif b then x else y).Out Q := by subst hb; exact h
theorem o_f {b : Bool} {x y : M α} {Q : α -> Prop} (hb : b = false) (h : y.Out Q) : (bif b then x else y).Out Q := by subst hb; exact h
/-- What a round leaves. -/
def Rd (J : Nat -> σ -> Prop) (Q : ρ -> Prop) (m : Nat) : σ ⊕ ρ -> Prop
  | .inl s => ∃ m', m' < m /\ J m' s
  | .inr r => Q r
theorem o_iter {body : σ -> M (σ ⊕ ρ)} {Q : ρ -> Prop} (J : Nat -> σ -> Prop) (round : ∀ m s, J m s -> (body s).Out (Rd J Q m)) : ∀ (m : Nat) (s : σ), J m s -> (iter body s).Out Q := by
  intro m
  induction m using Nat.strongRecOn with
  | _ m ih =>
    intro s hs
    obtain ⟨x, h1, h2⟩ := round m s hs
    cases x with
    | inl s' =>
      obtain ⟨m', hlt, hj⟩ := h2
      obtain ⟨r, h3, h4⟩ := ih m' hlt s' hj
      exact ⟨r, i_next h1 h3, h4⟩
    | inr r => exact ⟨r, i_stop h1, h2⟩
/-- A loop that counts from 0 to n. -/
theorem o_for {body : σ -> M (σ ⊕ ρ)} {Q : ρ -> Prop} (n : Nat) (J : Nat -> σ -> Prop) (round : ∀ i s, i < n -> J i s -> (body s).Out (fun x => match x with | .inl s' => J (i + 1) s' | .inr r => Q r))
    (last : ∀ s, J n s -> (body s).Out (fun x => match x with | .inl _ => False | .inr r => Q r)) {s : σ} (h : J 0 s) : (iter body s).Out Q := by
  refine o_iter (fun m s => ∃ i, i <= n /\ m = n - i /\ J i s) ?_ n s ⟨0, Nat.zero_le _, rfl, h⟩
  rintro m s ⟨i, hi, rfl, hj⟩
  by_cases e : i < n
  · refine o_mono (round i s e hj) ?_
    intro x hx
    cases x with
    | inl s' => exact ⟨n - (i + 1), by omega, i + 1, e, rfl, hx⟩
    | inr r => exact hx
  · obtain rfl : i = n := by omega
    refine o_mono (last s hj) ?_
    intro x hx
    cases x with
    | inl s' => exact hx.elim
    | inr r => exact hx
end M
/-! ### Works that are made in order -/
structure BuiltAt (i : Nat) (x : Work) : Prop where
  few : x.of.length <= 5
  base : 0 <= x.base /\ x.base <= 1000002
  mins : 0 <= x.minutes /\ x.minutes <= 10000
  ahead : ∀ k ∈ x.of, 0 <= k /\ k < (i : Int)
  once : x.of.Nodup
structure Built (ws : List Work) : Prop where
  len : 1 <= ws.length /\ ws.length <= 30
  at_ : ∀ i, i < ws.length -> BuiltAt i (ws.getD i default)
variable {ws : List Work}
theorem mem_getD {α : Type} {l : List α} {x : α} (h : x ∈ l) (d : α) : ∃ i, i < l.length /\ l.getD i d = x := by
  obtain ⟨i, hi, e⟩ := List.getElem_of_mem h
  exact ⟨i, hi, by rw [getD_el l hi d]; exact e⟩
theorem Built.right (h : Built ws) : rightE ws = 0 := by
  have h1 : inB ws.length 1 30 = true := by
    have := h.len
    unfold inB
    simp only [Bool.and_eq_true, decide_eq_true_eq]
    omega
  have h2 : (ws.all fun x => decide ((x.of.length : Int) <= 5)) = true := by
    rw [List.all_eq_true]
    intro x hx
    obtain ⟨i, hi, rfl⟩ := mem_getD hx default
    have := (h.at_ i hi).few
    simp only [decide_eq_true_eq]
    omega
  have h3 : (List.range ws.length).any (badAt ws) = false := by
    rw [List.any_eq_false]
    intro i hi
    have hi := List.mem_range.1 hi
    have hb := h.at_ i hi
    unfold badAt badW
    have e1 : inB (ws.getD i default).base 0 1000002 = true := by unfold inB; simp only [Bool.and_eq_true, decide_eq_true_eq]; exact hb.base
    have e2 : inB (ws.getD i default).minutes 0 10000 = true := by unfold inB; simp only [Bool.and_eq_true, decide_eq_true_eq]; exact hb.mins
    have e3 : ((ws.getD i default).of.all fun k => inB k 0 ((ws.length : Int) - 1) && (k != (i : Int))) = true := by
      rw [List.all_eq_true]
      intro k hk
      have := hb.ahead k hk
      unfold inB
      simp only [Bool.and_eq_true, decide_eq_true_eq, bne_iff_ne, ne_eq]
      omega
    rw [e1, e2, e3]
    decide
  have h4 : (ws.any fun x => dupL x.of) = false := by
    rw [List.any_eq_false]
    intro x hx hd
    obtain ⟨i, hi, rfl⟩ := mem_getD hx default
    have hn := (h.at_ i hi).once
    unfold dupL at hd
    obtain ⟨k, hk, hd⟩ := List.any_eq_true.1 hd
    have hk := List.mem_range.1 hk
    unfold dupAt at hd
    rw [List.contains_iff_mem] at hd
    rw [← List.take_append_drop k (ws.getD i default).of, List.nodup_append] at hn
    refine hn.2.2 _ hd _ ?_ rfl
    rw [List.mem_iff_getElem]
    refine ⟨0, by rw [List.length_drop]; omega, ?_⟩
    rw [List.getElem_drop]
    simp only [Nat.add_zero]
    exact (getD_el _ hk 0).symm
  unfold rightE
  rw [if_neg (by simp only [h1, h2]; decide), if_neg (by rw [h3]; decide), if_neg (by rw [h4]; decide)]
theorem Built.way (h : Built ws) {a b : Nat} (w : Wy ws a b) : a < b := by
  induction w with
  | one ha hb => have := (h.at_ _ hb).ahead _ ha; omega
  | more w hm hb ih => have := (h.at_ _ hb).ahead _ hm; omega
theorem Built.opened (h : Built ws) : openedE ws = 0 := by
  refine opened_ok h.right ?_
  intro hc
  obtain ⟨i, _, hw⟩ := order_circle h.right (by omega)
  have := h.way hw
  omega
end Go.Nm
namespace Go.Proofs
open Go.Shelf
def Try.layRev_ren : Go.Shelf.Ren := ⟨fun | 112 => 104 | n => n, fun | 28 => 34 | 3 => 3 | 4 => 4 | 0 => 0 | n => n, fun | n => n⟩
theorem Try.layRev : Go.Proofs.Lays.n112 Try.prog Try.layRev_ren := {
  mixed := by kernel_rfl
  f112 := Try.func104.trans (congrArg some (by kernel_rfl))
  t0 := Try.underlying0
  a0 := Try.isAgg0
  z0 := Try.sizeOf0
  v0 := Try.zeroValue0
  t3 := Try.underlying3
  a3 := Try.isAgg3
  z3 := Try.sizeOf3
  v3 := Try.zeroValue3
  t4 := Try.underlying4
  a4 := Try.isAgg4
  z4 := Try.sizeOf4
  v4 := Try.zeroValue4
  t28 := Try.underlying34
  a28 := Try.isAgg34
  z28 := Try.sizeOf34
  v28 := Try.zeroValue34 }
def Try.layMul_ren : Go.Shelf.Ren := ⟨fun | 212 => 142 | 263 => 180 | 264 => 181 | n => n, fun | 46 => 205 | 51 => 230 | 146 => 234 | 53 => 232 | 148 => 236 | n => n, fun | n => n⟩
theorem Try.layMul : Go.Proofs.Lays.n212 Try.prog Try.layMul_ren := {
  mixed := by kernel_rfl
  f212 := Try.func142.trans (congrArg some (by kernel_rfl))
  f263 := Try.func180.trans (congrArg some (by kernel_rfl))
  f264 := Try.func181.trans (congrArg some (by kernel_rfl))
  t46 := Try.underlying205
  a46 := Try.isAgg205
  z46 := Try.sizeOf205
  v46 := Try.zeroValue205
  t51 := Try.underlying230
  a51 := Try.isAgg230
  z51 := Try.sizeOf230
  v51 := Try.zeroValue230
  t53 := Try.underlying232
  a53 := Try.isAgg232
  z53 := Try.sizeOf232
  v53 := Try.zeroValue232
  t146 := Try.underlying234
  a146 := Try.isAgg234
  z146 := Try.sizeOf234
  v146 := Try.zeroValue234
  t148 := Try.underlying236
  a148 := Try.isAgg236
  z148 := Try.sizeOf236
  v148 := Try.zeroValue236 }
end Go.Proofs
namespace Go.Nm
open Go
theorem setCells_row (g : Nat) (t : TypeId) (fr : Nat × Nat) : ∀ (vs : List Value) (o : Nat) (w : World) (cur : Array Value), w.heap[g]? = some (.cells cur t fr) -> o + vs.length <= cur.size →
    w.setCells g o vs = w.setRow g (cur.toList.take o ++ vs ++ cur.toList.drop (o + vs.length)).toArray
  | [], o, w, cur, h, _ => by
    simp only [World.setCells, List.append_nil, List.length_nil, Nat.add_zero, List.take_append_drop, Array.toArray_toList]
    exact (setRow_self w g cur t fr h).symm
  | v :: r, o, w, cur, h, hl => by
    have hl' : o + 1 + r.length <= (cur.setIfInBounds o v).size := by simp at hl ⊢; omega
    rw [World.setCells, setCell_eq_setRow w g o cur t fr v h, setCells_row g t fr r (o + 1) _ _ (setRow_heap w g cur _ t _ h) hl', setRow_setRow]
    congr 2
    have e := list_seg_step cur.toList o v r (by simp at hl ⊢; omega)
    simpa [Array.toList_setIfInBounds, Nat.add_assoc] using e
theorem OwnF.over {B : Nat} {e : TypeId} {w : World} {l : List Int} {g cap : Nat} {cur : Array Value} (ho : OwnF B e w (.slice (some ⟨g, 0, none⟩) l.length cap) l) (hg : w.heap[g]? = some (.cells cur e (0, 0)))
    (hcs : l.length <= cap) (hsz : cur.size = cap) (hb : B <= g) (hm : cap <= maxLen) (l' : List Int) (hl : l'.length = l.length) (q : Nat) :
    OwnF B e ((w.drewN q).setCells g 0 (l'.map I)) (.slice (some ⟨g, 0, none⟩) l.length cap) l' /\ Grow B (.slice (some ⟨g, 0, none⟩) l.length cap) w ((w.drewN q).setCells g 0 (l'.map I)) := by
  rw [setCells_row g e (0, 0) (l'.map I) 0 (w.drewN q) cur hg (by simp; omega)]
  have hs1 : Elt.sz Int = 1 := rfl
  refine ⟨⟨by rw [enc_ints]; simp [hs1], .inr ⟨g, cap, _, by rw [hl], hb, setRow_heap _ g cur _ e (0, 0) hg, by omega, hm, by simp [hs1]; omega, ?_⟩⟩, ⟨rfl, rfl, by simp, fun k _ hk => ?_, fun g' hg' => (ho.lt g' hg').1, frozen_setRow _ _ _⟩⟩
  · rw [enc_ints, hs1]
    simp
  · rw [setRow_other]
    · rfl
    · intro e'
      apply hk
      rw [e']
      rfl
end Go.Nm
namespace Go.Proofs.Ytndobgodeicloaa
open Go Go.Nm Go.Proofs
theorem mul_any {n : Int} (h0 : 0 <= n) (h1 : n <= 9223372036854775807) (w : World) : Ret Try.prog 142 #[.int .u64 1, .int .u64 n] w fun v w' => v = .tuple #[.int .u64 0, .int .u64 n] /\ Ext w w' := by
  have h := Any.bits_Mul Try.layMul 1 n.toNat (by omega) (by omega) w
  have e : ((n.toNat : Nat) : Int) = n := Int.toNat_of_nonneg h0
  rw [Nat.one_mul, Nat.div_eq_of_lt (by omega), Nat.mod_eq_of_lt (by omega), e] at h
  refine Calls.mono h ?_
  rintro _ w' ⟨rfl, rfl⟩
  exact ⟨_, rfl, rfl, Ext.refl w'⟩
theorem reverse_any {B : Nat} {e : TypeId} {w : World} {v : Value} {l : List Int} (ho : OwnF B e w v l) : Ret Try.prog 104 #[v] w fun u w' => u = .tuple #[] /\ OwnF B e w' v l.reverse /\ Grow B v w w' := by
  have ho' := ho
  rcases ho.2 with ⟨rfl, hn⟩ | ⟨g, cap, cur, rfl, hb, hg, hc, hm, hcs, htake⟩
  · obtain rfl : l = [] := List.eq_nil_of_length_eq_zero hn
    refine Calls.mono (Any.slices_Reverse_int_empty Try.layRev none 0 w) ?_
    rintro _ w' ⟨rfl, rfl⟩
    exact ⟨_, rfl, rfl, ho', ⟨rfl, rfl, Nat.le_refl _, fun _ _ _ => rfl, fun g hg => (ho'.lt g hg).1, fun _ => rfl⟩⟩
  · have hs1 : Elt.sz Int = 1 := rfl
    rw [hs1] at hcs htake
    rw [enc_ints] at htake
    have hcell : ∀ j, j < l.length -> w.cell? ⟨g, 0 + j, none⟩ = some (.int .i64 (l.getD j 0)) := by
      intro j hj
      rw [Nat.zero_add, cell_of_row w g j cur e (0, 0) hg]
      have h1 : (cur.toList.take (l.length * 1))[j]? = (l.map I)[j]? := by rw [htake]
      rw [List.getElem?_take, if_pos (by omega), List.getElem?_map, getD_some l hj 0] at h1
      simpa using h1
    have hfz : ∀ j, j < l.length -> w.frozen? ⟨g, 0 + j, none⟩ = false := fun j hj => by simp [World.frozen?, hg]
    refine Calls.mono (Any.slices_Reverse_int_cells Try.layRev g 0 l.length cap l w (Nat.le_refl _) (by simp [maxLen] at hm; omega) hcell hfz) ?_
    rintro _ w' ⟨rfl, q, rfl⟩
    rw [List.take_length]
    have hh := OwnF.over ho' hg hc (by omega) hb hm l.reverse (by simp) q
    exact ⟨_, rfl, rfl, hh.1, hh.2⟩
end Go.Proofs.Ytndobgodeicloaa
namespace Go.Proofs.Ytndobgodeicloaa
open Go Go.Nm
theorem cf21 : CF Try.prog 21 := ⟨_, Try.func21, rfl, by decide +kernel⟩
theorem cf45 : CF Try.prog 45 := ⟨_, Try.func45, rfl, by decide +kernel⟩
theorem cf48 : CF Try.prog 48 := ⟨_, Try.func48, rfl, by decide +kernel⟩
theorem cf81 : CF Try.prog 81 := ⟨_, Try.func81, rfl, by decide +kernel⟩
theorem cf82 : CF Try.prog 82 := ⟨_, Try.func82, rfl, by decide +kernel⟩
theorem cf83 : CF Try.prog 83 := ⟨_, Try.func83, rfl, by decide +kernel⟩
theorem cf84 : CF Try.prog 84 := ⟨_, Try.func84, rfl, by decide +kernel⟩
theorem cf85 : CF Try.prog 85 := ⟨_, Try.func85, rfl, by decide +kernel⟩
theorem cf86 : CF Try.prog 86 := ⟨_, Try.func86, rfl, by decide +kernel⟩
theorem cf87 : CF Try.prog 87 := ⟨_, Try.func87, rfl, by decide +kernel⟩
theorem cf88 : CF Try.prog 88 := ⟨_, Try.func88, rfl, by decide +kernel⟩
theorem cf90 : CF Try.prog 90 := ⟨_, Try.func90, rfl, by decide +kernel⟩
theorem cf91 : CF Try.prog 91 := ⟨_, Try.func91, rfl, by decide +kernel⟩
theorem cf92 : CF Try.prog 92 := ⟨_, Try.func92, rfl, by decide +kernel⟩
theorem cf96 : CF Try.prog 96 := ⟨_, Try.func96, rfl, by decide +kernel⟩
theorem cf99 : CF Try.prog 99 := ⟨_, Try.func99, rfl, by decide +kernel⟩
theorem cf100 : CF Try.prog 100 := ⟨_, Try.func100, rfl, by decide +kernel⟩
theorem cf101 : CF Try.prog 101 := ⟨_, Try.func101, rfl, by decide +kernel⟩
theorem cf102 : CF Try.prog 102 := ⟨_, Try.func102, rfl, by decide +kernel⟩
theorem cf103 : CF Try.prog 103 := ⟨_, Try.func103, rfl, by decide +kernel⟩
theorem cf104 : CF Try.prog 104 := ⟨_, Try.func104, rfl, by decide +kernel⟩
theorem cf130 : CF Try.prog 130 := ⟨_, Try.func130, rfl, by decide +kernel⟩
theorem cf131 : CF Try.prog 131 := ⟨_, Try.func131, rfl, by decide +kernel⟩
theorem cf140 : CF Try.prog 140 := ⟨_, Try.func140, rfl, by decide +kernel⟩
theorem cf141 : CF Try.prog 141 := ⟨_, Try.func141, rfl, by decide +kernel⟩
theorem cf142 : CF Try.prog 142 := ⟨_, Try.func142, rfl, by decide +kernel⟩
theorem cf143 : CF Try.prog 143 := ⟨_, Try.func143, rfl, by decide +kernel⟩
theorem cf144 : CF Try.prog 144 := ⟨_, Try.func144, rfl, by decide +kernel⟩
theorem cf145 : CF Try.prog 145 := ⟨_, Try.func145, rfl, by decide +kernel⟩
theorem cf146 : CF Try.prog 146 := ⟨_, Try.func146, rfl, by decide +kernel⟩
theorem cf147 : CF Try.prog 147 := ⟨_, Try.func147, rfl, by decide +kernel⟩
theorem cf157 : CF Try.prog 157 := ⟨_, Try.func157, rfl, by decide +kernel⟩
theorem cf158 : CF Try.prog 158 := ⟨_, Try.func158, rfl, by decide +kernel⟩
theorem cf161 : CF Try.prog 161 := ⟨_, Try.func161, rfl, by decide +kernel⟩
theorem cf162 : CF Try.prog 162 := ⟨_, Try.func162, rfl, by decide +kernel⟩
theorem cf163 : CF Try.prog 163 := ⟨_, Try.func163, rfl, by decide +kernel⟩
theorem cf164 : CF Try.prog 164 := ⟨_, Try.func164, rfl, by decide +kernel⟩
theorem cf179 : CF Try.prog 179 := ⟨_, Try.func179, rfl, by decide +kernel⟩
theorem cf182 : CF Try.prog 182 := ⟨_, Try.func182, rfl, by decide +kernel⟩
theorem cf185 : CF Try.prog 185 := ⟨_, Try.func185, rfl, by decide +kernel⟩
theorem cf186 : CF Try.prog 186 := ⟨_, Try.func186, rfl, by decide +kernel⟩
theorem cf187 : CF Try.prog 187 := ⟨_, Try.func187, rfl, by decide +kernel⟩
theorem cf200 : CF Try.prog 200 := ⟨_, Try.func200, rfl, by decide +kernel⟩
theorem T22 : SlT Try.prog 22 60 3 40 (.agg #[.slice none 0 0, I 0, I 0]) := ⟨Try.underlying22, by kernel_rfl, rfl, by decide⟩
theorem T23 : SlT Try.prog 23 30 3 24 (.agg #[I 0, I 0, I 0]) := ⟨Try.underlying23, by kernel_rfl, rfl, by decide⟩
theorem T24 : SlT Try.prog 24 33 2 16 (.agg #[I 0, I 0]) := ⟨Try.underlying24, by kernel_rfl, rfl, by decide⟩
theorem T34 : SlT Try.prog 34 3 1 8 (I 0) := ⟨Try.underlying34, by kernel_rfl, rfl, by decide⟩
theorem T73 : SlT Try.prog 73 34 1 24 (.slice none 0 0) := ⟨Try.underlying73, by kernel_rfl, rfl, by decide⟩
theorem Sc3 : isSc (Try.prog.underlying 3) = true := by rw [Try.underlying3]; rfl
theorem Sc4 : isSc (Try.prog.underlying 4) = true := by rw [Try.underlying4]; rfl
theorem Sc22 : isSc (Try.prog.underlying 22) = true := by rw [Try.underlying22]; rfl
theorem Sc34 : isSc (Try.prog.underlying 34) = true := by rw [Try.underlying34]; rfl
theorem Sc75 : isSc (Try.prog.underlying 75) = true := by rw [Try.underlying75]; rfl
theorem Sc132 : isSc (Try.prog.underlying 132) = true := by rw [Try.underlying132]; rfl
theorem Sc140 : isSc (Try.prog.underlying 140) = true := by rw [Try.underlying140]; rfl
theorem Sc159 : isSc (Try.prog.underlying 159) = true := by rw [Try.underlying159]; rfl
theorem Sc218 : isSc (Try.prog.underlying 218) = true := by rw [Try.underlying218]; rfl
theorem Sz3 : (Try.prog.info? 3).map (·.size) = some 1 := by kernel_rfl
theorem Sz4 : (Try.prog.info? 4).map (·.size) = some 1 := by kernel_rfl
theorem Sz22 : (Try.prog.info? 22).map (·.size) = some 1 := by kernel_rfl
theorem Ag30 : isAg (Try.prog.underlying 30) = true := by rw [Try.underlying30]; rfl
theorem Sz30 : (Try.prog.info? 30).map (·.size) = some 3 := by kernel_rfl
theorem Ag33 : isAg (Try.prog.underlying 33) = true := by rw [Try.underlying33]; rfl
theorem Sz33 : (Try.prog.info? 33).map (·.size) = some 2 := by kernel_rfl
theorem Sz34 : (Try.prog.info? 34).map (·.size) = some 1 := by kernel_rfl
theorem Ag60 : isAg (Try.prog.underlying 60) = true := by rw [Try.underlying60]; rfl
theorem Sz60 : (Try.prog.info? 60).map (·.size) = some 3 := by kernel_rfl
theorem Ag141 : isAg (Try.prog.underlying 141) = true := by rw [Try.underlying141]; rfl
theorem Sz141 : (Try.prog.info? 141).map (·.size) = some 30 := by kernel_rfl
theorem Sz185 : (Try.prog.info? 185).map (·.size) = some 1 := by kernel_rfl
theorem Fd30_0 : (Try.prog.underlying 30).bind (fun d => match d with | .struct fs => (fs[0]?).map (fun f => (f.offset, f.type)) | _ => none) = some (0, 3) := by rw [Try.underlying30]; rfl
theorem Fd30_1 : (Try.prog.underlying 30).bind (fun d => match d with | .struct fs => (fs[1]?).map (fun f => (f.offset, f.type)) | _ => none) = some (1, 3) := by rw [Try.underlying30]; rfl
theorem Fd30_2 : (Try.prog.underlying 30).bind (fun d => match d with | .struct fs => (fs[2]?).map (fun f => (f.offset, f.type)) | _ => none) = some (2, 3) := by rw [Try.underlying30]; rfl
theorem Fd33_0 : (Try.prog.underlying 33).bind (fun d => match d with | .struct fs => (fs[0]?).map (fun f => (f.offset, f.type)) | _ => none) = some (0, 3) := by rw [Try.underlying33]; rfl
theorem Fd33_1 : (Try.prog.underlying 33).bind (fun d => match d with | .struct fs => (fs[1]?).map (fun f => (f.offset, f.type)) | _ => none) = some (1, 3) := by rw [Try.underlying33]; rfl
theorem Fd60_0 : (Try.prog.underlying 60).bind (fun d => match d with | .struct fs => (fs[0]?).map (fun f => (f.offset, f.type)) | _ => none) = some (0, 34) := by rw [Try.underlying60]; rfl
theorem Fd60_1 : (Try.prog.underlying 60).bind (fun d => match d with | .struct fs => (fs[1]?).map (fun f => (f.offset, f.type)) | _ => none) = some (1, 3) := by rw [Try.underlying60]; rfl
theorem Fd60_2 : (Try.prog.underlying 60).bind (fun d => match d with | .struct fs => (fs[2]?).map (fun f => (f.offset, f.type)) | _ => none) = some (2, 3) := by rw [Try.underlying60]; rfl
theorem Fd185_0 : (Try.prog.underlying 185).bind (fun d => match d with | .struct fs => (fs[0]?).map (fun f => (f.offset, f.type)) | _ => none) = some (0, 22) := by rw [Try.underlying185]; rfl
theorem Fd187_0 : (Try.prog.underlying 187).bind (fun d => match d with | .struct fs => (fs[0]?).map (fun f => (f.offset, f.type)) | _ => none) = some (0, 185) := by rw [Try.underlying187]; rfl
theorem Al3 : (Try.prog.info? 3).map (·.zero) = some (some (I 0)) := by kernel_rfl
theorem Al30 : (Try.prog.info? 30).map (·.zero) = some (some (.agg #[I 0, I 0, I 0])) := by kernel_rfl
theorem Al33 : (Try.prog.info? 33).map (·.zero) = some (some (.agg #[I 0, I 0])) := by kernel_rfl
theorem Al34 : (Try.prog.info? 34).map (·.zero) = some (some (.slice none 0 0)) := by kernel_rfl
theorem Al60 : (Try.prog.info? 60).map (·.zero) = some (some (.agg #[.slice none 0 0, I 0, I 0])) := by kernel_rfl
theorem Al141 : (Try.prog.info? 141).map (·.zero) = some (some (.agg #[B false, B false, B false, B false, B false, B false, B false, B false, B false, B false, B false, B false, B false, B false, B false, B false, B false, B false, B false, B false, B false, B false, B false, B false, B false, B false, B false, B false, B false, B false])) := by kernel_rfl
theorem Al185 : (Try.prog.info? 185).map (·.zero) = some (some (.agg #[.slice none 0 0])) := by kernel_rfl
theorem Al187 : (Try.prog.info? 187).map (·.zero) = some (some (.agg #[.slice none 0 0])) := by kernel_rfl
theorem Bd185 {fs : Array Field} (h : Try.prog.underlying 185 = some (.struct fs)) : fs.toList.mapM (fun f => (Try.prog.info? f.type).map fun i => (f.offset, i.size)) = some [(0, 1)] := by rw [Try.underlying185] at h; simp only [Option.some.injEq, TypeDesc.struct.injEq] at h; subst h; kernel_rfl
theorem Bd187 {fs : Array Field} (h : Try.prog.underlying 187 = some (.struct fs)) : fs.toList.mapM (fun f => (Try.prog.info? f.type).map fun i => (f.offset, i.size)) = some [(0, 1)] := by rw [Try.underlying187] at h; simp only [Option.some.injEq, TypeDesc.struct.injEq] at h; subst h; kernel_rfl
theorem mixed : Try.prog.follows .mixedOrders = true := by kernel_rfl
end Go.Proofs.Ytndobgodeicloaa
section
set_option maxRecDepth 100000
set_option maxHeartbeats 16000000
namespace Go.Proofs.Ytndobgodeicloaa
open Go Go.Nm
theorem in_any (n a b : Int) (w : World)  : Ret Try.prog 84 #[I n, I a, I b] w fun v w' => v = B (inB n a b) /\ Ext w w' := by
 refine ret_of_W Try.func84 rfl rfl rfl ?_
 have E := Ext.refl w
 have K1 := KF.refl 0 w
 refine sQ rfl <| sA (B false) rfl <| s_nil <| sQ rfl <| sM (I n) rfl <| sM (I a) rfl <| sC n a (decide ((a : Int) <= n)) rfl rfl rfl <| sM (B (decide ((a : Int) <= n))) rfl <| g_val (decide ((a : Int) <= n)) (gy_t rfl) (fun hg => x_mv (v := I n) rfl) <| g_val (decide ((a : Int) <= n)) (gy_t rfl) (fun hg => x_mv (v := I b) rfl) ?_
 refine g_val (decide ((a : Int) <= n)) (gy_t rfl) (fun hg => x_cmp (kd := .i64) (a := n) (b := b) (r := decide ((n : Int) <= b)) (gd_of (c := decide ((a : Int) <= n)) hg (I n)) (gd_of (c := decide ((a : Int) <= n)) hg (I b)) rfl) <| s_val (x_pand (b := decide ((a : Int) <= n)) (r := decide ((n : Int) <= b)) rfl (fun hb => gd_of (c := decide ((a : Int) <= n)) (by simp_all) (B (decide ((n : Int) <= b)))) rfl) <| sA (B (((decide ((a : Int) <= n)) && (decide ((n : Int) <= b))))) rfl <| s_nil ?_
 refine W.ret ?_
 exact ⟨_, resE_tmp rfl, rfl, E⟩

theorem indexFunc_int {vl vf : Value} {l : List Int} {p : Int -> Bool} (w : World) (hl : Sl w.cell? vl l) (hf : FnB Try.prog w vf p (fun x => x ∈ l)) : Ret Try.prog 102 #[vl, vf] w fun v w' => v = I (idxP p l) /\ Ext w w' := by
 refine ret_of_W Try.func102 rfl rfl rfl ?_
 have E := Ext.refl w
 have K1 := KF.refl 0 w
 have ab := hl.len_le
 have hl := hl.par
 refine sQ rfl <| sA (I 0) rfl <| s_nil <| W.seq <| sQ rfl <| sM vl rfl <| s_val (x_lenS T34.und rfl (hl.to K1)) <| sM (I 0) rfl <| s_nil <| W.block ?_
 refine W.loop (fun m σ W => ∃ (k : Nat) (ρ : Env), σ = upds ρ [(0, vl), (1, vf), (7, I l.length), (8, I k)] /\ m = l.length - k /\ Ext w W /\ KF 0 w W /\ k <= l.length /\ (∀ y ∈ l.take k, p y = false)) ?_ ?_
 ·exact ⟨_, 0, _, upds_of _ _ ⟨rfl, rfl, rfl, (eqI (by omega)), trivial⟩, rfl, E, K1, Nat.zero_le _, (by simp)⟩
 rintro m σ w2 ⟨k, ρ, rfl, rfl, E, K1, ac, aa⟩
 refine sQ rfl <| sC k l.length (decide ((k : Int) < l.length)) rfl rfl rfl <| s_nil <| W.seq ?_
 refine W.cond (decide ((k : Int) < l.length)) rfl (fun c3 => ?_) (fun c3 => ?_)
 ·simp only [qz1, qz2, qz3, qz4, qz5, qz6, ne_eq, qz7] at c3
  refine W.skip <| W.seq <| W.block <| sQ rfl <| sM (I k) rfl <| sA (I k) rfl <| s_nil <| sQ rfl <| sM vf rfl <| sM vl rfl ?_
  refine sM (I k) rfl <| s_val (x_ix (a := vl) (b := I k) (v := vat vl 1 (Int.toNat k)) rfl rfl (Sl.ix (α := Int) T34.und T34.size (hl.to K1) (by omega) (by omega))) <| s_val (x_ld (p := vat vl 1 (Int.toNat k)) (v := I (l.getD k 0)) rfl (ld_sc Sc3 (At.to (Int_at hl (i := k) (by omega) (by omega)) K1))) ?_
  refine s_callB hf E rfl rfl (l.getD k 0) (getD_memN l (by omega) _) (Arg.mkI _ _) ?_
  intro w4 x5
  replace E := E.trans x5
  replace K1 := K1.ext x5
  clear x5
  refine s_nil ?_
  refine W.cond (p (l.getD k 0)) rfl (fun c6 => ?_) (fun c6 => ?_)
  ·skip
   refine sQ rfl <| sM (I k) rfl <| sA (I k) rfl <| s_nil ?_
   refine W.ret ?_
   exact ⟨_, resE_tmp rfl, (eqI (idx_yes c3 c6 aa)), E⟩
  skip
  refine W.skip <| W.region rfl <| sR k 1 (k + 1) rfl rfl rfl (by omega) <| sM (I (k + 1)) rfl <| s_nil ?_
  exact ⟨_, (by omega), k+1, _, upds_of _ _ ⟨rfl, rfl, rfl, (eqI (by omega)), trivial⟩, rfl, E, K1, (by omega), (idx_step c3 aa c6)⟩
 simp only [qz1, qz2, qz3, qz4, qz5, qz6, ne_eq, qz7] at c3
 refine W.exit ?_
 refine sQ rfl <| sA (I (-1)) rfl <| s_nil ?_
 refine W.ret ?_
 exact ⟨_, resE_tmp rfl, (eqI (idx_no c3 aa)), E⟩

theorem containsFunc_int {vl vf : Value} {l : List Int} {p : Int -> Bool} (w : World) (hl : Sl w.cell? vl l) (hf : FnB Try.prog w vf p (fun x => x ∈ l)) : Ret Try.prog 48 #[vl, vf] w fun v w' => v = B (l.any p) /\ Ext w w' := by
 refine ret_of_W Try.func48 rfl rfl rfl ?_
 have E := Ext.refl w
 have K1 := KF.refl 0 w
 have aa := hl.len_le
 have hl := hl.par
 refine sQ rfl <| sA (B false) rfl <| s_nil <| sQ rfl <| sM vl rfl <| sM vf rfl ?_
 refine s_call cf102 [vl, vf] rfl (indexFunc_int _ (hl.to K1) (hf.ext E)) ?_
 rintro _ w2 ⟨rfl, x3⟩
 replace E := E.trans x3
 replace K1 := K1.ext x3
 clear x3
 refine sC (idxP p l) 0 (decide ((0 : Int) <= (idxP p l))) rfl rfl rfl <| sA (B (decide ((0 : Int) <= (idxP p l)))) rfl <| s_nil ?_
 refine W.ret ?_
 exact ⟨_, resE_tmp rfl, (eqB (idxP_any _ _)), E⟩

theorem every1_int {b : Nat} {vf : Value} {p : Int -> Bool} {D : Int -> Prop} (x : Int) (w : World) (aa : w.heap[b]? = some (.cells #[vf] 75 (0, 0))) (hf : FnB Try.prog w vf p D) (hD : D x) : Ret Try.prog 143 #[I x, Pz b] w fun v w' => v = B (!(p x)) /\ Ext w w' := by
 refine ret_of_W Try.func143 rfl rfl rfl ?_
 have E := Ext.refl w
 have K1 := KF.refl 0 w
 refine sQ rfl <| sA (B false) rfl <| s_nil <| sQ rfl <| s_val (x_ld (p := Pz b) (v := vf) rfl (ldb_sc Sc75 aa rfl)) <| sM (I x) rfl ?_
 refine s_callB hf E rfl rfl x hD (Arg.mkI _ _) ?_
 intro w2 x3
 replace E := E.trans x3
 replace K1 := K1.ext x3
 replace aa := x3.get aa
 clear x3
 refine s_val (x_not (b := p x) rfl) <| sA (B (!(p x))) rfl <| s_nil ?_
 refine W.ret ?_
 exact ⟨_, resE_tmp rfl, rfl, E⟩

theorem every_int {vl vf : Value} {l : List Int} {p : Int -> Bool} (w : World) (hl : Sl w.cell? vl l) (hf : FnB Try.prog w vf p (fun x => x ∈ l)) : Ret Try.prog 87 #[vf, vl] w fun v w' => v = B (l.all p) /\ Ext w w' := by
 refine ret_of_W Try.func87 rfl rfl rfl ?_
 have E := Ext.refl w
 have K1 := KF.refl 0 w
 have ab := hl.len_le
 have hl := hl.par
 refine sQ rfl ?_
 refine s_box (v := vf) (cs := [vf]) rfl (FnB.cells hf) ?_
 intro b2 w3 Nb2
 have o_K1_b2 := Nat.le_trans K1.size Nb2.ge
 have o_b2 := Nat.le_trans E.size Nb2.ge
 replace E := E.trans Nb2.ext
 replace K1 := K1.ext Nb2.ext
 have aa := Nb2.same
 clear Nb2
 refine sA (B false) rfl <| s_nil <| sQ rfl <| sM vl rfl <| s_val (x_mf (fs := []) (cs := [Pz b2]) rfl rfl) ?_
 refine s_call cf48 [vl, .func (.func 143) #[] #[Pz b2]] rfl (containsFunc_int _ (hl.to K1) ⟨143, [Pz b2], rfl, cf143, fun w' v x hE hD hA => by obtain rfl := Arg.int hA; exact (every1_int _ _ (hE.get aa) ((hf.ext E).ext hE) hD)⟩) ?_
 rintro _ w4 ⟨rfl, x5⟩
 replace E := E.trans x5
 replace K1 := K1.ext x5
 replace aa := x5.get aa
 clear x5
 refine s_val (x_not (b := l.any (fun x => !(p x))) rfl) <| sA (B (!(l.any (fun x => !(p x))))) rfl <| s_nil ?_
 refine W.ret ?_
 exact ⟨_, resE_tmp rfl, (eqB (any_not _ _)), E⟩

theorem indexFunc_Note {vl vf : Value} {l : List Note} {p : Note -> Bool} (w : World) (hl : Sl w.cell? vl l) (hf : FnB Try.prog w vf p (fun x => x ∈ l)) : Ret Try.prog 179 #[vl, vf] w fun v w' => v = I (idxP p l) /\ Ext w w' := by
 refine ret_of_W Try.func179 rfl rfl rfl ?_
 have E := Ext.refl w
 have K1 := KF.refl 0 w
 have ab := hl.len_le
 have hl := hl.par
 refine sQ rfl <| sA (I 0) rfl <| s_nil <| W.seq <| sQ rfl <| sM vl rfl <| s_val (x_lenS T23.und rfl (hl.to K1)) <| sM (I 0) rfl <| s_nil <| W.block ?_
 refine W.loop (fun m σ W => ∃ (k : Nat) (ρ : Env), σ = upds ρ [(0, vl), (1, vf), (7, I l.length), (8, I k)] /\ m = l.length - k /\ Ext w W /\ KF 0 w W /\ k <= l.length /\ (∀ y ∈ l.take k, p y = false)) ?_ ?_
 ·exact ⟨_, 0, _, upds_of _ _ ⟨rfl, rfl, rfl, (eqI (by omega)), trivial⟩, rfl, E, K1, Nat.zero_le _, (by simp)⟩
 rintro m σ w2 ⟨k, ρ, rfl, rfl, E, K1, ac, aa⟩
 refine sQ rfl <| sC k l.length (decide ((k : Int) < l.length)) rfl rfl rfl <| s_nil <| W.seq ?_
 refine W.cond (decide ((k : Int) < l.length)) rfl (fun c3 => ?_) (fun c3 => ?_)
 ·simp only [qz1, qz2, qz3, qz4, qz5, qz6, ne_eq, qz7] at c3
  refine W.skip <| W.seq <| W.block <| sQ rfl <| sM (I k) rfl <| sA (I k) rfl <| s_nil <| sQ rfl <| sM vf rfl <| sM vl rfl ?_
  refine sM (I k) rfl <| s_val (x_ix (a := vl) (b := I k) (v := vat vl 3 (Int.toNat k)) rfl rfl (Sl.ix (α := Note) T23.und T23.size (hl.to K1) (by omega) (by omega))) <| s_val (x_ld (p := vat vl 3 (Int.toNat k)) (v := .agg #[I ((l.getD k default).work), I ((l.getD k default).version), I ((l.getD k default).value)]) rfl (ld_ag Ag30 Sz30 (At.to (Note_atA hl (i := k) (by omega) (by omega)) K1))) ?_
  refine s_callB hf E rfl rfl ((l.getD k default)) (getD_memN l (by omega) _) ⟨_, rfl, rfl⟩ ?_
  intro w4 x5
  replace E := E.trans x5
  replace K1 := K1.ext x5
  clear x5
  refine s_nil ?_
  refine W.cond (p ((l.getD k default))) rfl (fun c6 => ?_) (fun c6 => ?_)
  ·skip
   refine sQ rfl <| sM (I k) rfl <| sA (I k) rfl <| s_nil ?_
   refine W.ret ?_
   exact ⟨_, resE_tmp rfl, (eqI (idx_yes c3 c6 aa)), E⟩
  skip
  refine W.skip <| W.region rfl <| sR k 1 (k + 1) rfl rfl rfl (by omega) <| sM (I (k + 1)) rfl <| s_nil ?_
  exact ⟨_, (by omega), k+1, _, upds_of _ _ ⟨rfl, rfl, rfl, (eqI (by omega)), trivial⟩, rfl, E, K1, (by omega), (idx_step c3 aa c6)⟩
 simp only [qz1, qz2, qz3, qz4, qz5, qz6, ne_eq, qz7] at c3
 refine W.exit ?_
 refine sQ rfl <| sA (I (-1)) rfl <| s_nil ?_
 refine W.ret ?_
 exact ⟨_, resE_tmp rfl, (eqI (idx_no c3 aa)), E⟩

theorem containsFunc_Note {vl vf : Value} {l : List Note} {p : Note -> Bool} (w : World) (hl : Sl w.cell? vl l) (hf : FnB Try.prog w vf p (fun x => x ∈ l)) : Ret Try.prog 140 #[vl, vf] w fun v w' => v = B (l.any p) /\ Ext w w' := by
 refine ret_of_W Try.func140 rfl rfl rfl ?_
 have E := Ext.refl w
 have K1 := KF.refl 0 w
 have aa := hl.len_le
 have hl := hl.par
 refine sQ rfl <| sA (B false) rfl <| s_nil <| sQ rfl <| sM vl rfl <| sM vf rfl ?_
 refine s_call cf179 [vl, vf] rfl (indexFunc_Note _ (hl.to K1) (hf.ext E)) ?_
 rintro _ w2 ⟨rfl, x3⟩
 replace E := E.trans x3
 replace K1 := K1.ext x3
 clear x3
 refine sC (idxP p l) 0 (decide ((0 : Int) <= (idxP p l))) rfl rfl rfl <| sA (B (decide ((0 : Int) <= (idxP p l)))) rfl <| s_nil ?_
 refine W.ret ?_
 exact ⟨_, resE_tmp rfl, (eqB (idxP_any _ _)), E⟩

theorem every1_Note {b : Nat} {vf : Value} {p : Note -> Bool} {D : Note -> Prop} (x : Note) (w : World) (aa : w.heap[b]? = some (.cells #[vf] 132 (0, 0))) (hf : FnB Try.prog w vf p D) (hD : D x) : Ret Try.prog 141 #[.agg #[I x.work, I x.version, I x.value], Pz b] w fun v w' => v = B (!(p x)) /\ Ext w w' := by
 refine ret_of_W Try.func141 rfl rfl rfl ?_
 have E := Ext.refl w
 have K1 := KF.refl 0 w
 refine sQ rfl ?_
 refine s_box (v := .agg #[I x.work, I x.version, I x.value]) (cs := [I x.work, I x.version, I x.value]) rfl rfl ?_
 intro b2 w3 Nb2
 have o_K1_b2 := Nat.le_trans K1.size Nb2.ge
 have o_b2 := Nat.le_trans E.size Nb2.ge
 have o_b_b2 := Nat.lt_of_lt_of_le (heap_lt aa) Nb2.ge
 replace E := E.trans Nb2.ext
 replace K1 := K1.ext Nb2.ext
 replace aa := Nb2.ext.get aa
 have ab := Nb2.same
 clear Nb2
 refine sA (B false) rfl <| s_nil <| sQ rfl <| s_val (x_ld (p := Pz b) (v := vf) rfl (ldb_sc Sc132 aa rfl)) <| s_val (x_ld (p := Pz b2) (v := .agg #[I x.work, I x.version, I x.value]) rfl (ldb_ag (ds := [I x.work, I x.version, I x.value]) Ag30 Sz30 ab rfl rfl)) ?_
 refine s_callB hf E rfl rfl x hD ⟨_, rfl, rfl⟩ ?_
 intro w4 x5
 replace E := E.trans x5
 replace K1 := K1.ext x5
 replace aa := x5.get aa
 replace ab := x5.get ab
 clear x5
 refine s_val (x_not (b := p x) rfl) <| sA (B (!(p x))) rfl <| s_nil ?_
 refine W.ret ?_
 exact ⟨_, resE_tmp rfl, rfl, E⟩

theorem every_Note {vl vf : Value} {l : List Note} {p : Note -> Bool} (w : World) (hl : Sl w.cell? vl l) (hf : FnB Try.prog w vf p (fun x => x ∈ l)) : Ret Try.prog 82 #[vf, vl] w fun v w' => v = B (l.all p) /\ Ext w w' := by
 refine ret_of_W Try.func82 rfl rfl rfl ?_
 have E := Ext.refl w
 have K1 := KF.refl 0 w
 have ab := hl.len_le
 have hl := hl.par
 refine sQ rfl ?_
 refine s_box (v := vf) (cs := [vf]) rfl (FnB.cells hf) ?_
 intro b2 w3 Nb2
 have o_K1_b2 := Nat.le_trans K1.size Nb2.ge
 have o_b2 := Nat.le_trans E.size Nb2.ge
 replace E := E.trans Nb2.ext
 replace K1 := K1.ext Nb2.ext
 have aa := Nb2.same
 clear Nb2
 refine sA (B false) rfl <| s_nil <| sQ rfl <| sM vl rfl <| s_val (x_mf (fs := []) (cs := [Pz b2]) rfl rfl) ?_
 refine s_call cf140 [vl, .func (.func 141) #[] #[Pz b2]] rfl (containsFunc_Note _ (hl.to K1) ⟨141, [Pz b2], rfl, cf141, fun w' v x hE hD hA => by obtain rfl := Note_arg hA; exact (every1_Note _ _ (hE.get aa) ((hf.ext E).ext hE) hD)⟩) ?_
 rintro _ w4 ⟨rfl, x5⟩
 replace E := E.trans x5
 replace K1 := K1.ext x5
 replace aa := x5.get aa
 clear x5
 refine s_val (x_not (b := l.any (fun x => !(p x))) rfl) <| sA (B (!(l.any (fun x => !(p x))))) rfl <| s_nil ?_
 refine W.ret ?_
 exact ⟨_, resE_tmp rfl, (eqB (any_not _ _)), E⟩

theorem indexFunc_Pub {vl vf : Value} {l : List Pub} {p : Pub -> Bool} (w : World) (hl : Sl w.cell? vl l) (hf : FnB Try.prog w vf p (fun x => x ∈ l)) : Ret Try.prog 182 #[vl, vf] w fun v w' => v = I (idxP p l) /\ Ext w w' := by
 refine ret_of_W Try.func182 rfl rfl rfl ?_
 have E := Ext.refl w
 have K1 := KF.refl 0 w
 have ab := hl.len_le
 have hl := hl.par
 refine sQ rfl <| sA (I 0) rfl <| s_nil <| W.seq <| sQ rfl <| sM vl rfl <| s_val (x_lenS T24.und rfl (hl.to K1)) <| sM (I 0) rfl <| s_nil <| W.block ?_
 refine W.loop (fun m σ W => ∃ (k : Nat) (ρ : Env), σ = upds ρ [(0, vl), (1, vf), (7, I l.length), (8, I k)] /\ m = l.length - k /\ Ext w W /\ KF 0 w W /\ k <= l.length /\ (∀ y ∈ l.take k, p y = false)) ?_ ?_
 ·exact ⟨_, 0, _, upds_of _ _ ⟨rfl, rfl, rfl, (eqI (by omega)), trivial⟩, rfl, E, K1, Nat.zero_le _, (by simp)⟩
 rintro m σ w2 ⟨k, ρ, rfl, rfl, E, K1, ac, aa⟩
 refine sQ rfl <| sC k l.length (decide ((k : Int) < l.length)) rfl rfl rfl <| s_nil <| W.seq ?_
 refine W.cond (decide ((k : Int) < l.length)) rfl (fun c3 => ?_) (fun c3 => ?_)
 ·simp only [qz1, qz2, qz3, qz4, qz5, qz6, ne_eq, qz7] at c3
  refine W.skip <| W.seq <| W.block <| sQ rfl <| sM (I k) rfl <| sA (I k) rfl <| s_nil <| sQ rfl <| sM vf rfl <| sM vl rfl ?_
  refine sM (I k) rfl <| s_val (x_ix (a := vl) (b := I k) (v := vat vl 2 (Int.toNat k)) rfl rfl (Sl.ix (α := Pub) T24.und T24.size (hl.to K1) (by omega) (by omega))) <| s_val (x_ld (p := vat vl 2 (Int.toNat k)) (v := .agg #[I ((l.getD k default).work), I ((l.getD k default).value)]) rfl (ld_ag Ag33 Sz33 (At.to (Pub_atA hl (i := k) (by omega) (by omega)) K1))) ?_
  refine s_callB hf E rfl rfl ((l.getD k default)) (getD_memN l (by omega) _) ⟨_, rfl, rfl⟩ ?_
  intro w4 x5
  replace E := E.trans x5
  replace K1 := K1.ext x5
  clear x5
  refine s_nil ?_
  refine W.cond (p ((l.getD k default))) rfl (fun c6 => ?_) (fun c6 => ?_)
  ·skip
   refine sQ rfl <| sM (I k) rfl <| sA (I k) rfl <| s_nil ?_
   refine W.ret ?_
   exact ⟨_, resE_tmp rfl, (eqI (idx_yes c3 c6 aa)), E⟩
  skip
  refine W.skip <| W.region rfl <| sR k 1 (k + 1) rfl rfl rfl (by omega) <| sM (I (k + 1)) rfl <| s_nil ?_
  exact ⟨_, (by omega), k+1, _, upds_of _ _ ⟨rfl, rfl, rfl, (eqI (by omega)), trivial⟩, rfl, E, K1, (by omega), (idx_step c3 aa c6)⟩
 simp only [qz1, qz2, qz3, qz4, qz5, qz6, ne_eq, qz7] at c3
 refine W.exit ?_
 refine sQ rfl <| sA (I (-1)) rfl <| s_nil ?_
 refine W.ret ?_
 exact ⟨_, resE_tmp rfl, (eqI (idx_no c3 aa)), E⟩

theorem containsFunc_Pub {vl vf : Value} {l : List Pub} {p : Pub -> Bool} (w : World) (hl : Sl w.cell? vl l) (hf : FnB Try.prog w vf p (fun x => x ∈ l)) : Ret Try.prog 144 #[vl, vf] w fun v w' => v = B (l.any p) /\ Ext w w' := by
 refine ret_of_W Try.func144 rfl rfl rfl ?_
 have E := Ext.refl w
 have K1 := KF.refl 0 w
 have aa := hl.len_le
 have hl := hl.par
 refine sQ rfl <| sA (B false) rfl <| s_nil <| sQ rfl <| sM vl rfl <| sM vf rfl ?_
 refine s_call cf182 [vl, vf] rfl (indexFunc_Pub _ (hl.to K1) (hf.ext E)) ?_
 rintro _ w2 ⟨rfl, x3⟩
 replace E := E.trans x3
 replace K1 := K1.ext x3
 clear x3
 refine sC (idxP p l) 0 (decide ((0 : Int) <= (idxP p l))) rfl rfl rfl <| sA (B (decide ((0 : Int) <= (idxP p l)))) rfl <| s_nil ?_
 refine W.ret ?_
 exact ⟨_, resE_tmp rfl, (eqB (idxP_any _ _)), E⟩

theorem every1_Pub {b : Nat} {vf : Value} {p : Pub -> Bool} {D : Pub -> Prop} (x : Pub) (w : World) (aa : w.heap[b]? = some (.cells #[vf] 140 (0, 0))) (hf : FnB Try.prog w vf p D) (hD : D x) : Ret Try.prog 145 #[.agg #[I x.work, I x.value], Pz b] w fun v w' => v = B (!(p x)) /\ Ext w w' := by
 refine ret_of_W Try.func145 rfl rfl rfl ?_
 have E := Ext.refl w
 have K1 := KF.refl 0 w
 refine sQ rfl ?_
 refine s_box (v := .agg #[I x.work, I x.value]) (cs := [I x.work, I x.value]) rfl rfl ?_
 intro b2 w3 Nb2
 have o_K1_b2 := Nat.le_trans K1.size Nb2.ge
 have o_b2 := Nat.le_trans E.size Nb2.ge
 have o_b_b2 := Nat.lt_of_lt_of_le (heap_lt aa) Nb2.ge
 replace E := E.trans Nb2.ext
 replace K1 := K1.ext Nb2.ext
 replace aa := Nb2.ext.get aa
 have ab := Nb2.same
 clear Nb2
 refine sA (B false) rfl <| s_nil <| sQ rfl <| s_val (x_ld (p := Pz b) (v := vf) rfl (ldb_sc Sc140 aa rfl)) <| s_val (x_ld (p := Pz b2) (v := .agg #[I x.work, I x.value]) rfl (ldb_ag (ds := [I x.work, I x.value]) Ag33 Sz33 ab rfl rfl)) ?_
 refine s_callB hf E rfl rfl x hD ⟨_, rfl, rfl⟩ ?_
 intro w4 x5
 replace E := E.trans x5
 replace K1 := K1.ext x5
 replace aa := x5.get aa
 replace ab := x5.get ab
 clear x5
 refine s_val (x_not (b := p x) rfl) <| sA (B (!(p x))) rfl <| s_nil ?_
 refine W.ret ?_
 exact ⟨_, resE_tmp rfl, rfl, E⟩

theorem every_Pub {vl vf : Value} {l : List Pub} {p : Pub -> Bool} (w : World) (hl : Sl w.cell? vl l) (hf : FnB Try.prog w vf p (fun x => x ∈ l)) : Ret Try.prog 90 #[vf, vl] w fun v w' => v = B (l.all p) /\ Ext w w' := by
 refine ret_of_W Try.func90 rfl rfl rfl ?_
 have E := Ext.refl w
 have K1 := KF.refl 0 w
 have ab := hl.len_le
 have hl := hl.par
 refine sQ rfl ?_
 refine s_box (v := vf) (cs := [vf]) rfl (FnB.cells hf) ?_
 intro b2 w3 Nb2
 have o_K1_b2 := Nat.le_trans K1.size Nb2.ge
 have o_b2 := Nat.le_trans E.size Nb2.ge
 replace E := E.trans Nb2.ext
 replace K1 := K1.ext Nb2.ext
 have aa := Nb2.same
 clear Nb2
 refine sA (B false) rfl <| s_nil <| sQ rfl <| sM vl rfl <| s_val (x_mf (fs := []) (cs := [Pz b2]) rfl rfl) ?_
 refine s_call cf144 [vl, .func (.func 145) #[] #[Pz b2]] rfl (containsFunc_Pub _ (hl.to K1) ⟨145, [Pz b2], rfl, cf145, fun w' v x hE hD hA => by obtain rfl := Pub_arg hA; exact (every1_Pub _ _ (hE.get aa) ((hf.ext E).ext hE) hD)⟩) ?_
 rintro _ w4 ⟨rfl, x5⟩
 replace E := E.trans x5
 replace K1 := K1.ext x5
 replace aa := x5.get aa
 clear x5
 refine s_val (x_not (b := l.any (fun x => !(p x))) rfl) <| sA (B (!(l.any (fun x => !(p x))))) rfl <| s_nil ?_
 refine W.ret ?_
 exact ⟨_, resE_tmp rfl, (eqB (any_not _ _)), E⟩

theorem indexFunc_Work {vl vf : Value} {l : List Work} {p : Work -> Bool} (w : World) (hl : Sl w.cell? vl l) (hf : FnB Try.prog w vf p (fun x => x ∈ l)) : Ret Try.prog 200 #[vl, vf] w fun v w' => v = I (idxP p l) /\ Ext w w' := by
 refine ret_of_W Try.func200 rfl rfl rfl ?_
 have E := Ext.refl w
 have K1 := KF.refl 0 w
 have ac := hl.len_le
 have hl := hl.par
 refine sQ rfl <| sA (I 0) rfl <| s_nil <| W.seq <| sQ rfl <| sM vl rfl <| s_val (x_lenS T22.und rfl (hl.to K1)) <| sM (I 0) rfl <| s_nil <| W.block ?_
 refine W.loop (fun m σ W => ∃ (k : Nat) (ρ : Env), σ = upds ρ [(0, vl), (1, vf), (7, I l.length), (8, I k)] /\ m = l.length - k /\ Ext w W /\ KF 0 w W /\ k <= l.length /\ (∀ y ∈ l.take k, p y = false)) ?_ ?_
 ·exact ⟨_, 0, _, upds_of _ _ ⟨rfl, rfl, rfl, (eqI (by omega)), trivial⟩, rfl, E, K1, Nat.zero_le _, (by simp)⟩
 rintro m σ w2 ⟨k, ρ, rfl, rfl, E, K1, ae, ab⟩
 refine sQ rfl <| sC k l.length (decide ((k : Int) < l.length)) rfl rfl rfl <| s_nil <| W.seq ?_
 refine W.cond (decide ((k : Int) < l.length)) rfl (fun c3 => ?_) (fun c3 => ?_)
 ·simp only [qz1, qz2, qz3, qz4, qz5, qz6, ne_eq, qz7] at c3
  refine W.skip <| W.seq <| W.block <| sQ rfl <| sM (I k) rfl <| sA (I k) rfl <| s_nil <| sQ rfl <| sM vf rfl <| sM vl rfl ?_
  refine sM (I k) rfl <| s_val (x_ix (a := vl) (b := I k) (v := vat vl 3 (Int.toNat k)) rfl rfl (Sl.ix (α := Work) T22.und T22.size (hl.to K1) (by omega) (by omega))) ?_
  obtain ⟨u4, ha6, aa⟩ := Work_atA hl (i := k) (by omega) (by omega)
  replace aa : Sl _ u4 (l.getD k default).of := aa
  have ag := aa.len_le
  refine s_val (x_ld (p := vat vl 3 (Int.toNat k)) (v := .agg #[u4, I ((l.getD k default).base), I ((l.getD k default).minutes)]) rfl (ld_ag Ag60 Sz60 (At.to ha6 K1))) ?_
  refine s_callB hf E rfl rfl ((l.getD k default)) (getD_memN l (by omega) _) ⟨_, Work_mk (aa.to K1), rfl⟩ ?_
  intro w7 x8
  replace E := E.trans x8
  replace K1 := K1.ext x8
  clear x8
  refine s_nil ?_
  refine W.cond (p ((l.getD k default))) rfl (fun c9 => ?_) (fun c9 => ?_)
  ·skip
   refine sQ rfl <| sM (I k) rfl <| sA (I k) rfl <| s_nil ?_
   refine W.ret ?_
   exact ⟨_, resE_tmp rfl, (eqI (idx_yes c3 c9 ab)), E⟩
  skip
  refine W.skip <| W.region rfl <| sR k 1 (k + 1) rfl rfl rfl (by omega) <| sM (I (k + 1)) rfl <| s_nil ?_
  exact ⟨_, (by omega), k+1, _, upds_of _ _ ⟨rfl, rfl, rfl, (eqI (by omega)), trivial⟩, rfl, E, K1, (by omega), (idx_step c3 ab c9)⟩
 simp only [qz1, qz2, qz3, qz4, qz5, qz6, ne_eq, qz7] at c3
 refine W.exit ?_
 refine sQ rfl <| sA (I (-1)) rfl <| s_nil ?_
 refine W.ret ?_
 exact ⟨_, resE_tmp rfl, (eqI (idx_no c3 ab)), E⟩

theorem containsFunc_Work {vl vf : Value} {l : List Work} {p : Work -> Bool} (w : World) (hl : Sl w.cell? vl l) (hf : FnB Try.prog w vf p (fun x => x ∈ l)) : Ret Try.prog 186 #[vl, vf] w fun v w' => v = B (l.any p) /\ Ext w w' := by
 refine ret_of_W Try.func186 rfl rfl rfl ?_
 have E := Ext.refl w
 have K1 := KF.refl 0 w
 have aa := hl.len_le
 have hl := hl.par
 refine sQ rfl <| sA (B false) rfl <| s_nil <| sQ rfl <| sM vl rfl <| sM vf rfl ?_
 refine s_call cf200 [vl, vf] rfl (indexFunc_Work _ (hl.to K1) (hf.ext E)) ?_
 rintro _ w2 ⟨rfl, x3⟩
 replace E := E.trans x3
 replace K1 := K1.ext x3
 clear x3
 refine sC (idxP p l) 0 (decide ((0 : Int) <= (idxP p l))) rfl rfl rfl <| sA (B (decide ((0 : Int) <= (idxP p l)))) rfl <| s_nil ?_
 refine W.ret ?_
 exact ⟨_, resE_tmp rfl, (eqB (idxP_any _ _)), E⟩

theorem every1_Work {b : Nat} {vf : Value} {p : Work -> Bool} {D : Work -> Prop} {sv : Value} (x : Work) (w : World) (aa : w.heap[b]? = some (.cells #[vf] 218 (0, 0))) (hf : FnB Try.prog w vf p D) (hs : Sl w.cell? sv x.of) (hD : D x) : Ret Try.prog 187 #[.agg #[sv, I x.base, I x.minutes], Pz b] w fun v w' => v = B (!(p x)) /\ Ext w w' := by
 refine ret_of_W Try.func187 rfl rfl rfl ?_
 have E := Ext.refl w
 have K1 := KF.refl 0 w
 have ac := hs.len_le
 have hs := hs.par
 refine sQ rfl ?_
 refine s_box (v := .agg #[sv, I x.base, I x.minutes]) (cs := [sv, I x.base, I x.minutes]) rfl rfl ?_
 intro b2 w3 Nb2
 have o_K1_b2 := Nat.le_trans K1.size Nb2.ge
 have o_b2 := Nat.le_trans E.size Nb2.ge
 have o_b_b2 := Nat.lt_of_lt_of_le (heap_lt aa) Nb2.ge
 replace E := E.trans Nb2.ext
 replace K1 := K1.ext Nb2.ext
 replace aa := Nb2.ext.get aa
 have ab := Nb2.same
 clear Nb2
 refine sA (B false) rfl <| s_nil <| sQ rfl <| s_val (x_ld (p := Pz b) (v := vf) rfl (ldb_sc Sc218 aa rfl)) <| s_val (x_ld (p := Pz b2) (v := .agg #[sv, I x.base, I x.minutes]) rfl (ldb_ag (ds := [sv, I x.base, I x.minutes]) Ag60 Sz60 ab rfl rfl)) ?_
 refine s_callB hf E rfl rfl x hD ⟨_, Work_mk (hs.to K1), rfl⟩ ?_
 intro w4 x5
 replace E := E.trans x5
 replace K1 := K1.ext x5
 replace aa := x5.get aa
 replace ab := x5.get ab
 clear x5
 refine s_val (x_not (b := p x) rfl) <| sA (B (!(p x))) rfl <| s_nil ?_
 refine W.ret ?_
 exact ⟨_, resE_tmp rfl, rfl, E⟩

theorem every_Work {vl vf : Value} {l : List Work} {p : Work -> Bool} (w : World) (hl : Sl w.cell? vl l) (hf : FnB Try.prog w vf p (fun x => x ∈ l)) : Ret Try.prog 161 #[vf, vl] w fun v w' => v = B (l.all p) /\ Ext w w' := by
 refine ret_of_W Try.func161 rfl rfl rfl ?_
 have E := Ext.refl w
 have K1 := KF.refl 0 w
 have ab := hl.len_le
 have hl := hl.par
 refine sQ rfl ?_
 refine s_box (v := vf) (cs := [vf]) rfl (FnB.cells hf) ?_
 intro b2 w3 Nb2
 have o_K1_b2 := Nat.le_trans K1.size Nb2.ge
 have o_b2 := Nat.le_trans E.size Nb2.ge
 replace E := E.trans Nb2.ext
 replace K1 := K1.ext Nb2.ext
 have aa := Nb2.same
 clear Nb2
 refine sA (B false) rfl <| s_nil <| sQ rfl <| sM vl rfl <| s_val (x_mf (fs := []) (cs := [Pz b2]) rfl rfl) ?_
 refine s_call cf186 [vl, .func (.func 187) #[] #[Pz b2]] rfl (containsFunc_Work _ (hl.to K1) ⟨187, [Pz b2], rfl, cf187, fun w' v x hE hD hA => by obtain ⟨sv, rfl, hs⟩ := Work_arg hA; exact (every1_Work _ _ (hE.get aa) ((hf.ext E).ext hE) hs hD)⟩) ?_
 rintro _ w4 ⟨rfl, x5⟩
 replace E := E.trans x5
 replace K1 := K1.ext x5
 replace aa := x5.get aa
 clear x5
 refine s_val (x_not (b := l.any (fun x => !(p x))) rfl) <| sA (B (!(l.any (fun x => !(p x))))) rfl <| s_nil ?_
 refine W.ret ?_
 exact ⟨_, resE_tmp rfl, (eqB (any_not _ _)), E⟩

end Go.Proofs.Ytndobgodeicloaa
end
section
set_option maxRecDepth 100000
set_option maxHeartbeats 16000000
namespace Go.Proofs.Ytndobgodeicloaa
open Go Go.Nm
theorem index_int {vl : Value} {l : List Int} (n : Int) (w : World) (hl : Sl w.cell? vl l) : Ret Try.prog 100 #[vl, I n] w fun v w' => v = I (idxI l n) /\ Ext w w' := by
 refine ret_of_W Try.func100 rfl rfl rfl ?_
 have E := Ext.refl w
 have K1 := KF.refl 0 w
 have ab := hl.len_le
 have hl := hl.par
 refine sQ rfl <| sA (I 0) rfl <| s_nil <| W.seq <| sQ rfl <| sM vl rfl <| s_val (x_lenS T34.und rfl (hl.to K1)) <| sM (I 0) rfl <| s_nil <| W.block ?_
 refine W.loop (fun m σ W => ∃ (k : Nat) (ρ : Env), σ = upds ρ [(0, vl), (1, I n), (7, I l.length), (8, I k)] /\ m = l.length - k /\ Ext w W /\ KF 0 w W /\ k <= l.length /\ (∀ y ∈ l.take k, (fun x : Int => n == x) y = false)) ?_ ?_
 ·exact ⟨_, 0, _, upds_of _ _ ⟨rfl, rfl, rfl, (eqI (by omega)), trivial⟩, rfl, E, K1, Nat.zero_le _, (by simp)⟩
 rintro m σ w2 ⟨k, ρ, rfl, rfl, E, K1, ac, aa⟩
 refine sQ rfl <| sC k l.length (decide ((k : Int) < l.length)) rfl rfl rfl <| s_nil <| W.seq ?_
 refine W.cond (decide ((k : Int) < l.length)) rfl (fun c3 => ?_) (fun c3 => ?_)
 ·simp only [qz1, qz2, qz3, qz4, qz5, qz6, ne_eq, qz7] at c3
  refine W.skip <| W.seq <| W.block <| sQ rfl <| sM (I k) rfl <| sA (I k) rfl <| s_nil <| sQ rfl <| sM (I n) rfl <| sM vl rfl ?_
  refine sM (I k) rfl <| s_val (x_ix (a := vl) (b := I k) (v := vat vl 1 (Int.toNat k)) rfl rfl (Sl.ix (α := Int) T34.und T34.size (hl.to K1) (by omega) (by omega))) <| s_val (x_ld (p := vat vl 1 (Int.toNat k)) (v := I (l.getD k 0)) rfl (ld_sc Sc3 (At.to (Int_at hl (i := k) (by omega) (by omega)) K1))) <| sC n (l.getD k 0) ((n : Int) == (l.getD k 0)) rfl rfl rfl <| s_nil ?_
  refine W.cond ((n : Int) == (l.getD k 0)) rfl (fun c4 => ?_) (fun c4 => ?_)
  ·simp only [qz1, qz2, qz3, qz4, qz5, qz6, ne_eq, qz7] at c4
   refine sQ rfl <| sM (I k) rfl <| sA (I k) rfl <| s_nil ?_
   refine W.ret ?_
   exact ⟨_, resE_tmp rfl, (eqI (idx_yes (p := fun x : Int => n == x) (d := 0) c3 (by simpa using c4) aa)), E⟩
  simp only [qz1, qz2, qz3, qz4, qz5, qz6, ne_eq, qz7] at c4
  refine W.skip <| W.region rfl <| sR k 1 (k + 1) rfl rfl rfl (by omega) <| sM (I (k + 1)) rfl <| s_nil ?_
  exact ⟨_, (by omega), k+1, _, upds_of _ _ ⟨rfl, rfl, rfl, (eqI (by omega)), trivial⟩, rfl, E, K1, (by omega), (idx_step (p := fun x : Int => n == x) (d := 0) c3 aa (by simpa using c4))⟩
 simp only [qz1, qz2, qz3, qz4, qz5, qz6, ne_eq, qz7] at c3
 refine W.exit ?_
 refine sQ rfl <| sA (I (-1)) rfl <| s_nil ?_
 refine W.ret ?_
 exact ⟨_, resE_tmp rfl, (eqI (idx_no (p := fun x : Int => n == x) c3 aa)), E⟩

theorem contains_int {vl : Value} {l : List Int} (n : Int) (w : World) (hl : Sl w.cell? vl l) : Ret Try.prog 45 #[vl, I n] w fun v w' => v = B (l.contains n) /\ Ext w w' := by
 refine ret_of_W Try.func45 rfl rfl rfl ?_
 have E := Ext.refl w
 have K1 := KF.refl 0 w
 have aa := hl.len_le
 have hl := hl.par
 refine sQ rfl <| sA (B false) rfl <| s_nil <| sQ rfl <| sM vl rfl <| sM (I n) rfl ?_
 refine s_call cf100 [vl, I n] rfl (index_int n _ (hl.to K1)) ?_
 rintro _ w2 ⟨rfl, x3⟩
 replace E := E.trans x3
 replace K1 := K1.ext x3
 clear x3
 refine sC (idxI l n) 0 (decide ((0 : Int) <= (idxI l n))) rfl rfl rfl <| sA (B (decide ((0 : Int) <= (idxI l n)))) rfl <| s_nil ?_
 refine W.ret ?_
 exact ⟨_, resE_tmp rfl, (eqB (idxI_any _ _)), E⟩

theorem right1 {sv : Value} (x : Work) (w : World) (hs : Sl w.cell? sv x.of) : Ret Try.prog 162 #[.agg #[sv, I x.base, I x.minutes]] w fun v w' => v = B (decide ((x.of.length : Int) <= 5)) /\ Ext w w' := by
 refine ret_of_W Try.func162 rfl rfl rfl ?_
 have E := Ext.refl w
 have K1 := KF.refl 0 w
 have ab := hs.len_le
 have hs := hs.par
 refine sQ rfl ?_
 refine s_box (v := .agg #[sv, I x.base, I x.minutes]) (cs := [sv, I x.base, I x.minutes]) rfl rfl ?_
 intro b2 w3 Nb2
 have o_K1_b2 := Nat.le_trans K1.size Nb2.ge
 have o_b2 := Nat.le_trans E.size Nb2.ge
 replace E := E.trans Nb2.ext
 replace K1 := K1.ext Nb2.ext
 have aa := Nb2.same
 clear Nb2
 refine sA (B false) rfl <| s_nil <| sQ rfl <| s_val (x_fa (a := Pz b2) (v := Pz b2) rfl (fa_blk (o := 0) Fd60_0 Sz34)) <| s_val (x_ld (p := Pz b2) (v := sv) rfl (ldb_sc Sc34 aa rfl)) <| s_val (x_lenS T34.und rfl (hs.to K1)) <| sC x.of.length 5 (decide ((x.of.length : Int) <= 5)) rfl rfl rfl <| sA (B (decide ((x.of.length : Int) <= 5))) rfl <| s_nil ?_
 refine W.ret ?_
 exact ⟨_, resE_tmp rfl, rfl, E⟩

theorem right2 {b1 b2 : Nat} {vw : Value} {ws : List Work} (i x : Int) (w : World) (aa : w.heap[b1]? = some (.cells #[vw] 22 (0, 0))) (ab : w.heap[b2]? = some (.cells #[I i] 3 (0, 0))) (hw : Sl w.cell? vw ws) : Ret Try.prog 163 #[I x, Pz b1, Pz b2] w fun v w' => v = B (inB x 0 ((ws.length : Int) - 1) && (x != i)) /\ Ext w w' := by
 refine ret_of_W Try.func163 rfl rfl rfl ?_
 have E := Ext.refl w
 have K1 := KF.refl 0 w
 have ac := hw.len_le
 have hw := hw.par
 refine sQ rfl <| sA (B false) rfl <| s_nil <| sQ rfl <| sM (I x) rfl <| s_val (x_ld (p := Pz b1) (v := vw) rfl (ldb_sc Sc22 aa rfl)) <| s_val (x_lenS T22.und rfl (hw.to K1)) <| sR ws.length 1 (ws.length - 1) rfl rfl rfl (by omega) ?_
 refine s_call cf84 [I x, I 0, I (ws.length - 1)] rfl (in_any _ _ _ _) ?_
 rintro _ w2 ⟨rfl, x3⟩
 replace E := E.trans x3
 replace K1 := K1.ext x3
 replace aa := x3.get aa
 replace ab := x3.get ab
 clear x3
 refine sM (B (inB x 0 (ws.length - 1))) rfl <| g_val (inB x 0 (ws.length - 1)) (gy_t rfl) (fun hg => x_mv (v := I x) rfl) <| g_val (inB x 0 (ws.length - 1)) (gy_t rfl) (fun hg => x_ld (p := Pz b2) (v := I i) rfl (ldb_sc Sc3 ab rfl)) <| g_val (inB x 0 (ws.length - 1)) (gy_t rfl) (fun hg => x_cmp (kd := .i64) (a := x) (b := i) (r := (x : Int) != i) (gd_of (c := inB x 0 (ws.length - 1)) hg (I x)) (gd_of (c := inB x 0 (ws.length - 1)) hg (I i)) rfl) <| s_val (x_pand (b := inB x 0 (ws.length - 1)) (r := (x : Int) != i) rfl (fun hb => gd_of (c := inB x 0 (ws.length - 1)) (by simp_all) (B ((x : Int) != i))) rfl) <| sA (B (((inB x 0 (ws.length - 1)) && ((x : Int) != i)))) rfl <| s_nil ?_
 refine W.ret ?_
 exact ⟨_, resE_tmp rfl, rfl, E⟩

theorem right_any {vw : Value} {ws : List Work} (w : World) (hw : Sl w.cell? vw ws) : Ret Try.prog 130 #[vw] w fun v w' => v = I (rightE ws) /\ Ext w w' := by
 refine ret_of_W Try.func130 rfl rfl rfl ?_
 have E := Ext.refl w
 have K1 := KF.refl 0 w
 have aE := hw.len_le
 have hw := hw.par
 refine sQ rfl ?_
 refine s_box (v := vw) (cs := [vw]) rfl (Sl.cells (hw.to K1)) ?_
 intro b2 w3 Nb2
 have o_K1_b2 := Nat.le_trans K1.size Nb2.ge
 have o_b2 := Nat.le_trans E.size Nb2.ge
 replace E := E.trans Nb2.ext
 replace K1 := K1.ext Nb2.ext
 have aa := Nb2.same
 clear Nb2
 refine sA (I 0) rfl <| s_nil <| W.seq <| sQ rfl <| s_val (x_ld (p := Pz b2) (v := vw) rfl (ldb_sc Sc22 aa rfl)) <| s_val (x_lenS T22.und rfl (hw.to K1)) ?_
 refine s_call cf84 [I ws.length, I 1, I 30] rfl (in_any _ _ _ _) ?_
 rintro _ w4 ⟨rfl, x5⟩
 replace E := E.trans x5
 replace K1 := K1.ext x5
 replace aa := x5.get aa
 clear x5
 refine s_val (x_not (b := inB ws.length 1 30) rfl) <| sM (B (!(inB ws.length 1 30))) rfl <| g_val (!(!(inB ws.length 1 30))) (gy_f rfl) (fun hg => x_ld (p := Pz b2) (v := vw) rfl (ldb_sc Sc22 aa rfl)) ?_
 refine g_call (!(!(inB ws.length 1 30))) (gy_f rfl) cf161 (B (ws.all (fun x : Work => decide ((x.of.length : Int) <= 5)))) (fun _ => [.func (.func 162) #[] #[], vw]) (fun hg => lst2 rfl (gd_of (c := !(!(inB ws.length 1 30))) hg (vw))) (fun hg => (every_Work _ (hw.to K1) ⟨162, [], rfl, cf162, fun w' v x hE hD hA => by obtain ⟨sv, rfl, hs⟩ := Work_arg hA; exact (right1 _ _ hs)⟩)) ?_
 intro w6 x7
 replace E := E.trans x7
 replace K1 := K1.ext x7
 replace aa := x7.get aa
 clear x7
 refine g_val (!(!(inB ws.length 1 30))) (gy_f rfl) (fun hg => x_not (b := ws.all (fun x : Work => decide ((x.of.length : Int) <= 5))) (gd_of (c := !(!(inB ws.length 1 30))) hg (B (ws.all (fun x : Work => decide ((x.of.length : Int) <= 5)))))) <| s_val (x_por (b := !(inB ws.length 1 30)) (r := !(ws.all (fun x : Work => decide ((x.of.length : Int) <= 5)))) rfl rfl (fun hb => gd_of (c := !(!(inB ws.length 1 30))) (by simp_all) (B (!(ws.all (fun x : Work => decide ((x.of.length : Int) <= 5))))))) <| s_nil ?_
 refine W.cond (((!(inB ws.length 1 30)) || (!(ws.all (fun x : Work => decide ((x.of.length : Int) <= 5)))))) rfl (fun c8 => ?_) (fun c8 => ?_)
 ·skip
  refine sQ rfl <| sA (I 3) rfl <| s_nil ?_
  refine W.ret ?_
  exact ⟨_, resE_tmp rfl, (eqI (right_many c8)), E⟩
 skip
 refine W.skip <| sQ rfl <| sA (B false) rfl <| s_nil <| W.seq <| sQ rfl <| s_val (x_ld (p := Pz b2) (v := vw) rfl (ldb_sc Sc22 aa rfl)) <| s_val (x_lenS T22.und rfl (hw.to K1)) <| sM (I 0) rfl <| s_nil ?_
 refine W.block ?_
 refine W.loop (fun m σ W => ∃ (i : Nat) (ρ : Env), σ = upds ρ [(1, Pz b2), (3, B ((ws.take i).any (fun x => dupL x.of))), (17, vw), (18, I ws.length), (19, I i)] /\ m = ws.length - i /\ Ext w W /\ KF 0 w W /\ W.heap[b2]? = some (.cells #[vw] 22 (0, 0)) /\ i <= ws.length /\ (List.range i).any (badAt ws) = false) ?_ ?_
 ·exact ⟨_, 0, _, upds_of _ _ ⟨rfl, (eqB (by first | rfl | simp)), rfl, rfl, (eqI (by omega)), trivial⟩, rfl, E, K1, aa, Nat.zero_le _, rfl⟩
 rintro m σ w9 ⟨i, ρ, rfl, rfl, E, K1, aa, aA, aw⟩
 refine sQ rfl <| sC i ws.length (decide ((i : Int) < ws.length)) rfl rfl rfl <| s_nil <| W.seq ?_
 refine W.cond (decide ((i : Int) < ws.length)) rfl (fun ai => ?_) (fun ai => ?_)
 ·simp only [qz1, qz2, qz3, qz4, qz5, qz6, ne_eq, qz7] at ai
  refine W.skip <| W.seq <| W.block <| sQ rfl <| sM (I i) rfl <| s_val (x_ix (a := vw) (b := I i) (v := vat vw 3 (Int.toNat i)) rfl rfl (Sl.ix (α := Work) T22.und T22.size (hw.to K1) (by omega) (by omega))) ?_
  obtain ⟨ag, aB, ah⟩ := Work_atA hw (i := i) (by omega) (by omega)
  replace ah : Sl _ ag (ws.getD i default).of := ah
  have aF := ah.len_le
  refine s_val (x_ld (p := vat vw 3 (Int.toNat i)) (v := .agg #[ag, I ((ws.getD i default).base), I ((ws.getD i default).minutes)]) rfl (ld_ag Ag60 Sz60 (At.to aB K1))) ?_
  refine s_alloc (cs := [I 0]) Al3 rfl ?_
  intro aj aG Nb14
  have o_K1_b14 := Nat.le_trans K1.size Nb14.ge
  have o_b14 := Nat.le_trans E.size Nb14.ge
  have o_b2_b14 := Nat.lt_of_lt_of_le (heap_lt aa) Nb14.ge
  replace E := E.trans Nb14.ext
  replace K1 := K1.ext Nb14.ext
  replace aa := Nb14.ext.get aa
  have ae := Nb14.same
  clear Nb14
  refine s_alloc (cs := [.slice none 0 0, I 0, I 0]) Al60 rfl ?_
  intro ab aH Nb16
  have o_K1_b16 := Nat.le_trans K1.size Nb16.ge
  have o_b16 := Nat.le_trans E.size Nb16.ge
  have o_b2_b16 := Nat.lt_of_lt_of_le (heap_lt aa) Nb16.ge
  have o_b14_b16 := Nat.lt_of_lt_of_le (heap_lt ae) Nb16.ge
  replace E := E.trans Nb16.ext
  replace K1 := K1.ext Nb16.ext
  replace aa := Nb16.ext.get aa
  replace ae := Nb16.ext.get ae
  have ac := Nb16.same
  clear Nb16
  refine s_st (b := aj) (off := 0) (vs := [I i]) (cs' := [I i]) (v := I i) rfl rfl Sz3 ae rfl rfl rfl rfl rfl ?_
  intro aI ak
  replace E := E.put (by omega) ak
  replace K1 := K1.put ak (by omega)
  replace aa := ak.get (by omega) aa
  replace ac := ak.get (by omega) ac
  replace ae := ak.same
  clear ak
  refine s_st (b := ab) (off := 0) (vs := [ag, I ((ws.getD i default).base), I ((ws.getD i default).minutes)]) (cs' := [ag, I ((ws.getD i default).base), I ((ws.getD i default).minutes)]) (v := .agg #[ag, I ((ws.getD i default).base), I ((ws.getD i default).minutes)]) rfl rfl Sz60 ac rfl rfl rfl (by simp only [List.all_cons, List.all_nil, Bool.true_and, Bool.and_true, Sl.oc (ah.to K1)]; try rfl) rfl ?_
  intro aJ al
  replace E := E.put (by omega) al
  replace K1 := K1.put al (by omega)
  replace aa := al.get (by omega) aa
  replace ae := al.get (by omega) ae
  replace ac := al.same
  clear al
  refine s_nil <| W.seq <| sQ rfl <| s_val (x_fa (a := Pz ab) (v := Oz ab 1) rfl (fa_blk (o := 0) Fd60_1 Sz3)) <| s_val (x_ld (p := Oz ab 1) (v := I ((ws.getD i default).base)) rfl (ldb_sc Sc3 ac rfl)) ?_
  refine s_call cf84 [I ((ws.getD i default).base), I 0, I 1000002] rfl (in_any _ _ _ _) ?_
  rintro _ aK ⟨rfl, am⟩
  replace E := E.trans am
  replace K1 := K1.ext am
  replace aa := am.get aa
  replace ae := am.get ae
  replace ac := am.get ac
  clear am
  refine s_val (x_not (b := inB ((ws.getD i default).base) 0 1000002) rfl) <| sM (B (!(inB ((ws.getD i default).base) 0 1000002))) rfl <| g_val (!(!(inB ((ws.getD i default).base) 0 1000002))) (gy_f rfl) (fun hg => x_fa (a := Pz ab) (v := Oz ab 2) rfl (fa_blk (o := 0) Fd60_2 Sz3)) <| g_val (!(!(inB ((ws.getD i default).base) 0 1000002))) (gy_f rfl) (fun hg => x_ld (p := Oz ab 2) (v := I ((ws.getD i default).minutes)) (gd_of (c := !(!(inB ((ws.getD i default).base) 0 1000002))) hg (Oz ab 2)) (ldb_sc Sc3 ac rfl)) ?_
  refine g_call (!(!(inB ((ws.getD i default).base) 0 1000002))) (gy_f rfl) cf84 (B (inB ((ws.getD i default).minutes) 0 10000)) (fun _ => [I ((ws.getD i default).minutes), I 0, I 10000]) (fun hg => lst3 (gd_of (c := !(!(inB ((ws.getD i default).base) 0 1000002))) hg (I ((ws.getD i default).minutes))) rfl rfl) (fun hg => (in_any _ _ _ _)) ?_
  intro aL ao
  replace E := E.trans ao
  replace K1 := K1.ext ao
  replace aa := ao.get aa
  replace ae := ao.get ae
  replace ac := ao.get ac
  clear ao
  refine g_val (!(!(inB ((ws.getD i default).base) 0 1000002))) (gy_f rfl) (fun hg => x_not (b := inB ((ws.getD i default).minutes) 0 10000) (gd_of (c := !(!(inB ((ws.getD i default).base) 0 1000002))) hg (B (inB ((ws.getD i default).minutes) 0 10000)))) <| s_val (x_por (b := !(inB ((ws.getD i default).base) 0 1000002)) (r := !(inB ((ws.getD i default).minutes) 0 10000)) rfl rfl (fun hb => gd_of (c := !(!(inB ((ws.getD i default).base) 0 1000002))) (by simp_all) (B (!(inB ((ws.getD i default).minutes) 0 10000))))) <| sM (B (((!(inB ((ws.getD i default).base) 0 1000002)) || (!(inB ((ws.getD i default).minutes) 0 10000))))) rfl <| g_val (!(((!(inB ((ws.getD i default).base) 0 1000002)) || (!(inB ((ws.getD i default).minutes) 0 10000))))) (gy_f rfl) (fun hg => x_mf (fs := []) (cs := [Pz b2, Pz aj]) rfl rfl) <| g_val (!(((!(inB ((ws.getD i default).base) 0 1000002)) || (!(inB ((ws.getD i default).minutes) 0 10000))))) (gy_f rfl) (fun hg => x_fa (a := Pz ab) (v := Pz ab) rfl (fa_blk (o := 0) Fd60_0 Sz34)) <| g_val (!(((!(inB ((ws.getD i default).base) 0 1000002)) || (!(inB ((ws.getD i default).minutes) 0 10000))))) (gy_f rfl) (fun hg => x_ld (p := Pz ab) (v := ag) (gd_of (c := !(((!(inB ((ws.getD i default).base) 0 1000002)) || (!(inB ((ws.getD i default).minutes) 0 10000))))) hg (Pz ab)) (ldb_sc Sc34 ac rfl)) ?_
  refine g_call (!(((!(inB ((ws.getD i default).base) 0 1000002)) || (!(inB ((ws.getD i default).minutes) 0 10000))))) (gy_f rfl) cf87 (B (((ws.getD i default).of).all (fun x : Int => inB x 0 ((ws.length : Int) - 1) && (x != i)))) (fun _ => [.func (.func 163) #[] #[Pz b2, Pz aj], ag]) (fun hg => lst2 (gd_of (c := !(((!(inB ((ws.getD i default).base) 0 1000002)) || (!(inB ((ws.getD i default).minutes) 0 10000))))) hg (.func (.func 163) #[] #[Pz b2, Pz aj])) (gd_of (c := !(((!(inB ((ws.getD i default).base) 0 1000002)) || (!(inB ((ws.getD i default).minutes) 0 10000))))) hg (ag))) (fun hg => (every_int _ (ah.to K1) ⟨163, [Pz b2, Pz aj], rfl, cf163, fun w' v x hE hD hA => by obtain rfl := Arg.int hA; exact (right2 _ _ _ (hE.get aa) (hE.get ae) ((hw.to K1).mono hE.le))⟩)) ?_
  intro aM ap
  replace E := E.trans ap
  replace K1 := K1.ext ap
  replace aa := ap.get aa
  replace ae := ap.get ae
  replace ac := ap.get ac
  clear ap
  refine g_val (!(((!(inB ((ws.getD i default).base) 0 1000002)) || (!(inB ((ws.getD i default).minutes) 0 10000))))) (gy_f rfl) (fun hg => x_not (b := ((ws.getD i default).of).all (fun x : Int => inB x 0 ((ws.length : Int) - 1) && (x != i))) (gd_of (c := !(((!(inB ((ws.getD i default).base) 0 1000002)) || (!(inB ((ws.getD i default).minutes) 0 10000))))) hg (B (((ws.getD i default).of).all (fun x : Int => inB x 0 ((ws.length : Int) - 1) && (x != i)))))) <| s_val (x_por (b := ((!(inB ((ws.getD i default).base) 0 1000002)) || (!(inB ((ws.getD i default).minutes) 0 10000)))) (r := !(((ws.getD i default).of).all (fun x : Int => inB x 0 ((ws.length : Int) - 1) && (x != i)))) rfl rfl (fun hb => gd_of (c := !(((!(inB ((ws.getD i default).base) 0 1000002)) || (!(inB ((ws.getD i default).minutes) 0 10000))))) (by simp_all) (B (!(((ws.getD i default).of).all (fun x : Int => inB x 0 ((ws.length : Int) - 1) && (x != i))))))) <| s_nil ?_
  refine W.cond (((((!(inB ((ws.getD i default).base) 0 1000002)) || (!(inB ((ws.getD i default).minutes) 0 10000)))) || (!(((ws.getD i default).of).all (fun x : Int => inB x 0 ((ws.length : Int) - 1) && (x != i)))))) rfl (fun ax => ?_) (fun ax => ?_)
  ·skip
   refine sQ rfl <| sA (I 140) rfl <| s_nil ?_
   refine W.ret ?_
   exact ⟨_, resE_tmp rfl, (eqI (right_bad c8 ai ax)), E⟩
  skip
  refine W.skip <| sQ rfl <| s_val (x_fa (a := Pz ab) (v := Pz ab) rfl (fa_blk (o := 0) Fd60_0 Sz34)) <| s_val (x_ld (p := Pz ab) (v := ag) rfl (ldb_sc Sc34 ac rfl)) <| s_val (x_lenS T34.und rfl (ah.to K1)) <| sM (I 0) rfl <| s_nil <| W.block ?_
  refine W.loop (fun m σ W => ∃ (j : Nat) (ρ : Env), σ = upds ρ [(1, Pz b2), (3, B ((ws.take i).any (fun x => dupL x.of) || (List.range j).any (dupAt (ws.getD i default).of))), (5, Pz ab), (17, vw), (18, I ws.length), (19, I i), (29, gd (!(!(inB ((ws.getD i default).base) 0 1000002))) (Oz ab 2)), (30, gd (!(!(inB ((ws.getD i default).base) 0 1000002))) (I ((ws.getD i default).minutes))), (31, gd (!(!(inB ((ws.getD i default).base) 0 1000002))) (B (inB ((ws.getD i default).minutes) 0 10000))), (32, gd (!(!(inB ((ws.getD i default).base) 0 1000002))) (B (!(inB ((ws.getD i default).minutes) 0 10000)))), (35, gd (!(((!(inB ((ws.getD i default).base) 0 1000002)) || (!(inB ((ws.getD i default).minutes) 0 10000))))) (.func (.func 163) #[] #[Pz b2, Pz aj])), (36, gd (!(((!(inB ((ws.getD i default).base) 0 1000002)) || (!(inB ((ws.getD i default).minutes) 0 10000))))) (Pz ab)), (37, gd (!(((!(inB ((ws.getD i default).base) 0 1000002)) || (!(inB ((ws.getD i default).minutes) 0 10000))))) ag), (38, gd (!(((!(inB ((ws.getD i default).base) 0 1000002)) || (!(inB ((ws.getD i default).minutes) 0 10000))))) (B (((ws.getD i default).of).all (fun x : Int => inB x 0 ((ws.length : Int) - 1) && (x != i))))), (39, gd (!(((!(inB ((ws.getD i default).base) 0 1000002)) || (!(inB ((ws.getD i default).minutes) 0 10000))))) (B (!(((ws.getD i default).of).all (fun x : Int => inB x 0 ((ws.length : Int) - 1) && (x != i)))))), (42, ag), (43, I (((ws.getD i default).of).length)), (44, I j)] /\ m = (ws.getD i default).of.length - j /\ Ext w W /\ KF 0 w W /\ W.heap[b2]? = some (.cells #[vw] 22 (0, 0)) /\ W.heap[aj]? = some (.cells #[I i] 3 (0, 0)) /\ W.heap[ab]? = some (.cells #[ag, I ((ws.getD i default).base), I ((ws.getD i default).minutes)] 60 (0, 0)) /\ j <= (ws.getD i default).of.length) ?_ ?_
  ·exact ⟨_, 0, _, upds_of _ _ ⟨rfl, (eqB (by first | rfl | simp)), rfl, rfl, rfl, rfl, rfl, rfl, rfl, rfl, rfl, rfl, rfl, rfl, rfl, rfl, rfl, (eqI (by omega)), trivial⟩, rfl, E, K1, aa, ae, ac, Nat.zero_le _⟩
  rintro m σ aN ⟨j, ρ, rfl, rfl, E, K1, aa, ae, ac, aC⟩
  refine sQ rfl <| sC j (((ws.getD i default).of).length) (decide ((j : Int) < (((ws.getD i default).of).length))) rfl rfl rfl <| s_nil <| W.seq ?_
  refine W.cond (decide ((j : Int) < (((ws.getD i default).of).length))) rfl (fun au => ?_) (fun au => ?_)
  ·simp only [qz1, qz2, qz3, qz4, qz5, qz6, ne_eq, qz7] at au
   refine W.skip <| W.seq <| W.block <| sQ rfl <| sM (I j) rfl <| s_val (x_ix (a := ag) (b := I j) (v := vat ag 1 (Int.toNat j)) rfl rfl (Sl.ix (α := Int) T34.und T34.size (ah.to K1) (by omega) (by omega))) <| s_val (x_ld (p := vat ag 1 (Int.toNat j)) (v := I (((ws.getD i default).of).getD j 0)) rfl (ld_sc Sc3 (At.to (Int_at ah (i := j) (by omega) (by omega)) K1))) <| sA (I j) rfl <| sA (I (((ws.getD i default).of).getD j 0)) rfl <| s_nil <| W.region rfl ?_
   refine sM (B ((ws.take i).any (fun x => dupL x.of) || (List.range j).any (dupAt (ws.getD i default).of))) rfl <| sM (B ((ws.take i).any (fun x => dupL x.of) || (List.range j).any (dupAt (ws.getD i default).of))) rfl <| g_val (!((ws.take i).any (fun x => dupL x.of) || (List.range j).any (dupAt (ws.getD i default).of))) (gy_f rfl) (fun hg => x_fa (a := Pz ab) (v := Pz ab) rfl (fa_blk (o := 0) Fd60_0 Sz34)) <| g_val (!((ws.take i).any (fun x => dupL x.of) || (List.range j).any (dupAt (ws.getD i default).of))) (gy_f rfl) (fun hg => x_ld (p := Pz ab) (v := ag) (gd_of (c := !((ws.take i).any (fun x => dupL x.of) || (List.range j).any (dupAt (ws.getD i default).of))) hg (Pz ab)) (ldb_sc Sc34 ac rfl)) <| g_val (!((ws.take i).any (fun x => dupL x.of) || (List.range j).any (dupAt (ws.getD i default).of))) (gy_f rfl) (fun hg => x_mv (v := I j) rfl) ?_
   obtain ⟨av, aD, ay⟩ := sl_hi T34.und T34.size ah (j := j) (by omega) (by omega)
   replace ay : Sl _ av (((ws.getD i default).of).take j) := ay
   refine g_val (!((ws.take i).any (fun x => dupL x.of) || (List.range j).any (dupAt (ws.getD i default).of))) (gy_f rfl) (fun hg => x_sl (v := ag) (u := av) (lo' := none) (hi' := some (I j)) (mx' := none) (gd_of (c := !((ws.take i).any (fun x => dupL x.of) || (List.range j).any (dupAt (ws.getD i default).of))) hg (ag)) rfl (congrArg some (gd_of (c := !((ws.take i).any (fun x => dupL x.of) || (List.range j).any (dupAt (ws.getD i default).of))) hg (I j))) rfl (aD _)) <| g_val (!((ws.take i).any (fun x => dupL x.of) || (List.range j).any (dupAt (ws.getD i default).of))) (gy_f rfl) (fun hg => x_mv (v := I (((ws.getD i default).of).getD j 0)) rfl) ?_
   refine g_call (!((ws.take i).any (fun x => dupL x.of) || (List.range j).any (dupAt (ws.getD i default).of))) (gy_f rfl) cf45 (B ((((ws.getD i default).of).take j).contains (((ws.getD i default).of).getD j 0))) (fun _ => [av, I (((ws.getD i default).of).getD j 0)]) (fun hg => lst2 (gd_of (c := !((ws.take i).any (fun x => dupL x.of) || (List.range j).any (dupAt (ws.getD i default).of))) hg (av)) (gd_of (c := !((ws.take i).any (fun x => dupL x.of) || (List.range j).any (dupAt (ws.getD i default).of))) hg (I (((ws.getD i default).of).getD j 0)))) (fun hg => (contains_int (((ws.getD i default).of).getD j 0) _ (ay.to K1))) ?_
   intro aO aq
   replace E := E.trans aq
   replace K1 := K1.ext aq
   replace aa := aq.get aa
   replace ae := aq.get ae
   replace ac := aq.get ac
   clear aq
   refine s_val (x_por (b := (ws.take i).any (fun x => dupL x.of) || (List.range j).any (dupAt (ws.getD i default).of)) (r := (((ws.getD i default).of).take j).contains (((ws.getD i default).of).getD j 0)) rfl rfl (fun hb => gd_of (c := !((ws.take i).any (fun x => dupL x.of) || (List.range j).any (dupAt (ws.getD i default).of))) (by simp_all) (B ((((ws.getD i default).of).take j).contains (((ws.getD i default).of).getD j 0))))) <| sA (B ((((ws.take i).any (fun x => dupL x.of) || (List.range j).any (dupAt (ws.getD i default).of)) || ((((ws.getD i default).of).take j).contains (((ws.getD i default).of).getD j 0))))) rfl <| s_nil <| W.region rfl <| sR j 1 (j + 1) rfl rfl rfl (by omega) <| sM (I (j + 1)) rfl <| s_nil ?_
   exact ⟨_, (by omega), j+1, _, upds_of _ _ ⟨rfl, (eqB right_twice1), rfl, rfl, rfl, rfl, rfl, rfl, rfl, rfl, rfl, rfl, rfl, rfl, rfl, rfl, rfl, (eqI (by omega)), trivial⟩, rfl, E, K1, aa, ae, ac, (by omega)⟩
  simp only [qz1, qz2, qz3, qz4, qz5, qz6, ne_eq, qz7] at au
  refine W.exit ?_
  refine W.region rfl <| sR i 1 (i + 1) rfl rfl rfl (by omega) <| sM (I (i + 1)) rfl <| s_nil ?_
  exact ⟨_, (by omega), i+1, _, upds_of _ _ ⟨rfl, (eqB (right_twice ai au aC)), rfl, rfl, (eqI (by omega)), trivial⟩, rfl, E, K1, aa, (by omega), (right_next aw ax)⟩
 simp only [qz1, qz2, qz3, qz4, qz5, qz6, ne_eq, qz7] at ai
 refine W.exit ?_
 refine W.seq <| sQ rfl <| sM (B ((ws.take i).any (fun x => dupL x.of))) rfl <| s_nil ?_
 refine W.cond ((ws.take i).any (fun x => dupL x.of)) rfl (fun az => ?_) (fun az => ?_)
 ·skip
  refine sQ rfl <| sA (I 10) rfl <| s_nil ?_
  refine W.ret ?_
  exact ⟨_, resE_tmp rfl, (eqI (right_dup c8 ai aA aw az)), E⟩
 skip
 refine W.skip <| sQ rfl <| sA (I 0) rfl <| s_nil ?_
 refine W.ret ?_
 exact ⟨_, resE_tmp rfl, (eqI (right_ok c8 ai aA aw az)), E⟩

theorem order1 {b : Nat} {vo : Value} {out : List Int} (n : Int) (w : World) (aa : w.heap[b]? = some (.cells #[vo] 34 (0, 0))) (ho : Sl w.cell? vo out) : Ret Try.prog 164 #[I n, Pz b] w fun v w' => v = B (out.contains n) /\ Ext w w' := by
 refine ret_of_W Try.func164 rfl rfl rfl ?_
 have E := Ext.refl w
 have K1 := KF.refl 0 w
 have ab := ho.len_le
 have ho := ho.par
 refine sQ rfl <| sA (B false) rfl <| s_nil <| sQ rfl <| s_val (x_ld (p := Pz b) (v := vo) rfl (ldb_sc Sc34 aa rfl)) <| sM (I n) rfl ?_
 refine s_call cf45 [vo, I n] rfl (contains_int n _ (ho.to K1)) ?_
 rintro _ w2 ⟨rfl, x3⟩
 replace E := E.trans x3
 replace K1 := K1.ext x3
 replace aa := x3.get aa
 clear x3
 refine sA (B (out.contains n)) rfl <| s_nil ?_
 refine W.ret ?_
 exact ⟨_, resE_tmp rfl, rfl, E⟩

theorem order_any {b : Nat} {vw : Value} {ws : List Work} (w : World) (aa : w.heap[b]? = some (.cells #[vw] 187 (0, 0))) (hw : Sl w.cell? vw ws) (aA : ws.length <= 30) : Ret Try.prog 131 #[Pz b] w fun v w' => Sl (frm w' w.heap.size) v (orderP ws) /\ Ext w w' := by
 refine ret_of_W Try.func131 rfl rfl rfl ?_
 have E := Ext.refl w
 have K1 := KF.refl 0 w
 have aB := hw.len_le
 have hw := hw.par
 refine sQ rfl <| sA (.slice none 0 0) rfl <| s_nil <| sQ rfl ?_
 refine s_alloc (cs := [.slice none 0 0]) Al34 rfl ?_
 intro b2 w3 Nb2
 have o_K1_b2 := Nat.le_trans K1.size Nb2.ge
 have o_b2 := Nat.le_trans E.size Nb2.ge
 have o_b_b2 := Nat.lt_of_lt_of_le (heap_lt aa) Nb2.ge
 replace E := E.trans Nb2.ext
 replace K1 := K1.ext Nb2.ext
 replace aa := Nb2.ext.get aa
 have ab := Nb2.same
 clear Nb2
 refine s_nil <| sQ rfl <| s_val (x_mf (fs := []) (cs := [Pz b2]) rfl rfl) <| sA (.func (.func 164) #[] #[Pz b2]) rfl <| s_nil <| W.seq <| sQ rfl <| sA (I 0) rfl <| s_nil <| W.block ?_
 have z4 := Nat.le_refl w3.heap.size
 have B_vo := E.size
 have B_vo_K1 := K1.size
 have B_vo_b := heap_lt aa
 have B_vo_b2 := heap_lt ab
 refine W.loop (fun m σ W => ∃ (i : Nat) (out : List Int) (vo : Value) (ρ : Env), σ = upds ρ [(0, Pz b), (3, Pz b2), (4, .func (.func 164) #[] #[Pz b2]), (5, I i)] /\ m = (ws.length - out.length) * (ws.length + 2) + (ws.length + 1 - i) /\ Ext w W /\ KF 0 w W /\ W.heap[b]? = some (.cells #[vw] 187 (0, 0)) /\ W.heap[b2]? = some (.cells #[vo] 34 (0, 0)) /\ w3.heap.size <= W.heap.size /\ OwnF w3.heap.size 3 W vo out /\ vo.ownBlock ≠ some b /\ vo.ownBlock ≠ some b2 /\ OrdInv ws out /\ i <= ws.length /\ (∀ j < i, readyAt ws out j = false)) ?_ ?_
 ·exact ⟨_, 0, [], .slice none 0 0, _, upds_of _ _ ⟨rfl, rfl, rfl, (eqI (by omega)), trivial⟩, rfl, E, K1, aa, ab, z4, OwnF.nil _ _ _, by simp [Value.ownBlock], by simp [Value.ownBlock], (OrdInv.nil ws), (Nat.zero_le _), (fun j hj => by omega)⟩
 rintro m σ w5 ⟨i, out, vo, ρ, rfl, rfl, E, K1, aa, ab, z4, ac, n_vo_b, n_vo_b2, ak, av, ao⟩
 have hol := ak.le
 refine W.seq <| sQ rfl <| sM (I i) rfl <| sM (Pz b) rfl <| s_val (x_nc (a := ⟨b, 0, none⟩) rfl) <| s_val (x_fa (a := Pz b) (v := Pz b) rfl (fa_blk (o := 0) Fd187_0 Sz185)) <| s_val (x_fa (a := Pz b) (v := Pz b) rfl (fa_blk (o := 0) Fd185_0 Sz22)) <| s_val (x_ld (p := Pz b) (v := vw) rfl (ldb_sc Sc22 aa rfl)) <| s_val (x_lenS T22.und rfl (hw.to K1)) <| sC i ws.length (decide ((i : Int) < ws.length)) rfl rfl rfl <| s_nil ?_
 refine W.cond (decide ((i : Int) < ws.length)) rfl (fun c6 => ?_) (fun c6 => ?_)
 ·simp only [qz1, qz2, qz3, qz4, qz5, qz6, ne_eq, qz7] at c6
  refine W.skip <| W.seq <| W.block <| sQ rfl <| sM (.func (.func 164) #[] #[Pz b2]) rfl <| sM (I i) rfl ?_
  refine s_callv rfl cf164 [I i] rfl (order1 i _ ab (ac.sl.mono (frm_le _ _))) ?_
  rintro _ w7 ⟨rfl, x8⟩
  replace E := E.trans x8
  replace z4 := Nat.le_trans z4 x8.size
  replace K1 := K1.ext x8
  replace aa := x8.get aa
  replace ab := x8.get ab
  replace ac := ac.ext x8
  clear x8
  refine s_val (x_not (b := out.contains i) rfl) <| sM (B (!(out.contains i))) rfl <| g_val (!(out.contains i)) (gy_t rfl) (fun hg => x_mv (v := .func (.func 164) #[] #[Pz b2]) rfl) <| g_val (!(out.contains i)) (gy_t rfl) (fun hg => x_mv (v := Pz b) rfl) <| g_val (!(out.contains i)) (gy_t rfl) (fun hg => x_nc (a := ⟨b, 0, none⟩) (gd_of (c := !(out.contains i)) hg (Pz b))) <| g_val (!(out.contains i)) (gy_t rfl) (fun hg => x_fa (a := Pz b) (v := Pz b) (gd_of (c := !(out.contains i)) hg (Pz b)) (fa_blk (o := 0) Fd187_0 Sz185)) <| g_val (!(out.contains i)) (gy_t rfl) (fun hg => x_fa (a := Pz b) (v := Pz b) (gd_of (c := !(out.contains i)) hg (Pz b)) (fa_blk (o := 0) Fd185_0 Sz22)) <| g_val (!(out.contains i)) (gy_t rfl) (fun hg => x_ld (p := Pz b) (v := vw) (gd_of (c := !(out.contains i)) hg (Pz b)) (ldb_sc Sc22 aa rfl)) <| g_val (!(out.contains i)) (gy_t rfl) (fun hg => x_mv (v := I i) rfl) <| g_val (!(out.contains i)) (gy_t rfl) (fun hg => x_ix (a := vw) (b := I i) (v := vat vw 3 (Int.toNat i)) (gd_of (c := !(out.contains i)) hg (vw)) (gd_of (c := !(out.contains i)) hg (I i)) (Sl.ix (α := Work) T22.und T22.size (hw.to K1) (by first | omega | (simp at hg; omega) | (simp [inB] at hg; omega)) (by first | omega | (simp at hg; omega) | (simp [inB] at hg; omega)))) <| g_val (!(out.contains i)) (gy_t rfl) (fun hg => x_fa (a := vat vw 3 (Int.toNat i)) (v := fat (vat vw 3 (Int.toNat i)) 0) (gd_of (c := !(out.contains i)) hg (vat vw 3 (Int.toNat i))) (fa_pl Fd60_0 Sz34 (Sl.pl (i := i) hw (by first | omega | (simp at hg; omega) | (simp [inB] at hg; omega)) (by first | omega | (simp at hg; omega) | (simp [inB] at hg; omega))))) ?_
  obtain ⟨u9, aw, ap⟩ := gd_ex (c := !(out.contains i)) fun hg => Work_at0 hw (i := i) (by first | omega | (simp at hg; omega) | (simp [inB] at hg; omega)) (by first | omega | (simp at hg; omega) | (simp [inB] at hg; omega))
  replace ap : (!(out.contains i)) = true -> Sl _ u9 (ws.getD i default).of := ap
  refine g_val (!(out.contains i)) (gy_t rfl) (fun hg => x_ld (p := fat (vat vw 3 (Int.toNat i)) 0) (v := u9) (gd_of (c := !(out.contains i)) hg (fat (vat vw 3 (Int.toNat i)) 0)) (ld_sc Sc34 (At.to (aw hg) K1))) ?_
  refine g_call (!(out.contains i)) (gy_t rfl) cf87 (B (((ws.getD i default).of).all (fun x : Int => out.contains x))) (fun _ => [.func (.func 164) #[] #[Pz b2], u9]) (fun hg => lst2 (gd_of (c := !(out.contains i)) hg (.func (.func 164) #[] #[Pz b2])) (gd_of (c := !(out.contains i)) hg (u9))) (fun hg => (every_int _ ((ap hg).to K1) ⟨164, [Pz b2], rfl, cf164, fun w' v x hE hD hA => by obtain rfl := Arg.int hA; exact (order1 _ _ (hE.get ab) ((ac.sl.mono (frm_le _ _)).mono hE.le))⟩)) ?_
  intro au ae
  replace E := E.trans ae
  replace z4 := Nat.le_trans z4 ae.size
  replace K1 := K1.ext ae
  replace aa := ae.get aa
  replace ab := ae.get ab
  replace ac := ac.ext ae
  clear ae
  refine s_val (x_pand (b := !(out.contains i)) (r := ((ws.getD i default).of).all (fun x : Int => out.contains x)) rfl (fun hb => gd_of (c := !(out.contains i)) (by simp_all) (B (((ws.getD i default).of).all (fun x : Int => out.contains x)))) rfl) <| s_nil ?_
  refine W.cond (((!(out.contains i)) && (((ws.getD i default).of).all (fun x : Int => out.contains x)))) rfl (fun al => ?_) (fun al => ?_)
  ·skip
   refine sQ rfl <| s_val (x_ld (p := Pz b2) (v := vo) rfl (ldb_sc Sc34 ab rfl)) <| sM (I i) rfl ?_
   refine s_bsl (α := Int) T34 au.heap.size [I i] [(i : Int)] rfl (.cons rfl (Flat.rep_enc _ _) <| .nil) (Nat.le_refl _) rfl (by decide) (by decide) ?_
   intro ax ay az ag nn_u14
   replace E := E.trans ag
   replace z4 := Nat.le_trans z4 ag.size
   replace K1 := K1.ext ag
   replace aa := ag.get aa
   replace ab := ag.get ab
   replace ac := ac.ext ag
   clear ag
   have K18 := KF.refl au.heap.size ay
   refine s_app (α := Int) (v := vo) (vy := ax) (l := out) (l2 := [(i : Int)]) T34 rfl rfl ac (az.to K18) (Cells.Le.refl _) z4 (by first | omega | (simp only [List.length_append, List.length_cons, List.length_nil, List.length_set]; omega)) (by first | omega | (simp only [List.length_append, List.length_cons, List.length_nil, List.length_set]; omega)) ?_
   intro am aC ai aj aq
   have n_v19_b := aq b (heap_lt aa) n_vo_b
   have n_v19_b2 := aq b2 (heap_lt ab) n_vo_b2
   replace E := E.grow aj (by omega)
   replace z4 := Nat.le_trans z4 aj.size
   replace K1 := K1.grow aj (by omega)
   replace aa := aj.get n_vo_b aa
   replace ab := aj.get n_vo_b2 ab
   clear aj aq
   refine s_st (b := b2) (off := 0) (vs := [am]) (cs' := [am]) (v := am) rfl rfl Sz34 ab (Sl.cells (ai.sl.mono (frm_le _ _))) rfl rfl (by simp only [List.all_cons, List.all_nil, Bool.true_and, Bool.and_true, Sl.oc (ai.sl.mono (frm_le _ _))]; try rfl) rfl ?_
   intro aD ah
   replace E := E.put (by omega) ah
   replace z4 := Nat.le_trans z4 (Nat.le_of_eq ah.size.symm)
   replace K1 := K1.put ah (by omega)
   replace aa := ah.get (by omega) aa
   replace ai := ai.put ah n_v19_b2
   replace ab := ah.same
   clear ah
   refine s_nil <| W.region rfl <| sA (I (-1)) rfl <| s_nil <| W.region rfl <| sM (I (-1)) rfl <| sR (-1) 1 ((-1) + 1) rfl rfl rfl (by omega) <| sA (I ((-1) + 1)) rfl <| s_nil ?_
   exact ⟨_, (by simp only [List.length_append, List.length_singleton]; exact order_dec (ak.lt c6 al) av), 0, (out ++ [(i : Int)]), am, _, upds_of _ _ ⟨rfl, rfl, rfl, (eqI (by omega)), trivial⟩, rfl, E, K1, aa, ab, z4, (by first | exact ai | simpa using ai), n_v19_b, n_v19_b2, (ak.step c6 al ao), (Nat.zero_le _), (fun j hj => by omega)⟩
  skip
  refine W.skip <| W.region rfl <| sM (I i) rfl <| sR i 1 (i + 1) rfl rfl rfl (by omega) <| sA (I (i + 1)) rfl <| s_nil ?_
  exact ⟨_, (by omega), (i + 1), out, vo, _, upds_of _ _ ⟨rfl, rfl, rfl, (eqI (by omega)), trivial⟩, rfl, E, K1, aa, ab, z4, ac, n_vo_b, n_vo_b2, ak, (by omega), (notReady_next ao al)⟩
 simp only [qz1, qz2, qz3, qz4, qz5, qz6, ne_eq, qz7] at c6
 refine W.exit ?_
 refine sQ rfl <| s_val (x_ld (p := Pz b2) (v := vo) rfl (ldb_sc Sc34 ab rfl)) <| sA vo rfl <| s_nil ?_
 refine W.ret ?_
 exact ⟨_, resE_tmp rfl, (ak.done c6 ao ▸ ac.sl.mono (frm_mono _ (by omega))), E⟩

theorem opened_any {vw : Value} {ws : List Work} (w : World) (hw : Sl w.cell? vw ws) : Ret Try.prog 81 #[vw] w fun v w' => (openedE ws ≠ 0 /\ v = .tuple #[.pointer none, .slice none 0 0, I (openedE ws)] /\ Ext w w') ∨ (openedE ws = 0 /\ ∃ b so, v = .tuple #[Pz b, so, I 0] /\ New w b (.cells #[vw] 187 (0, 0)) w' /\ Sl (frm w' w.heap.size) so (orderP ws)) := by
 refine ret_of_W Try.func81 rfl rfl rfl ?_
 have E := Ext.refl w
 have K1 := KF.refl 0 w
 have ae := hw.len_le
 have hw := hw.par
 refine sQ rfl <| sA (.pointer none) rfl <| sA (.slice none 0 0) rfl <| sA (I 0) rfl <| s_nil <| W.seq <| sQ rfl <| sM vw rfl ?_
 refine s_call cf130 [vw] rfl (right_any _ (hw.to K1)) ?_
 rintro _ w2 ⟨rfl, x3⟩
 replace E := E.trans x3
 replace K1 := K1.ext x3
 clear x3
 refine sA (I (rightE ws)) rfl <| s_nil <| sQ rfl <| sM (I (rightE ws)) rfl <| sC (rightE ws) 0 ((rightE ws : Int) != 0) rfl rfl rfl <| s_nil ?_
 refine W.cond ((rightE ws : Int) != 0) rfl (fun c4 => ?_) (fun c4 => ?_)
 ·simp only [qz1, qz2, qz3, qz4, qz5, qz6, ne_eq, qz7] at c4
  refine sQ rfl <| sM (I (rightE ws)) rfl <| sA (.pointer none) rfl <| sA (.slice none 0 0) rfl <| sA (I (rightE ws)) rfl <| s_nil ?_
  refine W.ret ?_
  exact ⟨_, resE_tmp3 rfl, .inl ⟨(by rw [opened_wrong c4]; exact c4), (by rw [opened_wrong c4]; rfl), E⟩⟩
 simp only [qz1, qz2, qz3, qz4, qz5, qz6, ne_eq, qz7] at c4
 refine W.skip <| sQ rfl <| sM vw rfl <| s_val (x_bld (ps := [(0, vw)]) (zs := [.slice none 0 0]) (L' := [vw]) rfl Try.underlying185 Al185 rfl (Bd185 Try.underlying185) (.cons (cs := [vw]) (Sl.cells (hw.to K1)) rfl rfl rfl rfl <| .nil)) <| s_val (x_bld (ps := [(0, .agg #[vw])]) (zs := [.slice none 0 0]) (L' := [vw]) rfl Try.underlying187 Al187 rfl (Bd187 Try.underlying187) (.cons (cs := [vw]) rfl rfl rfl rfl rfl <| .nil)) ?_
 refine s_box (v := .agg #[vw]) (cs := [vw]) rfl rfl ?_
 intro b5 w6 Nb5
 have o_K1_b5 := Nat.le_trans K1.size Nb5.ge
 have o_b5 := Nat.le_trans E.size Nb5.ge
 replace E := E.trans Nb5.ext
 replace K1 := K1.ext Nb5.ext
 have ab := Nb5.same
 clear Nb5
 refine sA (Pz b5) rfl <| s_nil <| sQ rfl <| sM (Pz b5) rfl ?_
 refine s_call cf131 [Pz b5] rfl (order_any _ ab (hw.to K1) (right_len (by assumption)).2) ?_
 have sz_w7 := E.size
 have lt_b5_w7 := heap_lt ab
 rintro u9 w7 ⟨ac, x8⟩
 replace E := E.trans x8
 replace K1 := K1.ext x8
 replace ab := x8.get ab
 clear x8
 have ag := ac.len_le
 have K11 := KF.refl w6.heap.size w7
 refine sA u9 rfl <| s_nil <| W.seq <| sQ rfl <| sM u9 rfl <| s_val (x_lenS T34.und rfl (ac.to K11)) <| sM vw rfl <| s_val (x_lenS T22.und rfl (hw.to K1)) <| sC ((orderP ws).length) ws.length (decide ((((orderP ws).length) : Int) < ws.length)) rfl rfl rfl <| s_nil ?_
 refine W.cond (decide ((((orderP ws).length) : Int) < ws.length)) rfl (fun aa => ?_) (fun aa => ?_)
 ·simp only [qz1, qz2, qz3, qz4, qz5, qz6, ne_eq, qz7] at aa
  refine sQ rfl <| sA (.pointer none) rfl <| sA (.slice none 0 0) rfl <| sA (I 9) rfl <| s_nil ?_
  refine W.ret ?_
  exact ⟨_, resE_tmp3 rfl, .inl ⟨(by rw [opened_circle c4 aa]; decide), (by rw [opened_circle c4 aa]; rfl), E⟩⟩
 simp only [qz1, qz2, qz3, qz4, qz5, qz6, ne_eq, qz7] at aa
 refine W.skip <| sQ rfl <| sM (Pz b5) rfl <| sM u9 rfl <| sA (Pz b5) rfl <| sA u9 rfl <| sA (I 0) rfl <| s_nil ?_
 refine W.ret ?_
 exact ⟨_, resE_tmp3 rfl, .inr ⟨opened_ok c4 aa, b5, _, rfl, ⟨E, o_b5, ab⟩, (ac.kf K11).mono (frm_mono _ (by omega))⟩⟩

end Go.Proofs.Ytndobgodeicloaa
end
section
set_option maxRecDepth 100000
set_option maxHeartbeats 16000000
namespace Go.Proofs.Ytndobgodeicloaa
open Go Go.Nm
theorem listed1 {b : Nat} {vw : Value} {ws : List Work} (x : Int) (w : World) (aa : w.heap[b]? = some (.cells #[vw] 22 (0, 0))) (hw : Sl w.cell? vw ws) : Ret Try.prog 147 #[I x, Pz b] w fun v w' => v = B (inB x 0 ((ws.length : Int) - 1)) /\ Ext w w' := by
 refine ret_of_W Try.func147 rfl rfl rfl ?_
 have E := Ext.refl w
 have K1 := KF.refl 0 w
 have ab := hw.len_le
 have hw := hw.par
 refine sQ rfl <| sA (B false) rfl <| s_nil <| sQ rfl <| sM (I x) rfl <| s_val (x_ld (p := Pz b) (v := vw) rfl (ldb_sc Sc22 aa rfl)) <| s_val (x_lenS T22.und rfl (hw.to K1)) <| sR ws.length 1 (ws.length - 1) rfl rfl rfl (by omega) ?_
 refine s_call cf84 [I x, I 0, I (ws.length - 1)] rfl (in_any _ _ _ _) ?_
 rintro _ w2 ⟨rfl, x3⟩
 replace E := E.trans x3
 replace K1 := K1.ext x3
 replace aa := x3.get aa
 clear x3
 refine sA (B (inB x 0 (ws.length - 1))) rfl <| s_nil ?_
 refine W.ret ?_
 exact ⟨_, resE_tmp rfl, rfl, E⟩

theorem listed_any {vw vl : Value} {ws : List Work} {l : List Int} (w : World) (hw : Sl w.cell? vw ws) (hl : Sl w.cell? vl l) : Ret Try.prog 96 #[vw, vl] w fun v w' => v = I (listedE ws.length l) /\ Ext w w' := by
 refine ret_of_W Try.func96 rfl rfl rfl ?_
 have E := Ext.refl w
 have K1 := KF.refl 0 w
 have ah := hw.len_le
 have hw := hw.par
 have ai := hl.len_le
 have hl := hl.par
 refine sQ rfl ?_
 refine s_box (v := vw) (cs := [vw]) rfl (Sl.cells (hw.to K1)) ?_
 intro b2 w3 Nb2
 have o_K1_b2 := Nat.le_trans K1.size Nb2.ge
 have o_b2 := Nat.le_trans E.size Nb2.ge
 replace E := E.trans Nb2.ext
 replace K1 := K1.ext Nb2.ext
 have aa := Nb2.same
 clear Nb2
 refine sA (I 0) rfl <| s_nil <| W.seq <| sQ rfl <| s_val (x_mf (fs := []) (cs := [Pz b2]) rfl rfl) <| sM vl rfl ?_
 refine s_call cf87 [.func (.func 147) #[] #[Pz b2], vl] rfl (every_int _ (hl.to K1) ⟨147, [Pz b2], rfl, cf147, fun w' v x hE hD hA => by obtain rfl := Arg.int hA; exact (listed1 _ _ (hE.get aa) ((hw.to K1).mono hE.le))⟩) ?_
 rintro _ w4 ⟨rfl, x5⟩
 replace E := E.trans x5
 replace K1 := K1.ext x5
 replace aa := x5.get aa
 clear x5
 refine s_val (x_not (b := l.all (fun x : Int => inB x 0 ((ws.length : Int) - 1))) rfl) <| s_nil ?_
 refine W.cond (!(l.all (fun x : Int => inB x 0 ((ws.length : Int) - 1)))) rfl (fun c6 => ?_) (fun c6 => ?_)
 ·skip
  refine sQ rfl <| sA (I 2) rfl <| s_nil ?_
  refine W.ret ?_
  exact ⟨_, resE_tmp rfl, (eqI (listed_arg c6)), E⟩
 skip
 refine W.skip <| W.seq <| sQ rfl <| sA (I 1) rfl <| s_nil <| W.block ?_
 refine W.loop (fun m σ W => ∃ (i : Nat) (ρ : Env), σ = upds ρ [(1, vl), (5, I i)] /\ m = l.length + 1 - i /\ Ext w W /\ KF 0 w W /\ W.heap[b2]? = some (.cells #[vw] 22 (0, 0)) /\ 1 <= i /\ i <= l.length + 1 /\ AscTo l i) ?_ ?_
 ·exact ⟨_, 1, _, upds_of _ _ ⟨rfl, (eqI (by omega)), trivial⟩, rfl, E, K1, aa, (Nat.le_refl _), (by omega), (fun j h1 h2 => by omega)⟩
 rintro m σ w7 ⟨i, ρ, rfl, rfl, E, K1, aa, ag, aj, ae⟩
 refine W.seq <| sQ rfl <| sM (I i) rfl <| sM vl rfl <| s_val (x_lenS T34.und rfl (hl.to K1)) <| sC i l.length (decide ((i : Int) < l.length)) rfl rfl rfl <| s_nil ?_
 refine W.cond (decide ((i : Int) < l.length)) rfl (fun c8 => ?_) (fun c8 => ?_)
 ·simp only [qz1, qz2, qz3, qz4, qz5, qz6, ne_eq, qz7] at c8
  refine W.skip <| W.seq <| W.block <| W.seq ?_
  refine W.draw (fun W => Ext w W /\ KF 0 w W /\ W.heap[b2]? = some (.cells #[vw] 22 (0, 0))) [(0, true), (1, true), (2, true), (3, true), (4, true), (5, true), (6, true), (7, true), (8, true), (9, true)] mixed (by decide +kernel) rfl ?_
  intro w9 ac
  replace E := E.trans ac
  replace K1 := K1.ext ac
  replace aa := ac.get aa
  clear ac
  refine ⟨⟨E, K1, aa⟩, ?_⟩
  refine d_q rfl (fun w' hC => by obtain ⟨E, K1, aa⟩ := hC; exact x_mv (v := vl) rfl) ?_
  refine d_q rfl (fun w' hC => by obtain ⟨E, K1, aa⟩ := hC; exact x_mv (v := I i) rfl) ?_
  refine d_q rfl (fun w' hC => by obtain ⟨E, K1, aa⟩ := hC; exact x_ix (a := vl) (b := I i) (v := vat vl 1 (Int.toNat i)) rfl rfl (Sl.ix (α := Int) T34.und T34.size (hl.to K1) (by omega) (by omega))) ?_
  refine d_q rfl (fun w' hC => by obtain ⟨E, K1, aa⟩ := hC; exact x_ld (p := vat vl 1 (Int.toNat i)) (v := I (l.getD i 0)) rfl (ld_sc Sc3 (At.to (Int_at hl (i := i) (by omega) (by omega)) K1))) ?_
  refine d_q rfl (fun w' hC => by obtain ⟨E, K1, aa⟩ := hC; exact x_mv (v := vl) rfl) ?_
  refine d_q rfl (fun w' hC => by obtain ⟨E, K1, aa⟩ := hC; exact x_mv (v := I i) rfl) ?_
  refine d_q rfl (fun w' hC => by obtain ⟨E, K1, aa⟩ := hC; exact x_ari (a := i) (b := 1) (r := i - 1) rfl rfl rfl (by omega)) ?_
  refine d_q rfl (fun w' hC => by obtain ⟨E, K1, aa⟩ := hC; exact x_ix (a := vl) (b := I (i - 1)) (v := vat vl 1 (Int.toNat (i - 1))) rfl rfl (Sl.ix (α := Int) T34.und T34.size (hl.to K1) (by omega) (by omega))) ?_
  refine d_q rfl (fun w' hC => by obtain ⟨E, K1, aa⟩ := hC; exact x_ld (p := vat vl 1 (Int.toNat (i - 1))) (v := I (l.getD (Int.toNat (i - 1)) 0)) rfl (ld_sc Sc3 (At.to (Int_at hl (i := i - 1) (by omega) (by omega)) K1))) ?_
  refine d_q rfl (fun w' hC => by obtain ⟨E, K1, aa⟩ := hC; exact x_cmp (kd := .i64) (a := l.getD i 0) (b := l.getD (Int.toNat (i - 1)) 0) (r := decide ((l.getD i 0 : Int) <= (l.getD (Int.toNat (i - 1)) 0))) rfl rfl rfl) ?_
  refine d_nil ?_
  refine W.cond (decide ((l.getD i 0 : Int) <= (l.getD (Int.toNat (i - 1)) 0))) rfl (fun ab => ?_) (fun ab => ?_)
  ·simp only [qz1, qz2, qz3, qz4, qz5, qz6, ne_eq, qz7] at ab
   refine sQ rfl <| sA (I 9) rfl <| s_nil ?_
   refine W.ret ?_
   exact ⟨_, resE_tmp rfl, (eqI (listed_bad c6 c8 ag ab)), E⟩
  simp only [qz1, qz2, qz3, qz4, qz5, qz6, ne_eq, qz7] at ab
  refine W.skip <| W.region rfl <| sM (I i) rfl <| sR i 1 (i + 1) rfl rfl rfl (by omega) <| sA (I (i + 1)) rfl <| s_nil ?_
  exact ⟨_, (by omega), i+1, _, upds_of _ _ ⟨rfl, (eqI (by omega)), trivial⟩, rfl, E, K1, aa, (by omega), (by omega), (asc_next ae ab)⟩
 simp only [qz1, qz2, qz3, qz4, qz5, qz6, ne_eq, qz7] at c8
 refine W.exit ?_
 refine sQ rfl <| sA (I 0) rfl <| s_nil ?_
 refine W.ret ?_
 exact ⟨_, resE_tmp rfl, (eqI (listed_ok c6 c8 ae)), E⟩

theorem asked1 {b : Nat} {st : List Bool} (x : Int) (w : World) (aa : w.heap[b]? = some (.cells (encB st).toArray 141 (0, 0))) (ab : st.length = 30) (h0 : 0 <= x) (h1 : x < 30) : Ret Try.prog 146 #[I x, Pz b] w fun v w' => v = B (st.getD x.toNat false) /\ Ext w w' := by
 refine ret_of_W Try.func146 rfl rfl rfl ?_
 have E := Ext.refl w
 have K1 := KF.refl 0 w
 refine sQ rfl <| sA (B false) rfl <| s_nil <| sQ rfl <| sM (I x) rfl <| s_val (x_ix (a := Pz b) (b := I x) (v := .pointer (some ⟨b, 0 + Int.toNat x, none⟩)) rfl rfl (run_indexArr Try.underlying141 Sz4 (by omega) (by omega))) <| s_val (x_ld (p := .pointer (some ⟨b, 0 + Int.toNat x, none⟩)) (v := B (st.getD (Int.toNat x) false)) rfl (ldArr Sc4 aa (by omega) (by omega))) <| sA (B (st.getD (Int.toNat x) false)) rfl <| s_nil ?_
 refine W.ret ?_
 exact ⟨_, resE_tmp rfl, rfl, E⟩

theorem asked_any {vw vr : Value} {ws : List Work} {rev : List Int} (w : World) (hw : Sl w.cell? vw ws) (hr : Sl w.cell? vr rev) : Ret Try.prog 92 #[vw, vr] w fun v w' => (askedE ws rev ≠ 0 /\ v = .tuple #[.pointer none, .slice none 0 0, .agg (encB (List.replicate 30 false)).toArray, I (askedE ws rev)] /\ Ext w w') ∨ (askedE ws rev = 0 /\ ∃ b so, v = .tuple #[Pz b, so, .agg (encB (staleL ws rev)).toArray, I 0] /\ New w b (.cells #[vw] 187 (0, 0)) w' /\ Sl (frm w' w.heap.size) so (orderP ws)) := by
 refine ret_of_W Try.func92 rfl rfl rfl ?_
 have E := Ext.refl w
 have K1 := KF.refl 0 w
 have aL := hw.len_le
 have hw := hw.par
 have aM := hr.len_le
 have hr := hr.par
 refine sQ rfl <| sA (.pointer none) rfl <| sA (.slice none 0 0) rfl ?_
 refine s_alloc (cs := encB (List.replicate 30 false)) Al141 rfl ?_
 intro b2 w3 Nb2
 have o_K1_b2 := Nat.le_trans K1.size Nb2.ge
 have o_b2 := Nat.le_trans E.size Nb2.ge
 replace E := E.trans Nb2.ext
 replace K1 := K1.ext Nb2.ext
 have ab := Nb2.same
 clear Nb2
 have aG : (List.replicate 30 false).length = 30 := by simp
 refine sA (I 0) rfl <| s_nil <| sQ rfl ?_
 refine s_alloc (cs := encB (List.replicate 30 false)) Al141 rfl ?_
 intro b4 w5 Nb4
 have o_K1_b4 := Nat.le_trans K1.size Nb4.ge
 have o_b4 := Nat.le_trans E.size Nb4.ge
 have o_b2_b4 := Nat.lt_of_lt_of_le (heap_lt ab) Nb4.ge
 replace E := E.trans Nb4.ext
 replace K1 := K1.ext Nb4.ext
 replace ab := Nb4.ext.get ab
 have aa := Nb4.same
 clear Nb4
 have ai : (List.replicate 30 false).length = 30 := by simp
 refine s_nil <| sQ rfl <| sM vw rfl ?_
 refine s_call cf81 [vw] rfl (opened_any _ (hw.to K1)) ?_
 rintro _ w6 (⟨h8, rfl, x9⟩ | ⟨aB, ag, ae, rfl, ah, aw⟩)
 ·replace E := E.trans x9
  replace K1 := K1.ext x9
  replace ab := x9.get ab
  replace aa := x9.get aa
  refine sM (.tuple #[.pointer none, .slice none 0 0, I (openedE ws)]) rfl <| sX [.pointer none, .slice none 0 0, I (openedE ws)] (.pointer none) rfl rfl <| sX [.pointer none, .slice none 0 0, I (openedE ws)] (.slice none 0 0) rfl rfl <| sX [.pointer none, .slice none 0 0, I (openedE ws)] (I (openedE ws)) rfl rfl <| sA (.pointer none) rfl <| sA (.slice none 0 0) rfl <| sA (I (openedE ws)) rfl <| s_nil <| W.seq <| sQ rfl <| sM (I (openedE ws)) rfl ?_
  refine sC (openedE ws) 0 ((openedE ws : Int) == 0) rfl rfl rfl <| s_nil ?_
  refine W.cond ((openedE ws : Int) == 0) rfl (fun aC => ?_) (fun aC => ?_)
  ·simp only [qz1, qz2, qz3, qz4, qz5, qz6, ne_eq, qz7] at aC
   exact absurd aC h8
  simp only [qz1, qz2, qz3, qz4, qz5, qz6, ne_eq, qz7] at aC
  refine W.skip <| W.seq <| sQ rfl <| sM (I (openedE ws)) rfl <| sC (openedE ws) 0 ((openedE ws : Int) != 0) rfl rfl rfl <| s_nil ?_
  refine W.cond ((openedE ws : Int) != 0) rfl (fun aD => ?_) (fun aD => ?_)
  ·simp only [qz1, qz2, qz3, qz4, qz5, qz6, ne_eq, qz7] at aD
   refine W.seq ?_
   refine W.draw (fun W => Ext w W /\ KF 0 w W /\ W.heap[b4]? = some (.cells (encB (List.replicate 30 false)).toArray 141 (0, 0))) [(0, true), (1, true), (2, true), (3, true), (4, false), (5, true)] mixed (by decide +kernel) rfl ?_
   intro aN ax
   replace E := E.trans ax
   replace K1 := K1.ext ax
   replace ab := ax.get ab
   replace aa := ax.get aa
   clear ax
   refine ⟨⟨E, K1, aa⟩, ?_⟩
   refine d_q rfl (fun w' hC => by obtain ⟨E, K1, aa⟩ := hC; exact x_ld (p := Pz b4) (v := .agg (encB (List.replicate 30 false)).toArray) rfl (ldArrA Ag141 Sz141 ai aa)) ?_
   refine d_q rfl (fun w' hC => by obtain ⟨E, K1, aa⟩ := hC; exact x_mv (v := I (openedE ws)) rfl) ?_
   refine d_q rfl (fun w' hC => by obtain ⟨E, K1, aa⟩ := hC; exact x_as (v := .pointer none) rfl) ?_
   refine d_q rfl (fun w' hC => by obtain ⟨E, K1, aa⟩ := hC; exact x_as (v := .slice none 0 0) rfl) ?_
   refine d_l rfl ?_
   refine s_stArrA (b := b2) (l := List.replicate 30 false) (l' := List.replicate 30 false) rfl rfl Sz141 ab aG ai ?_
   intro aO ay
   replace E := E.put (by omega) ay
   replace K1 := K1.put ay (by omega)
   replace aa := ay.get (by omega) aa
   replace ab := ay.same
   clear ay
   refine s_nil ⟨⟨E, K1, aa⟩, ?_⟩
   refine d_q rfl (fun w' hC => by obtain ⟨E, K1, aa⟩ := hC; exact x_as (v := I (openedE ws)) rfl) ?_
   refine d_nil ?_
   refine W.ret ?_
   exact ⟨_, (resE_ofn (vs := [.pointer none, .slice none 0 0, .agg (encB (List.replicate 30 false)).toArray, I (openedE ws)]) rfl rfl (.tmp (v := .pointer none) rfl <| .tmp (v := .slice none 0 0) rfl <| .cell (v := .agg (encB (List.replicate 30 false)).toArray) rfl (run_loadVar_arr Ag141 Sz141 ai ab) <| .tmp (v := I (openedE ws)) rfl <| .nil)), .inl ⟨(by rw [asked_wrong h8]; exact h8), (by rw [asked_wrong h8]), E⟩⟩
  simp only [qz1, qz2, qz3, qz4, qz5, qz6, ne_eq, qz7] at aD
  exact absurd aD h8
 have sz_w6 := E.size
 have lt_b2_w6 := heap_lt ab
 have lt_b4_w6 := heap_lt aa
 have o_K1_b11 := Nat.le_trans K1.size ah.ge
 have o_b11 := Nat.le_trans E.size ah.ge
 have o_b2_b11 := Nat.lt_of_lt_of_le (heap_lt ab) ah.ge
 have o_b4_b11 := Nat.lt_of_lt_of_le (heap_lt aa) ah.ge
 replace E := E.trans ah.ext
 replace K1 := K1.ext ah.ext
 replace ab := ah.ext.get ab
 replace aa := ah.ext.get aa
 have ac := ah.same
 clear ah
 have aP := aw.len_le
 have K21 := KF.refl w5.heap.size w6
 refine sM (.tuple #[Pz ag, ae, I 0]) rfl <| sX [Pz ag, ae, I 0] (Pz ag) rfl rfl <| sX [Pz ag, ae, I 0] ae rfl rfl <| sX [Pz ag, ae, I 0] (I 0) rfl rfl <| sA (Pz ag) rfl <| sA ae rfl <| sA (I 0) rfl <| s_nil <| W.seq <| sQ rfl <| sM (I 0) rfl ?_
 refine sC 0 0 ((0 : Int) == 0) rfl rfl rfl <| s_nil ?_
 refine W.cond ((0 : Int) == 0) rfl (fun aE => ?_) (fun aE => ?_)
 ·simp only [qz1, qz2, qz3, qz4, qz5, qz6, ne_eq, qz7] at aE
  refine W.region rfl <| sM vw rfl <| sM vr rfl ?_
  refine s_call cf96 [vw, vr] rfl (listed_any _ (hw.to K1) (hr.to K1)) ?_
  rintro _ aQ ⟨rfl, aj⟩
  replace E := E.trans aj
  replace K1 := K1.ext aj
  replace K21 := K21.ext aj
  replace ab := aj.get ab
  replace aa := aj.get aa
  replace ac := aj.get ac
  clear aj
  refine sA (I (listedE ws.length rev)) rfl <| s_nil <| W.seq <| sQ rfl <| sM (I (listedE ws.length rev)) rfl <| sC (listedE ws.length rev) 0 ((listedE ws.length rev : Int) != 0) rfl rfl rfl <| s_nil ?_
  refine W.cond ((listedE ws.length rev : Int) != 0) rfl (fun az => ?_) (fun az => ?_)
  ·simp only [qz1, qz2, qz3, qz4, qz5, qz6, ne_eq, qz7] at az
   refine W.seq ?_
   refine W.draw (fun W => Ext w W /\ KF 0 w W /\ KF w5.heap.size w6 W /\ W.heap[b4]? = some (.cells (encB (List.replicate 30 false)).toArray 141 (0, 0)) /\ W.heap[ag]? = some (.cells #[vw] 187 (0, 0))) [(0, true), (1, true), (2, true), (3, true), (4, false), (5, true)] mixed (by decide +kernel) rfl ?_
   intro aR ak
   replace E := E.trans ak
   replace K1 := K1.ext ak
   replace K21 := K21.ext ak
   replace ab := ak.get ab
   replace aa := ak.get aa
   replace ac := ak.get ac
   clear ak
   refine ⟨⟨E, K1, K21, aa, ac⟩, ?_⟩
   refine d_q rfl (fun w' hC => by obtain ⟨E, K1, K21, aa, ac⟩ := hC; exact x_ld (p := Pz b4) (v := .agg (encB (List.replicate 30 false)).toArray) rfl (ldArrA Ag141 Sz141 ai aa)) ?_
   refine d_q rfl (fun w' hC => by obtain ⟨E, K1, K21, aa, ac⟩ := hC; exact x_mv (v := I (listedE ws.length rev)) rfl) ?_
   refine d_q rfl (fun w' hC => by obtain ⟨E, K1, K21, aa, ac⟩ := hC; exact x_as (v := .pointer none) rfl) ?_
   refine d_q rfl (fun w' hC => by obtain ⟨E, K1, K21, aa, ac⟩ := hC; exact x_as (v := .slice none 0 0) rfl) ?_
   refine d_l rfl ?_
   refine s_stArrA (b := b2) (l := List.replicate 30 false) (l' := List.replicate 30 false) rfl rfl Sz141 ab aG ai ?_
   intro aS al
   replace E := E.put (by omega) al
   replace K1 := K1.put al (by omega)
   replace K21 := K21.put al (by omega)
   replace aa := al.get (by omega) aa
   replace ac := al.get (by omega) ac
   replace ab := al.same
   clear al
   refine s_nil ⟨⟨E, K1, K21, aa, ac⟩, ?_⟩
   refine d_q rfl (fun w' hC => by obtain ⟨E, K1, K21, aa, ac⟩ := hC; exact x_as (v := I (listedE ws.length rev)) rfl) ?_
   refine d_nil ?_
   refine W.ret ?_
   exact ⟨_, (resE_ofn (vs := [.pointer none, .slice none 0 0, .agg (encB (List.replicate 30 false)).toArray, I (listedE ws.length rev)]) rfl rfl (.tmp (v := .pointer none) rfl <| .tmp (v := .slice none 0 0) rfl <| .cell (v := .agg (encB (List.replicate 30 false)).toArray) rfl (run_loadVar_arr Ag141 Sz141 ai ab) <| .tmp (v := I (listedE ws.length rev)) rfl <| .nil)), .inl ⟨(by rw [asked_list aB]; exact az), (by rw [asked_list aB]), E⟩⟩
  simp only [qz1, qz2, qz3, qz4, qz5, qz6, ne_eq, qz7] at az
  refine W.skip <| W.seq <| sQ rfl <| sM ae rfl <| s_val (x_lenS T34.und rfl (aw.to K21)) <| sM (I 0) rfl <| s_nil <| W.block ?_
  have aH := opened_right aB
  have aT := (right_len aH).2
  refine W.loop (fun m σ W => ∃ (k : Nat) (ρ : Env), σ = upds ρ [(0, vw), (1, vr), (6, Pz b2), (8, Pz b4), (9, Pz ag), (10, ae), (29, ae), (30, I ((orderP ws).length)), (31, I k)] /\ m = (orderP ws).length - k /\ Ext w W /\ KF 0 w W /\ KF w5.heap.size w6 W /\ W.heap[b2]? = some (.cells (encB (List.replicate 30 false)).toArray 141 (0, 0)) /\ W.heap[b4]? = some (.cells (encB (staleF ws rev ((orderP ws).take k) (List.replicate 30 false))).toArray 141 (0, 0)) /\ (staleF ws rev ((orderP ws).take k) (List.replicate 30 false)).length = 30 /\ W.heap[ag]? = some (.cells #[vw] 187 (0, 0)) /\ k <= (orderP ws).length) ?_ ?_
  ·exact ⟨_, 0, _, upds_of _ _ ⟨rfl, rfl, rfl, rfl, rfl, rfl, rfl, rfl, (eqI (by omega)), trivial⟩, rfl, E, K1, K21, ab, (by first | exact aa | simpa using aa), (by first | exact ai | simpa using ai), ac, (Nat.zero_le _)⟩
  rintro m σ aU ⟨k, ρ, rfl, rfl, E, K1, K21, ab, aa, aA, ac, aJ⟩
  refine sQ rfl <| sC k ((orderP ws).length) (decide ((k : Int) < ((orderP ws).length))) rfl rfl rfl <| s_nil <| W.seq ?_
  refine W.cond (decide ((k : Int) < ((orderP ws).length))) rfl (fun av => ?_) (fun av => ?_)
  ·simp only [qz1, qz2, qz3, qz4, qz5, qz6, ne_eq, qz7] at av
   have hik := order_at ws av
   refine W.skip <| W.seq <| W.block <| sQ rfl <| s_val (x_ix (a := ae) (b := I k) (v := vat ae 1 (Int.toNat k)) rfl rfl (Sl.ix (α := Int) T34.und T34.size (aw.to K21) (by omega) (by omega))) <| s_val (x_ld (p := vat ae 1 (Int.toNat k)) (v := I ((orderP ws).getD k 0)) rfl (ld_sc Sc3 (At.to (Int_at aw (i := k) (by omega) (by omega)) K21))) <| sA (I ((orderP ws).getD k 0)) rfl <| s_nil <| W.region rfl <| sM (I ((orderP ws).getD k 0)) rfl <| sM vr rfl ?_
   refine sM (I ((orderP ws).getD k 0)) rfl ?_
   refine s_call cf45 [vr, I ((orderP ws).getD k 0)] rfl (contains_int ((orderP ws).getD k 0) _ (hr.to K1)) ?_
   rintro _ aV ⟨rfl, am⟩
   replace E := E.trans am
   replace K1 := K1.ext am
   replace K21 := K21.ext am
   replace ab := am.get ab
   replace aa := am.get aa
   replace ac := am.get ac
   clear am
   refine sM (B (rev.contains ((orderP ws).getD k 0))) rfl <| g_val (!(rev.contains ((orderP ws).getD k 0))) (gy_f rfl) (fun hg => x_mv (v := vw) rfl) <| g_val (!(rev.contains ((orderP ws).getD k 0))) (gy_f rfl) (fun hg => x_mv (v := I ((orderP ws).getD k 0)) rfl) <| g_val (!(rev.contains ((orderP ws).getD k 0))) (gy_f rfl) (fun hg => x_ix (a := vw) (b := I ((orderP ws).getD k 0)) (v := vat vw 3 (Int.toNat ((orderP ws).getD k 0))) (gd_of (c := !(rev.contains ((orderP ws).getD k 0))) hg (vw)) (gd_of (c := !(rev.contains ((orderP ws).getD k 0))) hg (I ((orderP ws).getD k 0))) (Sl.ix (α := Work) T22.und T22.size (hw.to K1) (by first | omega | (simp at hg; omega) | (simp [inB] at hg; omega)) (by first | omega | (simp at hg; omega) | (simp [inB] at hg; omega)))) <| g_val (!(rev.contains ((orderP ws).getD k 0))) (gy_f rfl) (fun hg => x_fa (a := vat vw 3 (Int.toNat ((orderP ws).getD k 0))) (v := fat (vat vw 3 (Int.toNat ((orderP ws).getD k 0))) 0) (gd_of (c := !(rev.contains ((orderP ws).getD k 0))) hg (vat vw 3 (Int.toNat ((orderP ws).getD k 0)))) (fa_pl Fd60_0 Sz34 (Sl.pl (i := (orderP ws).getD k 0) hw (by first | omega | (simp at hg; omega) | (simp [inB] at hg; omega)) (by first | omega | (simp at hg; omega) | (simp [inB] at hg; omega))))) ?_
   obtain ⟨aF, aK, aI⟩ := gd_ex (c := !(rev.contains ((orderP ws).getD k 0))) fun hg => Work_at0 hw (i := (orderP ws).getD k 0) (by first | omega | (simp at hg; omega) | (simp [inB] at hg; omega)) (by first | omega | (simp at hg; omega) | (simp [inB] at hg; omega))
   replace aI : (!(rev.contains ((orderP ws).getD k 0))) = true -> Sl _ aF (ws.getD (Int.toNat ((orderP ws).getD k 0)) default).of := aI
   refine g_val (!(rev.contains ((orderP ws).getD k 0))) (gy_f rfl) (fun hg => x_ld (p := fat (vat vw 3 (Int.toNat ((orderP ws).getD k 0))) 0) (v := aF) (gd_of (c := !(rev.contains ((orderP ws).getD k 0))) hg (fat (vat vw 3 (Int.toNat ((orderP ws).getD k 0))) 0)) (ld_sc Sc34 (At.to (aK hg) K1))) <| g_val (!(rev.contains ((orderP ws).getD k 0))) (gy_f rfl) (fun hg => x_mf (fs := []) (cs := [Pz b4]) rfl rfl) ?_
   refine g_call (!(rev.contains ((orderP ws).getD k 0))) (gy_f rfl) cf48 (B (((ws.getD (Int.toNat ((orderP ws).getD k 0)) default).of).any (fun x : Int => (staleF ws rev ((orderP ws).take k) (List.replicate 30 false)).getD x.toNat false))) (fun _ => [aF, .func (.func 146) #[] #[Pz b4]]) (fun hg => lst2 (gd_of (c := !(rev.contains ((orderP ws).getD k 0))) hg (aF)) (gd_of (c := !(rev.contains ((orderP ws).getD k 0))) hg (.func (.func 146) #[] #[Pz b4]))) (fun hg => (containsFunc_int _ ((aI hg).to K1) ⟨146, [Pz b4], rfl, cf146, fun w' v x hE hD hA => by obtain rfl := Arg.int hA; exact (asked1 _ _ (hE.get aa) aA (right_of aH (by omega) _ hD).1 (by have := (right_of aH (by omega) _ hD).2.1; omega))⟩)) ?_
   intro aW ao
   replace E := E.trans ao
   replace K1 := K1.ext ao
   replace K21 := K21.ext ao
   replace ab := ao.get ab
   replace aa := ao.get aa
   replace ac := ao.get ac
   clear ao
   refine s_val (x_por (b := rev.contains ((orderP ws).getD k 0)) (r := ((ws.getD (Int.toNat ((orderP ws).getD k 0)) default).of).any (fun x : Int => (staleF ws rev ((orderP ws).take k) (List.replicate 30 false)).getD x.toNat false)) rfl rfl (fun hb => gd_of (c := !(rev.contains ((orderP ws).getD k 0))) (by simp_all) (B (((ws.getD (Int.toNat ((orderP ws).getD k 0)) default).of).any (fun x : Int => (staleF ws rev ((orderP ws).take k) (List.replicate 30 false)).getD x.toNat false))))) <| s_val (x_ix (a := Pz b4) (b := I ((orderP ws).getD k 0)) (v := .pointer (some ⟨b4, 0 + Int.toNat ((orderP ws).getD k 0), none⟩)) rfl rfl (run_indexArr Try.underlying141 Sz4 (by omega) (by omega))) ?_
   refine s_stArr (b := b4) (l := staleF ws rev ((orderP ws).take k) (List.replicate 30 false)) (i := (orderP ws).getD k 0) (v := ((rev.contains ((orderP ws).getD k 0)) || (((ws.getD (Int.toNat ((orderP ws).getD k 0)) default).of).any (fun x : Int => (staleF ws rev ((orderP ws).take k) (List.replicate 30 false)).getD x.toNat false)))) rfl rfl Sz4 aa (by omega) (by omega) ?_
   intro aX ap
   replace E := E.put (by omega) ap
   replace K1 := K1.put ap (by omega)
   replace K21 := K21.put ap (by omega)
   replace ab := ap.get (by omega) ab
   replace ac := ap.get (by omega) ac
   replace aa := ap.same
   clear ap
   have aY : ((staleF ws rev ((orderP ws).take k) (List.replicate 30 false)).set (Int.toNat ((orderP ws).getD k 0)) (((rev.contains ((orderP ws).getD k 0)) || (((ws.getD (Int.toNat ((orderP ws).getD k 0)) default).of).any (fun x : Int => (staleF ws rev ((orderP ws).take k) (List.replicate 30 false)).getD x.toNat false))))).length = 30 := List.length_set.trans aA
   refine s_nil <| W.region rfl <| sR k 1 (k + 1) rfl rfl rfl (by omega) <| sM (I (k + 1)) rfl <| s_nil ?_
   exact ⟨_, (by omega), k+1, _, upds_of _ _ ⟨rfl, rfl, rfl, rfl, rfl, rfl, rfl, rfl, (eqI (by omega)), trivial⟩, rfl, E, K1, K21, ab, (by rw [staleF_next ws rev (orderP ws) av]; exact aa), (by rw [staleF_len]; simp), ac, (by omega)⟩
  simp only [qz1, qz2, qz3, qz4, qz5, qz6, ne_eq, qz7] at av
  refine W.exit ?_
  refine W.seq ?_
  refine W.draw (fun W => Ext w W /\ KF 0 w W /\ KF w5.heap.size w6 W /\ W.heap[b4]? = some (.cells (encB (staleF ws rev ((orderP ws).take k) (List.replicate 30 false))).toArray 141 (0, 0)) /\ W.heap[ag]? = some (.cells #[vw] 187 (0, 0))) [(0, true), (1, true), (2, true), (3, true), (4, true), (5, false), (6, true)] mixed (by decide +kernel) rfl ?_
  intro aZ aq
  replace E := E.trans aq
  replace K1 := K1.ext aq
  replace K21 := K21.ext aq
  replace ab := aq.get ab
  replace aa := aq.get aa
  replace ac := aq.get ac
  clear aq
  refine ⟨⟨E, K1, K21, aa, ac⟩, ?_⟩
  refine d_q rfl (fun w' hC => by obtain ⟨E, K1, K21, aa, ac⟩ := hC; exact x_mv (v := Pz ag) rfl) ?_
  refine d_q rfl (fun w' hC => by obtain ⟨E, K1, K21, aa, ac⟩ := hC; exact x_mv (v := ae) rfl) ?_
  refine d_q rfl (fun w' hC => by obtain ⟨E, K1, K21, aa, ac⟩ := hC; exact x_ld (p := Pz b4) (v := .agg (encB (staleF ws rev ((orderP ws).take k) (List.replicate 30 false))).toArray) rfl (ldArrA Ag141 Sz141 aA aa)) ?_
  refine d_q rfl (fun w' hC => by obtain ⟨E, K1, K21, aa, ac⟩ := hC; exact x_as (v := Pz ag) rfl) ?_
  refine d_q rfl (fun w' hC => by obtain ⟨E, K1, K21, aa, ac⟩ := hC; exact x_as (v := ae) rfl) ?_
  refine d_l rfl ?_
  refine s_stArrA (b := b2) (l := List.replicate 30 false) (l' := staleF ws rev ((orderP ws).take k) (List.replicate 30 false)) rfl rfl Sz141 ab aG aA ?_
  intro a5 au
  replace E := E.put (by omega) au
  replace K1 := K1.put au (by omega)
  replace K21 := K21.put au (by omega)
  replace aa := au.get (by omega) aa
  replace ac := au.get (by omega) ac
  replace ab := au.same
  clear au
  refine s_nil ⟨⟨E, K1, K21, aa, ac⟩, ?_⟩
  refine d_q rfl (fun w' hC => by obtain ⟨E, K1, K21, aa, ac⟩ := hC; exact x_as (v := I 0) rfl) ?_
  refine d_nil ?_
  refine W.ret ?_
  exact ⟨_, (resE_ofn (vs := [Pz ag, ae, .agg (encB (staleF ws rev ((orderP ws).take k) (List.replicate 30 false))).toArray, I 0]) rfl rfl (.tmp (v := Pz ag) rfl <| .tmp (v := ae) rfl <| .cell (v := .agg (encB (staleF ws rev ((orderP ws).take k) (List.replicate 30 false))).toArray) rfl (run_loadVar_arr Ag141 Sz141 aA ab) <| .tmp (v := I 0) rfl <| .nil)), .inr ⟨(by rw [asked_list aB]; exact az), ag, _, (by rw [staleL_done av aJ]), ⟨E, o_b11, ac⟩, (aw.kf K21).mono (frm_mono _ (by omega))⟩⟩
 simp only [qz1, qz2, qz3, qz4, qz5, qz6, ne_eq, qz7] at aE
 exact absurd aE (by decide)

end Go.Proofs.Ytndobgodeicloaa
end
section
set_option maxRecDepth 100000
set_option maxHeartbeats 16000000
namespace Go.Proofs.Ytndobgodeicloaa
open Go Go.Nm
theorem repeat_int {vx : Value} {x n : Int} (w : World) (hx : Sl w.cell? vx [x]) (h1 : 1 <= n) (h2 : n <= 1000) : Ret Try.prog 86 #[vx, I n] w fun v w' => OwnF w.heap.size 3 w' v (List.replicate (Int.toNat n) x) /\ Ext w w' := by
 refine ret_of_W Try.func86 rfl rfl rfl ?_
 have E := Ext.refl w
 have K1 := KF.refl 0 w
 have aq := hx.len_le
 have hx := hx.par
 refine sQ rfl <| sA (.slice none 0 0) rfl <| s_nil <| W.seq <| sQ rfl <| sM (I n) rfl <| sC n 0 (decide ((n : Int) < 0)) rfl rfl rfl <| s_nil ?_
 refine W.cond (decide ((n : Int) < 0)) rfl (fun c2 => ?_) (fun c2 => ?_)
 ·simp only [qz1, qz2, qz3, qz4, qz5, qz6, ne_eq, qz7] at c2
  exfalso; omega
 simp only [qz1, qz2, qz3, qz4, qz5, qz6, ne_eq, qz7] at c2
 refine W.skip <| sQ rfl <| sM vx rfl <| s_val (x_lenS T34.und rfl (hx.to K1)) <| s_val (x_convU (kd := .i64) (a := ([x]).length) Try.underlying3 Try.underlying205 rfl (by omega)) <| sM (I n) rfl <| s_val (x_convU (kd := .i64) (a := n) Try.underlying3 Try.underlying205 rfl (by omega)) ?_
 refine s_call cf142 [.int .u64 (([x]).length), .int .u64 n] rfl (mul_any (by omega) (by omega) _) ?_
 rintro _ w3 ⟨rfl, x4⟩
 replace E := E.trans x4
 replace K1 := K1.ext x4
 clear x4
 refine sM (.tuple #[.int .u64 0, .int .u64 n]) rfl <| sX [.int .u64 0, .int .u64 n] (.int .u64 0) rfl rfl <| sX [.int .u64 0, .int .u64 n] (.int .u64 n) rfl rfl <| sA (.int .u64 0) rfl <| sA (.int .u64 n) rfl <| s_nil <| W.seq <| sQ rfl <| sM (.int .u64 0) rfl <| s_val (x_cmp (kd := .u64) (a := 0) (b := 0) (r := decide ((0 : Int) < 0)) rfl rfl rfl) <| sM (B (decide ((0 : Int) < 0))) rfl ?_
 refine g_val (!(decide ((0 : Int) < 0))) (gy_f rfl) (fun hg => x_mv (v := .int .u64 n) rfl) <| g_val (!(decide ((0 : Int) < 0))) (gy_f rfl) (fun hg => x_cmp (kd := .u64) (a := n) (b := 9223372036854775807) (r := decide ((9223372036854775807 : Int) < n)) (gd_of (c := !(decide ((0 : Int) < 0))) hg (.int .u64 n)) rfl rfl) <| s_val (x_por (b := decide ((0 : Int) < 0)) (r := decide ((9223372036854775807 : Int) < n)) rfl rfl (fun hb => gd_of (c := !(decide ((0 : Int) < 0))) (by simp_all) (B (decide ((9223372036854775807 : Int) < n))))) <| s_nil ?_
 refine W.cond (((decide ((0 : Int) < 0)) || (decide ((9223372036854775807 : Int) < n)))) rfl (fun c5 => ?_) (fun c5 => ?_)
 ·skip
  exfalso; simp at c5; omega
 skip
 refine W.skip <| sQ rfl <| sM (.int .u64 n) rfl <| s_val (x_conv64 (kd := .u64) (a := n) Try.underlying205 Try.underlying3 rfl (by omega)) ?_
 refine s_mk (α := Int) T34 0 rfl (n := n) rfl rfl (by omega) (by omega) (by omega) ?_
 intro v6 w7 ho8 x9
 have aa := Nat.le_refl w3.heap.size
 have B_v6 := E.size
 have B_v6_K1 := K1.size
 replace E := E.trans x9
 replace aa := Nat.le_trans aa x9.size
 replace K1 := K1.ext x9
 refine sA v6 rfl <| s_nil <| sQ rfl <| sM v6 rfl <| sM vx rfl ?_
 refine s_copy (v := v6) (l := List.replicate (Int.toNat n) 0) (l2 := [x]) (o := 0) (vy := vx) T34 ((sufV_zero ho8 1).symm) rfl ho8 (by first | omega | (simp; done) | (simp; omega)) (hx.to K1) (Cells.Le.refl _) (by first | omega | (simp; done) | (simp; omega)) ?_
 intro au al ae
 replace E := E.grow ae (by omega)
 replace aa := Nat.le_trans aa ae.size
 replace K1 := K1.grow ae (by omega)
 replace ho8 := al
 clear ae
 refine sA (I ((min ([x]).length ((List.replicate (Int.toNat n) 0).length - 0) : Nat))) rfl <| s_nil <| W.seq <| W.block ?_
 refine W.loop (fun m σ W => ∃ (k : Nat) (l : List Int) (vo : Value) (ρ : Env), σ = upds ρ [(7, vo), (8, I k)] /\ m = Int.toNat n - k /\ Ext w W /\ w3.heap.size <= W.heap.size /\ OwnF w3.heap.size 3 W vo l /\ l.length = Int.toNat n /\ 1 <= k /\ k <= Int.toNat n /\ (∀ y ∈ l.take k, y = x)) ?_ ?_
 ·exact ⟨_, 1, ([x] ++ List.replicate (Int.toNat n - 1) 0), v6, _, upds_of _ _ ⟨rfl, (eqI (by simp; omega)), trivial⟩, rfl, E, aa, (by have hq := ho8; rw [rep_init (n := Int.toNat n) x (by omega)] at hq; exact hq), (by simp; omega), (Nat.le_refl _), (by omega), (by simp)⟩
 rintro m σ av ⟨k, l, vo, ρ, rfl, rfl, E, aa, ab, am, aw, ax, ak⟩
 refine W.seq <| sQ rfl <| sM (I k) rfl <| sM vo rfl <| s_val (x_lenS T34.und rfl (ab.sl.mono (frm_le _ _))) <| sC k l.length (decide ((k : Int) < l.length)) rfl rfl rfl <| s_nil ?_
 refine W.cond (decide ((k : Int) < l.length)) rfl (fun ah => ?_) (fun ah => ?_)
 ·simp only [qz1, qz2, qz3, qz4, qz5, qz6, ne_eq, qz7] at ah
  refine W.skip <| W.block ?_
  refine W.draw (fun W => Ext w W) [(0, true), (1, true), (2, true), (3, true), (4, true), (5, true), (6, true), (7, false), (8, true), (9, true)] mixed (by decide +kernel) rfl ?_
  intro ay ag
  replace E := E.trans ag
  replace aa := Nat.le_trans aa ag.size
  replace ab := ab.ext ag
  clear ag
  refine ⟨E, ?_⟩
  refine d_q rfl (fun w' hC => by have E := hC; exact x_mv (v := I k) rfl) ?_
  refine d_q rfl (fun w' hC => by have E := hC; exact x_mv (v := vo) rfl) ?_
  refine d_q rfl (fun w' hC => by have E := hC; exact x_mv (v := I k) rfl) ?_
  refine d_q rfl (fun w' hC => by have E := hC; exact x_sl (v := vo) (u := sufV 1 vo (Int.toNat k)) (lo' := some (I k)) (hi' := none) (mx' := none) rfl rfl rfl rfl (OwnF.suf (i := k) T34.und T34.size ab (by omega) (by omega) _)) ?_
  refine d_q rfl (fun w' hC => by have E := hC; exact x_mv (v := vo) rfl) ?_
  refine d_q rfl (fun w' hC => by have E := hC; exact x_mv (v := I k) rfl) ?_
  obtain ⟨ai, ao, ac⟩ := sl_hi T34.und T34.size ab.sl (j := k) (by omega) (by omega)
  replace ac := ac.mono (frm_le _ _)
  replace ac : Sl _ ai (l.take k) := ac
  refine d_q rfl (fun w' hC => by have E := hC; exact x_sl (v := vo) (u := ai) (lo' := none) (hi' := some (I k)) (mx' := none) rfl rfl rfl rfl (ao _)) ?_
  refine d_l rfl ?_
  refine s_copy (v := vo) (l := l) (l2 := l.take k) (o := (Int.toNat k)) (vy := ai) T34 rfl rfl ab (by first | omega | (simp; done) | (simp; omega)) ac (Cells.Le.refl _) (by first | omega | (simp; done) | (simp; omega)) ?_
  intro az ap aj
  replace E := E.grow aj (by omega)
  replace aa := Nat.le_trans aa aj.size
  replace ab := ap
  clear aj
  refine s_nil ⟨E, ?_⟩
  refine d_q rfl (fun w' hC => by have E := hC; exact x_ari (a := k) (b := (min (l.take k).length ((l).length - (Int.toNat k)) : Nat)) (r := k + ((min (l.take k).length ((l).length - (Int.toNat k)) : Nat))) rfl rfl rfl (by omega)) ?_
  refine d_q rfl (fun w' hC => by have E := hC; exact x_as (v := I (k + ((min (l.take k).length ((l).length - (Int.toNat k)) : Nat)))) rfl) ?_
  refine d_nil ?_
  have aA : (l.take k).length = k := by simp; omega
  exact ⟨_, (by omega), (k + min (l.take k).length (l.length - Int.toNat k)), _, vo, _, upds_of _ _ ⟨rfl, (eqI (by omega)), trivial⟩, rfl, E, aa, (by first | exact ab | simpa using ab), (by simp only [List.length_append, List.length_take, List.length_drop]; omega), (by omega), (by omega), (rep_step ak (by omega))⟩
 simp only [qz1, qz2, qz3, qz4, qz5, qz6, ne_eq, qz7] at ah
 refine W.exit ?_
 refine sQ rfl <| sM vo rfl <| sA vo rfl <| s_nil ?_
 refine W.ret ?_
 exact ⟨_, resE_tmp rfl, ((rep_done am ak (by omega)) ▸ ab.dn (by omega)), E⟩

theorem ready_any {vw vd : Value} {ws : List Work} {ord : List Int} {st : List Bool} (w : World) (hw : Sl w.cell? vw ws) (hd : Sl w.cell? vd ord) (aw : st.length = 30) (hR : rightE ws = 0) (am : ∀ x ∈ ord, 0 <= x /\ x < (ws.length : Int)) (hol : ord.length <= 30) : Ret Try.prog 99 #[vw, vd, .agg (encB st).toArray] w fun v w' => Sl (frm w' w.heap.size) v (readyL ws ord st) /\ Ext w w' := by
 refine ret_of_W Try.func99 rfl rfl rfl ?_
 have E := Ext.refl w
 have K1 := KF.refl 0 w
 have ax := hw.len_le
 have hw := hw.par
 have ay := hd.len_le
 have hd := hd.par
 have az := right_len hR
 refine sQ rfl ?_
 refine s_box (v := .agg (encB st).toArray) (cs := encB st) rfl rfl ?_
 intro b2 w3 Nb2
 have o_K1_b2 := Nat.le_trans K1.size Nb2.ge
 have o_b2 := Nat.le_trans E.size Nb2.ge
 replace E := E.trans Nb2.ext
 replace K1 := K1.ext Nb2.ext
 have aa := Nb2.same
 clear Nb2
 refine sA (.slice none 0 0) rfl <| s_nil <| sQ rfl ?_
 refine s_bsl (α := Int) T34 w3.heap.size [I (-1)] [(-1 : Int)] rfl (.cons rfl (Flat.rep_enc _ _) <| .nil) (Nat.le_refl _) rfl (by decide) (by decide) ?_
 intro u4 w5 aq x7 nn_u4
 replace E := E.trans x7
 replace K1 := K1.ext x7
 replace aa := x7.get aa
 clear x7
 have K8 := KF.refl w3.heap.size w5
 refine sM vw rfl <| s_val (x_lenS T22.und rfl (hw.to K1)) ?_
 refine s_call cf86 [u4, I ws.length] rfl (repeat_int _ (aq.to K8) (by omega) (by omega)) ?_
 rintro ao w9 ⟨ap, ag⟩
 have n_v11_b2 := ap.ne' (heap_lt aa)
 have ab := Nat.le_refl w5.heap.size
 have B_v11 := E.size
 have B_v11_K1 := K1.size
 have B_v11_K8 := K8.size
 replace E := E.trans ag
 replace ab := Nat.le_trans ab ag.size
 replace K1 := K1.ext ag
 replace K8 := K8.ext ag
 replace aa := ag.get aa
 clear ag
 refine sA ao rfl <| s_nil <| W.seq <| sQ rfl <| sM vd rfl <| s_val (x_lenS T34.und rfl (hd.to K1)) <| sM (I 0) rfl <| s_nil <| W.block ?_
 refine W.loop (fun m σ W => ∃ (k : Nat) (vo : Value) (ρ : Env), σ = upds ρ [(0, vw), (5, Pz b2), (7, vo), (17, vd), (18, I ord.length), (19, I k)] /\ m = ord.length - k /\ Ext w W /\ KF 0 w W /\ W.heap[b2]? = some (.cells (encB st).toArray 141 (0, 0)) /\ w5.heap.size <= W.heap.size /\ OwnF w5.heap.size 3 W vo (readyF ws st (ord.take k) (List.replicate ws.length (-1))) /\ vo.ownBlock ≠ some b2 /\ k <= ord.length) ?_ ?_
 ·exact ⟨_, 0, ao, _, upds_of _ _ ⟨rfl, rfl, rfl, rfl, rfl, (eqI (by omega)), trivial⟩, rfl, E, K1, aa, ab, ap, n_v11_b2, (Nat.zero_le _)⟩
 rintro m σ aA ⟨k, vo, ρ, rfl, rfl, E, K1, aa, ab, ac, n_vo_b2, au⟩
 have hbd := readyF_bound hR st (List.replicate ws.length (-1)) ord am (fun y hy => by have := List.eq_of_mem_replicate hy; omega) k au
 have aB : (readyF ws st (ord.take k) (List.replicate ws.length (-1))).length = ws.length := by rw [readyF_len]; simp
 refine sQ rfl <| sC k ord.length (decide ((k : Int) < ord.length)) rfl rfl rfl <| s_nil <| W.seq ?_
 refine W.cond (decide ((k : Int) < ord.length)) rfl (fun ae => ?_) (fun ae => ?_)
 ·simp only [qz1, qz2, qz3, qz4, qz5, qz6, ne_eq, qz7] at ae
  have hik := am _ (getD_memN ord ae 0)
  have hof := right_of hR (i := (ord.getD k 0).toNat) (by omega)
  refine W.skip <| W.seq <| W.block <| sQ rfl <| s_val (x_ix (a := vd) (b := I k) (v := vat vd 1 (Int.toNat k)) rfl rfl (Sl.ix (α := Int) T34.und T34.size (hd.to K1) (by omega) (by omega))) <| s_val (x_ld (p := vat vd 1 (Int.toNat k)) (v := I (ord.getD k 0)) rfl (ld_sc Sc3 (At.to (Int_at hd (i := k) (by omega) (by omega)) K1))) <| sA (I (ord.getD k 0)) rfl <| s_nil <| W.seq <| sQ rfl ?_
  refine sM (I (ord.getD k 0)) rfl <| s_val (x_ix (a := Pz b2) (b := I (ord.getD k 0)) (v := .pointer (some ⟨b2, 0 + Int.toNat (ord.getD k 0), none⟩)) rfl rfl (run_indexArr Try.underlying141 Sz4 (by omega) (by omega))) <| s_val (x_ld (p := .pointer (some ⟨b2, 0 + Int.toNat (ord.getD k 0), none⟩)) (v := B (st.getD (Int.toNat (ord.getD k 0)) false)) rfl (ldArr Sc4 aa (by omega) (by omega))) <| s_val (x_not (b := st.getD (Int.toNat (ord.getD k 0)) false) rfl) <| s_nil ?_
  refine W.cond (!(st.getD (Int.toNat (ord.getD k 0)) false)) rfl (fun al => ?_) (fun al => ?_)
  ·skip
   refine W.exit ?_
   refine W.region rfl <| sR k 1 (k + 1) rfl rfl rfl (by omega) <| sM (I (k + 1)) rfl <| s_nil ?_
   exact ⟨_, (by omega), k+1, vo, _, upds_of _ _ ⟨rfl, rfl, rfl, rfl, rfl, (eqI (by omega)), trivial⟩, rfl, E, K1, aa, ab, (by rw [readyF_next ws st ord _ ae]; unfold readyStep; rw [if_neg (by simpa using al)]; exact ac), n_vo_b2, (by omega)⟩
  skip
  refine W.skip <| sQ rfl <| sA (I 0) rfl <| s_nil <| W.seq <| sQ rfl <| sM vw rfl <| sM (I (ord.getD k 0)) rfl <| s_val (x_ix (a := vw) (b := I (ord.getD k 0)) (v := vat vw 3 (Int.toNat (ord.getD k 0))) rfl rfl (Sl.ix (α := Work) T22.und T22.size (hw.to K1) (by omega) (by omega))) <| s_val (x_fa (a := vat vw 3 (Int.toNat (ord.getD k 0))) (v := fat (vat vw 3 (Int.toNat (ord.getD k 0))) 0) rfl (fa_pl Fd60_0 Sz34 (Sl.pl (i := ord.getD k 0) hw (by omega) (by omega)))) ?_
  obtain ⟨ah, av, ai⟩ := Work_at0 hw (i := ord.getD k 0) (by omega) (by omega)
  replace ai : Sl _ ah (ws.getD (Int.toNat (ord.getD k 0)) default).of := ai
  have aC := ai.len_le
  refine s_val (x_ld (p := fat (vat vw 3 (Int.toNat (ord.getD k 0))) 0) (v := ah) rfl (ld_sc Sc34 (At.to av K1))) <| s_val (x_lenS T34.und rfl (ai.to K1)) <| sM (I 0) rfl <| s_nil <| W.block ?_
  refine W.loop (fun m σ W => ∃ (j : Nat) (ρ : Env), σ = upds ρ [(0, vw), (5, Pz b2), (7, vo), (9, I (ord.getD k 0)), (10, I (begF (readyF ws st (ord.take k) (List.replicate ws.length (-1))) ((ws.getD (ord.getD k 0).toNat default).of.take j))), (17, vd), (18, I ord.length), (19, I k), (31, ah), (32, I (((ws.getD (Int.toNat (ord.getD k 0)) default).of).length)), (33, I j)] /\ m = (ws.getD (ord.getD k 0).toNat default).of.length - j /\ Ext w W /\ KF 0 w W /\ W.heap[b2]? = some (.cells (encB st).toArray 141 (0, 0)) /\ w5.heap.size <= W.heap.size /\ OwnF w5.heap.size 3 W vo (readyF ws st (ord.take k) (List.replicate ws.length (-1))) /\ j <= (ws.getD (ord.getD k 0).toNat default).of.length) ?_ ?_
  ·exact ⟨_, 0, _, upds_of _ _ ⟨rfl, rfl, rfl, rfl, rfl, rfl, rfl, rfl, rfl, rfl, (eqI (by omega)), trivial⟩, rfl, E, K1, aa, ab, ac, (Nat.zero_le _)⟩
  rintro m σ aD ⟨j, ρ, rfl, rfl, E, K1, aa, ab, ac, aE⟩
  refine sQ rfl <| sC j (((ws.getD (Int.toNat (ord.getD k 0)) default).of).length) (decide ((j : Int) < (((ws.getD (Int.toNat (ord.getD k 0)) default).of).length))) rfl rfl rfl <| s_nil <| W.seq ?_
  refine W.cond (decide ((j : Int) < (((ws.getD (Int.toNat (ord.getD k 0)) default).of).length))) rfl (fun aj => ?_) (fun aj => ?_)
  ·simp only [qz1, qz2, qz3, qz4, qz5, qz6, ne_eq, qz7] at aj
   have hj := hof _ (getD_memN _ aj 0)
   refine W.skip <| W.seq <| W.block <| sQ rfl <| s_val (x_ix (a := ah) (b := I j) (v := vat ah 1 (Int.toNat j)) rfl rfl (Sl.ix (α := Int) T34.und T34.size (ai.to K1) (by omega) (by omega))) <| s_val (x_ld (p := vat ah 1 (Int.toNat j)) (v := I (((ws.getD (Int.toNat (ord.getD k 0)) default).of).getD j 0)) rfl (ld_sc Sc3 (At.to (Int_at ai (i := j) (by omega) (by omega)) K1))) <| sA (I (((ws.getD (Int.toNat (ord.getD k 0)) default).of).getD j 0)) rfl <| s_nil <| W.region rfl <| sM (I (begF (readyF ws st (ord.take k) (List.replicate ws.length (-1))) ((ws.getD (ord.getD k 0).toNat default).of.take j))) rfl <| sM vo rfl ?_
   refine sM (I (((ws.getD (Int.toNat (ord.getD k 0)) default).of).getD j 0)) rfl <| s_val (x_ix (a := vo) (b := I (((ws.getD (Int.toNat (ord.getD k 0)) default).of).getD j 0)) (v := vat vo 1 (Int.toNat (((ws.getD (Int.toNat (ord.getD k 0)) default).of).getD j 0))) rfl rfl (Sl.ix (α := Int) T34.und T34.size (ac.sl.mono (frm_le _ _)) (by omega) (by omega))) <| s_val (x_ld (p := vat vo 1 (Int.toNat (((ws.getD (Int.toNat (ord.getD k 0)) default).of).getD j 0))) (v := I ((readyF ws st (ord.take k) (List.replicate ws.length (-1))).getD (Int.toNat (((ws.getD (Int.toNat (ord.getD k 0)) default).of).getD j 0)) 0)) rfl (ld_sc Sc3 (At.up (Int_at ac.sl (i := ((ws.getD (Int.toNat (ord.getD k 0)) default).of).getD j 0) (by omega) (by omega))))) <| s_val (x_max (kd := .i64) (a := begF (readyF ws st (ord.take k) (List.replicate ws.length (-1))) ((ws.getD (ord.getD k 0).toNat default).of.take j)) (b := (readyF ws st (ord.take k) (List.replicate ws.length (-1))).getD (Int.toNat (((ws.getD (Int.toNat (ord.getD k 0)) default).of).getD j 0)) 0) rfl rfl) <| sA (I (max (begF (readyF ws st (ord.take k) (List.replicate ws.length (-1))) ((ws.getD (ord.getD k 0).toNat default).of.take j)) ((readyF ws st (ord.take k) (List.replicate ws.length (-1))).getD (Int.toNat (((ws.getD (Int.toNat (ord.getD k 0)) default).of).getD j 0)) 0))) rfl <| s_nil <| W.region rfl <| sR j 1 (j + 1) rfl rfl rfl (by omega) <| sM (I (j + 1)) rfl <| s_nil ?_
   exact ⟨_, (by omega), j+1, _, upds_of _ _ ⟨rfl, rfl, rfl, rfl, (eqI (begF_next _ _ aj).symm), rfl, rfl, rfl, rfl, rfl, (eqI (by omega)), trivial⟩, rfl, E, K1, aa, ab, ac, (by omega)⟩
  simp only [qz1, qz2, qz3, qz4, qz5, qz6, ne_eq, qz7] at aj
  have hbg := begF_le (readyF ws st (ord.take k) (List.replicate ws.length (-1))) ((ws.getD (ord.getD k 0).toNat default).of.take j) (10000 * (k : Int)) (by omega) (fun y hy => (hbd y hy).2)
  have aF := right_nums hR (i := (ord.getD k 0).toNat) (by omega)
  refine W.exit ?_
  refine W.region rfl <| sM vo rfl <| sM (I (ord.getD k 0)) rfl <| sM (I (begF (readyF ws st (ord.take k) (List.replicate ws.length (-1))) ((ws.getD (ord.getD k 0).toNat default).of.take j))) rfl <| sM vw rfl <| sM (I (ord.getD k 0)) rfl <| s_val (x_ix (a := vw) (b := I (ord.getD k 0)) (v := vat vw 3 (Int.toNat (ord.getD k 0))) rfl rfl (Sl.ix (α := Work) T22.und T22.size (hw.to K1) (by omega) (by omega))) <| s_val (x_fa (a := vat vw 3 (Int.toNat (ord.getD k 0))) (v := fat (vat vw 3 (Int.toNat (ord.getD k 0))) 2) rfl (fa_pl Fd60_2 Sz3 (Sl.pl (i := ord.getD k 0) hw (by omega) (by omega)))) <| s_val (x_ld (p := fat (vat vw 3 (Int.toNat (ord.getD k 0))) 2) (v := I ((ws.getD (Int.toNat (ord.getD k 0)) default).minutes)) rfl (ld_sc Sc3 (At.to (Work_at2 hw (i := ord.getD k 0) (by omega) (by omega)) K1))) <| sR (begF (readyF ws st (ord.take k) (List.replicate ws.length (-1))) ((ws.getD (ord.getD k 0).toNat default).of.take j)) ((ws.getD (Int.toNat (ord.getD k 0)) default).minutes) ((begF (readyF ws st (ord.take k) (List.replicate ws.length (-1))) ((ws.getD (ord.getD k 0).toNat default).of.take j)) + ((ws.getD (Int.toNat (ord.getD k 0)) default).minutes)) rfl rfl rfl (by omega) <| s_val (x_ix (a := vo) (b := I (ord.getD k 0)) (v := vat vo 1 (Int.toNat (ord.getD k 0))) rfl rfl (Sl.ix (α := Int) T34.und T34.size (ac.sl.mono (frm_le _ _)) (by omega) (by omega))) ?_
  refine s_ost ac Sz3 (i := ord.getD k 0) (by omega) (by omega) ((begF (readyF ws st (ord.take k) (List.replicate ws.length (-1))) ((ws.getD (ord.getD k 0).toNat default).of.take j)) + ((ws.getD (Int.toNat (ord.getD k 0)) default).minutes) : Int) (val := I ((begF (readyF ws st (ord.take k) (List.replicate ws.length (-1))) ((ws.getD (ord.getD k 0).toNat default).of.take j)) + ((ws.getD (Int.toNat (ord.getD k 0)) default).minutes))) rfl rfl rfl ?_
  intro aG ho2 ak
  replace E := E.grow ak (by omega)
  replace ab := Nat.le_trans ab ak.size
  replace K1 := K1.grow ak (by omega)
  replace aa := ak.get n_vo_b2 aa
  replace ac := ho2
  clear ak
  refine s_nil <| W.region rfl <| sR k 1 (k + 1) rfl rfl rfl (by omega) <| sM (I (k + 1)) rfl <| s_nil ?_
  exact ⟨_, (by omega), k+1, vo, _, upds_of _ _ ⟨rfl, rfl, rfl, rfl, rfl, (eqI (by omega)), trivial⟩, rfl, E, K1, aa, ab, (by rw [readyF_next ws st ord _ ae]; unfold readyStep; rw [if_pos (by simpa using al), ← begF_done _ _ aj]; exact ac), n_vo_b2, (by omega)⟩
 simp only [qz1, qz2, qz3, qz4, qz5, qz6, ne_eq, qz7] at ae
 refine W.exit ?_
 refine sQ rfl <| sM vo rfl <| sA vo rfl <| s_nil ?_
 refine W.ret ?_
 exact ⟨_, resE_tmp rfl, (by have hq := (ac.dn (B' := w.heap.size) (by omega)).sl; rw [readyF_done _ _ _ _ ae] at hq; exact hq), E⟩

theorem Stale_any {vw vr : Value} {ws : List Work} {rev : List Int} (w : World) (hw : Sl w.cell? vw ws) (hr : Sl w.cell? vr rev) : Ret Try.prog 32 #[vw, vr] w fun v w' => ∃ u, v = .tuple #[u, I (askedE ws rev)] /\ Sl (frm w' w.heap.size) u (staleR ws rev) /\ Ext w w' := by
 refine ret_of_W Try.func32 rfl rfl rfl ?_
 have E := Ext.refl w
 have K1 := KF.refl 0 w
 have aH := hw.len_le
 have hw := hw.par
 have aI := hr.len_le
 have hr := hr.par
 refine sQ rfl <| sA (.slice none 0 0) rfl <| sA (I 0) rfl <| s_nil <| sQ rfl <| sM vw rfl <| sM vr rfl ?_
 refine s_call cf92 [vw, vr] rfl (asked_any _ (hw.to K1) (hr.to K1)) ?_
 rintro _ w2 (⟨h4, rfl, x5⟩ | ⟨h6, b7, so8, rfl, n9, az⟩)
 ·replace E := E.trans x5
  replace K1 := K1.ext x5
  refine sM (.tuple #[.pointer none, .slice none 0 0, .agg (encB (List.replicate 30 false)).toArray, I (askedE ws rev)]) rfl <| sX [.pointer none, .slice none 0 0, .agg (encB (List.replicate 30 false)).toArray, I (askedE ws rev)] (.pointer none) rfl rfl <| sX [.pointer none, .slice none 0 0, .agg (encB (List.replicate 30 false)).toArray, I (askedE ws rev)] (.slice none 0 0) rfl rfl <| sX [.pointer none, .slice none 0 0, .agg (encB (List.replicate 30 false)).toArray, I (askedE ws rev)] (.agg (encB (List.replicate 30 false)).toArray) rfl rfl <| sX [.pointer none, .slice none 0 0, .agg (encB (List.replicate 30 false)).toArray, I (askedE ws rev)] (I (askedE ws rev)) rfl rfl ?_
  refine s_alloc (cs := encB (List.replicate 30 false)) Al141 rfl ?_
  intro ag aJ Nb11
  have o_K1_b11 := Nat.le_trans K1.size Nb11.ge
  have o_b11 := Nat.le_trans E.size Nb11.ge
  replace E := E.trans Nb11.ext
  replace K1 := K1.ext Nb11.ext
  have ai := Nb11.same
  clear Nb11
  have aA : (List.replicate 30 false).length = 30 := by simp
  refine sA (.pointer none) rfl <| sA (.slice none 0 0) rfl ?_
  refine s_stArrA (b := ag) (l := List.replicate 30 false) (l' := List.replicate 30 false) rfl rfl Sz141 ai aA (List.length_replicate) ?_
  intro aK am
  replace E := E.put (by omega) am
  replace K1 := K1.put am (by omega)
  replace ai := am.same
  clear am
  refine sA (I (askedE ws rev)) rfl <| s_nil <| sQ rfl <| sA (.slice none 0 0) rfl <| s_nil <| W.seq <| sQ rfl <| sM vw rfl <| s_val (x_lenS T22.und rfl (hw.to K1)) <| sM (I 0) rfl ?_
  refine s_nil <| W.block ?_
  refine W.loop (fun m σ W => ∃ (i : Nat) (ρ : Env), σ = upds ρ [(8, Pz ag), (9, I (askedE ws rev)), (10, .slice none 0 0), (21, I ws.length), (22, I i)] /\ m = ws.length - i /\ Ext w W /\ W.heap[ag]? = some (.cells (encB (List.replicate 30 false)).toArray 141 (0, 0)) /\ i <= ws.length) ?_ ?_
  ·exact ⟨_, 0, _, upds_of _ _ ⟨rfl, rfl, rfl, rfl, (eqI (by omega)), trivial⟩, rfl, E, ai, (Nat.zero_le _)⟩
  rintro m σ aL ⟨i, ρ, rfl, rfl, E, ai, aM⟩
  refine sQ rfl <| sC i ws.length (decide ((i : Int) < ws.length)) rfl rfl rfl <| s_nil <| W.seq ?_
  refine W.cond (decide ((i : Int) < ws.length)) rfl (fun ap => ?_) (fun ap => ?_)
  ·simp only [qz1, qz2, qz3, qz4, qz5, qz6, ne_eq, qz7] at ap
   refine W.skip <| W.seq <| W.block <| sQ rfl <| sM (I i) rfl <| sA (I i) rfl <| s_nil <| sQ rfl <| sM (I (askedE ws rev)) rfl <| sC (askedE ws rev) 0 ((askedE ws rev : Int) == 0) rfl rfl rfl ?_
   refine sM (B ((askedE ws rev : Int) == 0)) rfl <| g_val ((askedE ws rev : Int) == 0) (gy_t rfl) (fun hg => x_mv (v := I i) rfl) <| g_val ((askedE ws rev : Int) == 0) (gy_t rfl) (fun hg => x_ix (a := Pz ag) (b := I i) (v := .pointer (some ⟨ag, 0 + Int.toNat i, none⟩)) rfl (gd_of (c := (askedE ws rev : Int) == 0) hg (I i)) (run_indexArr Try.underlying141 Sz4 (by first | omega | (simp at hg; omega)) (by first | omega | (simp at hg; omega)))) <| g_val ((askedE ws rev : Int) == 0) (gy_t rfl) (fun hg => x_ld (p := .pointer (some ⟨ag, 0 + Int.toNat i, none⟩)) (v := B ((List.replicate 30 false).getD i false)) (gd_of (c := (askedE ws rev : Int) == 0) hg (.pointer (some ⟨ag, 0 + Int.toNat i, none⟩))) (ldArr Sc4 ai (by first | omega | (simp at hg; omega) | (simp [inB] at hg; omega)) (by first | omega | (simp at hg; omega) | (simp [inB] at hg; omega)))) <| s_val (x_pand (b := (askedE ws rev : Int) == 0) (r := (List.replicate 30 false).getD i false) rfl (fun hb => gd_of (c := (askedE ws rev : Int) == 0) (by simp_all) (B ((List.replicate 30 false).getD i false))) rfl) <| s_nil ?_
   refine W.cond ((((askedE ws rev : Int) == 0) && ((List.replicate 30 false).getD i false))) rfl (fun aw => ?_) (fun aw => ?_)
   ·skip
    simp [h4] at aw
   skip
   refine W.skip <| W.region rfl <| sR i 1 (i + 1) rfl rfl rfl (by omega) <| sM (I (i + 1)) rfl <| s_nil ?_
   exact ⟨_, (by omega), i+1, _, upds_of _ _ ⟨rfl, rfl, rfl, rfl, (eqI (by omega)), trivial⟩, rfl, E, ai, (by omega)⟩
  simp only [qz1, qz2, qz3, qz4, qz5, qz6, ne_eq, qz7] at ap
  refine W.exit ?_
  refine sQ rfl <| sM (.slice none 0 0) rfl <| sM (I (askedE ws rev)) rfl <| sA (.slice none 0 0) rfl <| sA (I (askedE ws rev)) rfl <| s_nil ?_
  refine W.ret ?_
  exact ⟨_, resE_tmp2 rfl, .slice none 0 0, rfl, (by rw [staleR_no h4]; exact Sl.nil _), E⟩
 have hO := (asked_ok h6).1
 have hR := opened_right hO
 have aN := (right_len hR).2
 have hn1 := (right_len hR).1
 have aO := staleL_len ws rev
 have sz_w2 := E.size
 have o_K1_b7 := Nat.le_trans K1.size n9.ge
 have o_b7 := Nat.le_trans E.size n9.ge
 replace E := E.trans n9.ext
 replace K1 := K1.ext n9.ext
 have aa := n9.same
 clear n9
 have aP := az.len_le
 have K18 := KF.refl w.heap.size w2
 refine sM (.tuple #[Pz b7, so8, .agg (encB (staleL ws rev)).toArray, I 0]) rfl <| sX [Pz b7, so8, .agg (encB (staleL ws rev)).toArray, I 0] (Pz b7) rfl rfl <| sX [Pz b7, so8, .agg (encB (staleL ws rev)).toArray, I 0] so8 rfl rfl <| sX [Pz b7, so8, .agg (encB (staleL ws rev)).toArray, I 0] (.agg (encB (staleL ws rev)).toArray) rfl rfl <| sX [Pz b7, so8, .agg (encB (staleL ws rev)).toArray, I 0] (I 0) rfl rfl ?_
 refine s_alloc (cs := encB (List.replicate 30 false)) Al141 rfl ?_
 intro ac aQ Nb19
 have o_K1_b19 := Nat.le_trans K1.size Nb19.ge
 have o_K18_b19 := Nat.le_trans K18.size Nb19.ge
 have o_b19 := Nat.le_trans E.size Nb19.ge
 have o_b7_b19 := Nat.lt_of_lt_of_le (heap_lt aa) Nb19.ge
 replace E := E.trans Nb19.ext
 replace K1 := K1.ext Nb19.ext
 replace K18 := K18.ext Nb19.ext
 replace aa := Nb19.ext.get aa
 have ab := Nb19.same
 clear Nb19
 have aB : (List.replicate 30 false).length = 30 := by simp
 refine sA (Pz b7) rfl <| sA so8 rfl ?_
 refine s_stArrA (b := ac) (l := List.replicate 30 false) (l' := staleL ws rev) rfl rfl Sz141 ab aB (staleL_len ws rev) ?_
 intro aq aj
 replace E := E.put (by omega) aj
 replace K1 := K1.put aj (by omega)
 replace K18 := K18.put aj (by omega)
 replace aa := aj.get (by omega) aa
 replace ab := aj.same
 clear aj
 refine sA (I 0) rfl <| s_nil <| sQ rfl <| sA (.slice none 0 0) rfl <| s_nil <| W.seq <| sQ rfl <| sM vw rfl <| s_val (x_lenS T22.und rfl (hw.to K1)) <| sM (I 0) rfl ?_
 refine s_nil <| W.block ?_
 have ae := Nat.le_refl aq.heap.size
 have B_vo := E.size
 have B_vo_K1 := K1.size
 have B_vo_K18 := K18.size
 have B_vo_b7 := heap_lt aa
 have B_vo_b19 := heap_lt ab
 refine W.loop (fun m σ W => ∃ (i : Nat) (vo : Value) (ρ : Env), σ = upds ρ [(8, Pz ac), (9, I 0), (10, vo), (21, I ws.length), (22, I i)] /\ m = ws.length - i /\ Ext w W /\ KF 0 w W /\ W.heap[b7]? = some (.cells #[vw] 187 (0, 0)) /\ W.heap[ac]? = some (.cells (encB (staleL ws rev)).toArray 141 (0, 0)) /\ aq.heap.size <= W.heap.size /\ OwnF aq.heap.size 3 W vo (stT ws rev i) /\ vo.ownBlock ≠ some b7 /\ vo.ownBlock ≠ some ac /\ i <= ws.length) ?_ ?_
 ·exact ⟨_, 0, .slice none 0 0, _, upds_of _ _ ⟨rfl, rfl, rfl, rfl, (eqI (by omega)), trivial⟩, rfl, E, K1, aa, ab, ae, (OwnF.nil _ _ _), by simp [Value.ownBlock], by simp [Value.ownBlock], (Nat.zero_le _)⟩
 rintro m σ ax ⟨i, vo, ρ, rfl, rfl, E, K1, aa, ab, ae, al, n_vo_b7, n_vo_b19, aC⟩
 have aR := stT_len ws rev i
 refine sQ rfl <| sC i ws.length (decide ((i : Int) < ws.length)) rfl rfl rfl <| s_nil <| W.seq ?_
 refine W.cond (decide ((i : Int) < ws.length)) rfl (fun ao => ?_) (fun ao => ?_)
 ·simp only [qz1, qz2, qz3, qz4, qz5, qz6, ne_eq, qz7] at ao
  refine W.skip <| W.seq <| W.block <| sQ rfl <| sM (I i) rfl <| sA (I i) rfl <| s_nil <| sQ rfl <| sM (I 0) rfl <| sC 0 0 ((0 : Int) == 0) rfl rfl rfl ?_
  refine sM (B ((0 : Int) == 0)) rfl <| g_val ((0 : Int) == 0) (gy_t rfl) (fun hg => x_mv (v := I i) rfl) <| g_val ((0 : Int) == 0) (gy_t rfl) (fun hg => x_ix (a := Pz ac) (b := I i) (v := .pointer (some ⟨ac, 0 + Int.toNat i, none⟩)) rfl (gd_of (c := (0 : Int) == 0) hg (I i)) (run_indexArr Try.underlying141 Sz4 (by first | omega | (simp at hg; omega)) (by first | omega | (simp at hg; omega)))) <| g_val ((0 : Int) == 0) (gy_t rfl) (fun hg => x_ld (p := .pointer (some ⟨ac, 0 + Int.toNat i, none⟩)) (v := B ((staleL ws rev).getD i false)) (gd_of (c := (0 : Int) == 0) hg (.pointer (some ⟨ac, 0 + Int.toNat i, none⟩))) (ldArr Sc4 ab (by first | omega | (simp at hg; omega) | (simp [inB] at hg; omega)) (by first | omega | (simp at hg; omega) | (simp [inB] at hg; omega)))) <| s_val (x_pand (b := (0 : Int) == 0) (r := (staleL ws rev).getD i false) rfl (fun hb => gd_of (c := (0 : Int) == 0) (by simp_all) (B ((staleL ws rev).getD i false))) rfl) <| s_nil ?_
  refine W.cond ((((0 : Int) == 0) && ((staleL ws rev).getD i false))) rfl (fun au => ?_) (fun au => ?_)
  ·skip
   refine W.region rfl <| sM vo rfl <| sM (I i) rfl ?_
   refine s_bsl (α := Int) T34 ax.heap.size [I i] [(i : Int)] rfl (.cons rfl (Flat.rep_enc _ _) <| .nil) (Nat.le_refl _) rfl (by decide) (by decide) ?_
   intro aD aE aF ah nn_u27
   replace E := E.trans ah
   replace ae := Nat.le_trans ae ah.size
   replace K1 := K1.ext ah
   replace aa := ah.get aa
   replace ab := ah.get ab
   replace al := al.ext ah
   clear ah
   have K31 := KF.refl ax.heap.size aE
   refine s_app (α := Int) (v := vo) (vy := aD) (l := stT ws rev i) (l2 := [(i : Int)]) T34 rfl rfl al (aF.to K31) (Cells.Le.refl _) ae (by first | omega | (simp only [List.length_append, List.length_cons, List.length_nil, List.length_set]; omega)) (by first | omega | (simp only [List.length_append, List.length_cons, List.length_nil, List.length_set]; omega)) ?_
   intro ay aS aG ak av
   have n_v32_b19 := av ac (heap_lt ab) n_vo_b19
   have n_v32_b7 := av b7 (heap_lt aa) n_vo_b7
   replace E := E.grow ak (by omega)
   replace ae := Nat.le_trans ae ak.size
   replace K1 := K1.grow ak (by omega)
   replace aa := ak.get n_vo_b7 aa
   replace ab := ak.get n_vo_b19 ab
   clear ak av
   refine sA ay rfl <| s_nil <| W.region rfl <| sR i 1 (i + 1) rfl rfl rfl (by omega) <| sM (I (i + 1)) rfl <| s_nil ?_
   exact ⟨_, (by omega), i+1, ay, _, upds_of _ _ ⟨rfl, rfl, rfl, rfl, (eqI (by omega)), trivial⟩, rfl, E, K1, aa, ab, ae, (by rw [stT_next, if_pos (by simpa using au)]; exact aG), n_v32_b7, n_v32_b19, (by omega)⟩
  skip
  refine W.skip <| W.region rfl <| sR i 1 (i + 1) rfl rfl rfl (by omega) <| sM (I (i + 1)) rfl <| s_nil ?_
  exact ⟨_, (by omega), i+1, vo, _, upds_of _ _ ⟨rfl, rfl, rfl, rfl, (eqI (by omega)), trivial⟩, rfl, E, K1, aa, ab, ae, (by rw [stT_next, if_neg (by simpa using au)]; exact al), n_vo_b7, n_vo_b19, (by omega)⟩
 simp only [qz1, qz2, qz3, qz4, qz5, qz6, ne_eq, qz7] at ao
 refine W.exit ?_
 refine sQ rfl <| sM vo rfl <| sM (I 0) rfl <| sA vo rfl <| sA (I 0) rfl <| s_nil ?_
 refine W.ret ?_
 exact ⟨_, resE_tmp2 rfl, vo, (by rw [h6]; rfl), (by have hq := (al.dn (B' := w.heap.size) (by omega)).sl; rw [staleR_ok h6 ao aC] at hq; exact hq), E⟩

theorem Ready_any {vw vr : Value} {ws : List Work} {rev : List Int} (w : World) (hw : Sl w.cell? vw ws) (hr : Sl w.cell? vr rev) : Ret Try.prog 36 #[vw, vr] w fun v w' => ∃ u, v = .tuple #[u, I (askedE ws rev)] /\ Sl (frm w' w.heap.size) u (readyR ws rev) /\ Ext w w' := by
 refine ret_of_W Try.func36 rfl rfl rfl ?_
 have E := Ext.refl w
 have K1 := KF.refl 0 w
 have ax := hw.len_le
 have hw := hw.par
 have ay := hr.len_le
 have hr := hr.par
 refine sQ rfl <| sA (.slice none 0 0) rfl <| sA (I 0) rfl <| s_nil <| sQ rfl <| sM vw rfl <| sM vr rfl ?_
 refine s_call cf92 [vw, vr] rfl (asked_any _ (hw.to K1) (hr.to K1)) ?_
 rintro _ w2 (⟨h4, rfl, x5⟩ | ⟨h6, b7, so8, rfl, n9, aj⟩)
 ·replace E := E.trans x5
  replace K1 := K1.ext x5
  refine sM (.tuple #[.pointer none, .slice none 0 0, .agg (encB (List.replicate 30 false)).toArray, I (askedE ws rev)]) rfl <| sX [.pointer none, .slice none 0 0, .agg (encB (List.replicate 30 false)).toArray, I (askedE ws rev)] (.pointer none) rfl rfl <| sX [.pointer none, .slice none 0 0, .agg (encB (List.replicate 30 false)).toArray, I (askedE ws rev)] (.slice none 0 0) rfl rfl <| sX [.pointer none, .slice none 0 0, .agg (encB (List.replicate 30 false)).toArray, I (askedE ws rev)] (.agg (encB (List.replicate 30 false)).toArray) rfl rfl <| sX [.pointer none, .slice none 0 0, .agg (encB (List.replicate 30 false)).toArray, I (askedE ws rev)] (I (askedE ws rev)) rfl rfl ?_
  refine s_alloc (cs := encB (List.replicate 30 false)) Al141 rfl ?_
  intro ap az Nb11
  have o_K1_b11 := Nat.le_trans K1.size Nb11.ge
  have o_b11 := Nat.le_trans E.size Nb11.ge
  replace E := E.trans Nb11.ext
  replace K1 := K1.ext Nb11.ext
  have ak := Nb11.same
  clear Nb11
  have aq : (List.replicate 30 false).length = 30 := by simp
  refine sA (.pointer none) rfl <| sA (.slice none 0 0) rfl ?_
  refine s_stArrA (b := ap) (l := List.replicate 30 false) (l' := List.replicate 30 false) rfl rfl Sz141 ak aq (List.length_replicate) ?_
  intro aA ag
  replace E := E.put (by omega) ag
  replace K1 := K1.put ag (by omega)
  replace ak := ag.same
  clear ag
  refine sA (I (askedE ws rev)) rfl <| s_nil <| W.seq <| sQ rfl <| sM (I (askedE ws rev)) rfl <| sC (askedE ws rev) 0 ((askedE ws rev : Int) != 0) rfl rfl rfl <| s_nil ?_
  refine W.cond ((askedE ws rev : Int) != 0) rfl (fun ah => ?_) (fun ah => ?_)
  ·simp only [qz1, qz2, qz3, qz4, qz5, qz6, ne_eq, qz7] at ah
   refine sQ rfl <| sM (I (askedE ws rev)) rfl <| sA (.slice none 0 0) rfl <| sA (I (askedE ws rev)) rfl <| s_nil ?_
   refine W.ret ?_
   exact ⟨_, resE_tmp2 rfl, .slice none 0 0, rfl, (by rw [readyR_no h4]; exact Sl.nil _), E⟩
  simp only [qz1, qz2, qz3, qz4, qz5, qz6, ne_eq, qz7] at ah
  exact absurd ah h4
 have hO := (asked_ok h6).1
 have hR := opened_right hO
 have aB := (right_len hR).2
 have hn1 := (right_len hR).1
 have aC := staleL_len ws rev
 have sz_w2 := E.size
 have o_K1_b7 := Nat.le_trans K1.size n9.ge
 have o_b7 := Nat.le_trans E.size n9.ge
 replace E := E.trans n9.ext
 replace K1 := K1.ext n9.ext
 have aa := n9.same
 clear n9
 have aD := aj.len_le
 have K16 := KF.refl w.heap.size w2
 refine sM (.tuple #[Pz b7, so8, .agg (encB (staleL ws rev)).toArray, I 0]) rfl <| sX [Pz b7, so8, .agg (encB (staleL ws rev)).toArray, I 0] (Pz b7) rfl rfl <| sX [Pz b7, so8, .agg (encB (staleL ws rev)).toArray, I 0] so8 rfl rfl <| sX [Pz b7, so8, .agg (encB (staleL ws rev)).toArray, I 0] (.agg (encB (staleL ws rev)).toArray) rfl rfl <| sX [Pz b7, so8, .agg (encB (staleL ws rev)).toArray, I 0] (I 0) rfl rfl ?_
 refine s_alloc (cs := encB (List.replicate 30 false)) Al141 rfl ?_
 intro al aE Nb17
 have o_K1_b17 := Nat.le_trans K1.size Nb17.ge
 have o_K16_b17 := Nat.le_trans K16.size Nb17.ge
 have o_b17 := Nat.le_trans E.size Nb17.ge
 have o_b7_b17 := Nat.lt_of_lt_of_le (heap_lt aa) Nb17.ge
 replace E := E.trans Nb17.ext
 replace K1 := K1.ext Nb17.ext
 replace K16 := K16.ext Nb17.ext
 replace aa := Nb17.ext.get aa
 have ab := Nb17.same
 clear Nb17
 have au : (List.replicate 30 false).length = 30 := by simp
 refine sA (Pz b7) rfl <| sA so8 rfl ?_
 refine s_stArrA (b := al) (l := List.replicate 30 false) (l' := staleL ws rev) rfl rfl Sz141 ab au (staleL_len ws rev) ?_
 intro av ac
 replace E := E.put (by omega) ac
 replace K1 := K1.put ac (by omega)
 replace K16 := K16.put ac (by omega)
 replace aa := ac.get (by omega) aa
 replace ab := ac.same
 clear ac
 refine sA (I 0) rfl <| s_nil <| W.seq <| sQ rfl <| sM (I 0) rfl <| sC 0 0 ((0 : Int) != 0) rfl rfl rfl <| s_nil ?_
 refine W.cond ((0 : Int) != 0) rfl (fun ai => ?_) (fun ai => ?_)
 ·simp only [qz1, qz2, qz3, qz4, qz5, qz6, ne_eq, qz7] at ai
  exact absurd ai (by decide)
 simp only [qz1, qz2, qz3, qz4, qz5, qz6, ne_eq, qz7] at ai
 refine W.skip <| sQ rfl <| sM vw rfl <| sM so8 rfl <| s_val (x_ld (p := Pz al) (v := .agg (encB (staleL ws rev)).toArray) rfl (ldArrA Ag141 Sz141 (staleL_len ws rev) ab)) ?_
 refine s_call cf99 [vw, so8, .agg (encB (staleL ws rev)).toArray] rfl (ready_any _ (hw.to K1) (aj.to K16) (staleL_len ws rev) hR (order_rng _) (by have := order_len ws; omega)) ?_
 have sz_w22 := E.size
 have lt_b7_w22 := heap_lt aa
 have lt_b17_w22 := heap_lt ab
 rintro am aw ⟨ao, ae⟩
 replace E := E.trans ae
 replace K1 := K1.ext ae
 replace K16 := K16.ext ae
 replace aa := ae.get aa
 replace ab := ae.get ab
 clear ae
 have aF := ao.len_le
 have K26 := KF.refl av.heap.size aw
 refine sA am rfl <| sA (I 0) rfl <| s_nil ?_
 refine W.ret ?_
 exact ⟨_, resE_tmp2 rfl, am, (by rw [h6]; rfl), (by have hq := (ao.kf K26).mono (frm_mono _ (lo' := w.heap.size) (by omega)); rw [readyR_ok h6] at hq; exact hq), E⟩

end Go.Proofs.Ytndobgodeicloaa
end
section
set_option maxRecDepth 100000
set_option maxHeartbeats 16000000
namespace Go.Proofs.Ytndobgodeicloaa
open Go Go.Nm
theorem max_int {vl : Value} {l : List Int} (w : World) (hl : Sl w.cell? vl l) (h1 : 1 <= l.length) : Ret Try.prog 101 #[vl] w fun v w' => v = I (maxT l l.length) /\ Ext w w' := by
 refine ret_of_W Try.func101 rfl rfl rfl ?_
 have E := Ext.refl w
 have K1 := KF.refl 0 w
 have aa := hl.len_le
 have hl := hl.par
 refine sQ rfl <| sA (I 0) rfl <| s_nil <| W.seq <| sQ rfl <| sM vl rfl <| s_val (x_lenS T34.und rfl (hl.to K1)) <| sC l.length 1 (decide ((l.length : Int) < 1)) rfl rfl rfl <| s_nil ?_
 refine W.cond (decide ((l.length : Int) < 1)) rfl (fun c2 => ?_) (fun c2 => ?_)
 ·simp only [qz1, qz2, qz3, qz4, qz5, qz6, ne_eq, qz7] at c2
  exfalso; omega
 simp only [qz1, qz2, qz3, qz4, qz5, qz6, ne_eq, qz7] at c2
 refine W.skip <| sQ rfl <| sM vl rfl <| s_val (x_ix (a := vl) (b := I 0) (v := vat vl 1 (Int.toNat 0)) rfl rfl (Sl.ix (α := Int) T34.und T34.size (hl.to K1) (by omega) (by omega))) <| s_val (x_ld (p := vat vl 1 (Int.toNat 0)) (v := I (l.getD 0 0)) rfl (ld_sc Sc3 (At.to (Int_at hl (i := 0) (by omega) (by omega)) K1))) <| sA (I (l.getD 0 0)) rfl <| s_nil <| W.seq <| sQ rfl <| sA (I 1) rfl ?_
 refine s_nil <| W.block ?_
 refine W.loop (fun m σ W => ∃ (i : Nat) (ρ : Env), σ = upds ρ [(0, vl), (3, I (maxT l i)), (4, I i)] /\ m = l.length - i /\ Ext w W /\ KF 0 w W /\ 1 <= i /\ i <= l.length) ?_ ?_
 ·exact ⟨_, 1, _, upds_of _ _ ⟨rfl, (eqI (maxT_one h1)), (eqI (by omega)), trivial⟩, rfl, E, K1, (Nat.le_refl _), (by omega)⟩
 rintro m σ w3 ⟨i, ρ, rfl, rfl, E, K1, ab, ac⟩
 refine W.seq <| sQ rfl <| sM (I i) rfl <| sM vl rfl <| s_val (x_lenS T34.und rfl (hl.to K1)) <| sC i l.length (decide ((i : Int) < l.length)) rfl rfl rfl <| s_nil ?_
 refine W.cond (decide ((i : Int) < l.length)) rfl (fun c4 => ?_) (fun c4 => ?_)
 ·simp only [qz1, qz2, qz3, qz4, qz5, qz6, ne_eq, qz7] at c4
  refine W.skip <| W.seq <| W.block <| W.region rfl <| sM (I (maxT l i)) rfl <| sM vl rfl <| sM (I i) rfl <| s_val (x_ix (a := vl) (b := I i) (v := vat vl 1 (Int.toNat i)) rfl rfl (Sl.ix (α := Int) T34.und T34.size (hl.to K1) (by omega) (by omega))) <| s_val (x_ld (p := vat vl 1 (Int.toNat i)) (v := I (l.getD i 0)) rfl (ld_sc Sc3 (At.to (Int_at hl (i := i) (by omega) (by omega)) K1))) <| s_val (x_max (kd := .i64) (a := maxT l i) (b := l.getD i 0) rfl rfl) <| sA (I (max (maxT l i) (l.getD i 0))) rfl <| s_nil ?_
  refine W.region rfl <| sM (I i) rfl <| sR i 1 (i + 1) rfl rfl rfl (by omega) <| sA (I (i + 1)) rfl <| s_nil ?_
  exact ⟨_, (by omega), i+1, _, upds_of _ _ ⟨rfl, (eqI (maxT_next l c4).symm), (eqI (by omega)), trivial⟩, rfl, E, K1, (by omega), (by omega)⟩
 simp only [qz1, qz2, qz3, qz4, qz5, qz6, ne_eq, qz7] at c4
 refine W.exit ?_
 refine sQ rfl <| sM (I (maxT l i)) rfl <| sA (I (maxT l i)) rfl <| s_nil ?_
 refine W.ret ?_
 exact ⟨_, resE_tmp rfl, (eqI (maxT_done l c4)), E⟩

theorem longest1 {b1 b2 b3 : Nat} {va vw : Value} {a : List Int} {ws : List Work} (x i : Int) (w : World) (aa : w.heap[b1]? = some (.cells #[va] 34 (0, 0))) (ab : w.heap[b2]? = some (.cells #[I i] 3 (0, 0))) (ac : w.heap[b3]? = some (.cells #[vw] 22 (0, 0))) (ha : Sl w.cell? va a) (hw : Sl w.cell? vw ws) (h0 : 0 <= x) (h1 : x < a.length) (hi0 : 0 <= i) (hi1 : i < a.length) (hi2 : i < ws.length) (hb : -1000000 <= a.getD (Int.toNat i) 0 - (ws.getD (Int.toNat i) default).minutes /\ a.getD (Int.toNat i) 0 - (ws.getD (Int.toNat i) default).minutes <= 1000000) : Ret Try.prog 103 #[I x, Pz b1, Pz b2, Pz b3] w fun v w' => v = B (a.getD (Int.toNat x) 0 == a.getD (Int.toNat i) 0 - (ws.getD (Int.toNat i) default).minutes) /\ Ext w w' := by
 refine ret_of_W Try.func103 rfl rfl rfl ?_
 have E := Ext.refl w
 have K1 := KF.refl 0 w
 have ae := ha.len_le
 have ha := ha.par
 have ag := hw.len_le
 have hw := hw.par
 refine sQ rfl <| sA (B false) rfl <| s_nil <| W.seq ?_
 refine W.draw (fun W => Ext w W /\ KF 0 w W /\ W.heap[b1]? = some (.cells #[va] 34 (0, 0)) /\ W.heap[b2]? = some (.cells #[I i] 3 (0, 0)) /\ W.heap[b3]? = some (.cells #[vw] 22 (0, 0))) [(0, true), (1, true), (2, true), (3, true), (4, true), (5, true), (6, true), (7, true), (8, true), (9, true), (10, true), (11, true), (12, true), (13, true), (14, true), (15, true)] mixed (by decide +kernel) rfl ?_
 intro w2 x3
 replace E := E.trans x3
 replace K1 := K1.ext x3
 replace aa := x3.get aa
 replace ab := x3.get ab
 replace ac := x3.get ac
 clear x3
 refine ⟨⟨E, K1, aa, ab, ac⟩, ?_⟩
 refine d_q rfl (fun w' hC => by obtain ⟨E, K1, aa, ab, ac⟩ := hC; exact x_ld (p := Pz b1) (v := va) rfl (ldb_sc Sc34 aa rfl)) ?_
 refine d_q rfl (fun w' hC => by obtain ⟨E, K1, aa, ab, ac⟩ := hC; exact x_mv (v := I x) rfl) ?_
 refine d_q rfl (fun w' hC => by obtain ⟨E, K1, aa, ab, ac⟩ := hC; exact x_ix (a := va) (b := I x) (v := vat va 1 (Int.toNat x)) rfl rfl (Sl.ix (α := Int) T34.und T34.size (ha.to K1) (by omega) (by omega))) ?_
 refine d_q rfl (fun w' hC => by obtain ⟨E, K1, aa, ab, ac⟩ := hC; exact x_ld (p := vat va 1 (Int.toNat x)) (v := I (a.getD (Int.toNat x) 0)) rfl (ld_sc Sc3 (At.to (Int_at ha (i := x) (by omega) (by omega)) K1))) ?_
 refine d_q rfl (fun w' hC => by obtain ⟨E, K1, aa, ab, ac⟩ := hC; exact x_ld (p := Pz b1) (v := va) rfl (ldb_sc Sc34 aa rfl)) ?_
 refine d_q rfl (fun w' hC => by obtain ⟨E, K1, aa, ab, ac⟩ := hC; exact x_ld (p := Pz b2) (v := I i) rfl (ldb_sc Sc3 ab rfl)) ?_
 refine d_q rfl (fun w' hC => by obtain ⟨E, K1, aa, ab, ac⟩ := hC; exact x_ix (a := va) (b := I i) (v := vat va 1 (Int.toNat i)) rfl rfl (Sl.ix (α := Int) T34.und T34.size (ha.to K1) (by omega) (by omega))) ?_
 refine d_q rfl (fun w' hC => by obtain ⟨E, K1, aa, ab, ac⟩ := hC; exact x_ld (p := vat va 1 (Int.toNat i)) (v := I (a.getD (Int.toNat i) 0)) rfl (ld_sc Sc3 (At.to (Int_at ha (i := i) (by omega) (by omega)) K1))) ?_
 refine d_q rfl (fun w' hC => by obtain ⟨E, K1, aa, ab, ac⟩ := hC; exact x_ld (p := Pz b3) (v := vw) rfl (ldb_sc Sc22 ac rfl)) ?_
 refine d_q rfl (fun w' hC => by obtain ⟨E, K1, aa, ab, ac⟩ := hC; exact x_ld (p := Pz b2) (v := I i) rfl (ldb_sc Sc3 ab rfl)) ?_
 refine d_q rfl (fun w' hC => by obtain ⟨E, K1, aa, ab, ac⟩ := hC; exact x_ix (a := vw) (b := I i) (v := vat vw 3 (Int.toNat i)) rfl rfl (Sl.ix (α := Work) T22.und T22.size (hw.to K1) (by omega) (by omega))) ?_
 refine d_q rfl (fun w' hC => by obtain ⟨E, K1, aa, ab, ac⟩ := hC; exact x_fa (a := vat vw 3 (Int.toNat i)) (v := fat (vat vw 3 (Int.toNat i)) 2) rfl (fa_pl Fd60_2 Sz3 (Sl.pl (i := i) hw (by omega) (by omega)))) ?_
 refine d_q rfl (fun w' hC => by obtain ⟨E, K1, aa, ab, ac⟩ := hC; exact x_ld (p := fat (vat vw 3 (Int.toNat i)) 2) (v := I ((ws.getD (Int.toNat i) default).minutes)) rfl (ld_sc Sc3 (At.to (Work_at2 hw (i := i) (by omega) (by omega)) K1))) ?_
 refine d_q rfl (fun w' hC => by obtain ⟨E, K1, aa, ab, ac⟩ := hC; exact x_ari (a := a.getD (Int.toNat i) 0) (b := (ws.getD (Int.toNat i) default).minutes) (r := (a.getD (Int.toNat i) 0) - ((ws.getD (Int.toNat i) default).minutes)) rfl rfl rfl (by omega)) ?_
 refine d_q rfl (fun w' hC => by obtain ⟨E, K1, aa, ab, ac⟩ := hC; exact x_cmp (kd := .i64) (a := a.getD (Int.toNat x) 0) (b := (a.getD (Int.toNat i) 0) - ((ws.getD (Int.toNat i) default).minutes)) (r := ((a.getD (Int.toNat x) 0) : Int) == ((a.getD (Int.toNat i) 0) - ((ws.getD (Int.toNat i) default).minutes))) rfl rfl rfl) ?_
 refine d_q rfl (fun w' hC => by obtain ⟨E, K1, aa, ab, ac⟩ := hC; exact x_as (v := B (((a.getD (Int.toNat x) 0) : Int) == ((a.getD (Int.toNat i) 0) - ((ws.getD (Int.toNat i) default).minutes)))) rfl) ?_
 refine d_nil ?_
 refine W.ret ?_
 exact ⟨_, resE_tmp rfl, rfl, E⟩

theorem Longest_any {vw vr : Value} {ws : List Work} {rev : List Int} (w : World) (hw : Sl w.cell? vw ws) (hr : Sl w.cell? vr rev) : Ret Try.prog 38 #[vw, vr] w fun v w' => ∃ u, v = .tuple #[u, I (longestE ws rev)] /\ Sl (frm w' w.heap.size) u (longestR ws rev) /\ Ext w w' := by
 refine ret_of_W Try.func38 rfl rfl rfl ?_
 have E := Ext.refl w
 have K1 := KF.refl 0 w
 have cA := hw.len_le
 have hw := hw.par
 have cB := hr.len_le
 have hr := hr.par
 refine sQ rfl ?_
 refine s_box (v := vw) (cs := [vw]) rfl (Sl.cells (hw.to K1)) ?_
 intro b2 w3 Nb2
 have o_K1_b2 := Nat.le_trans K1.size Nb2.ge
 have o_b2 := Nat.le_trans E.size Nb2.ge
 replace E := E.trans Nb2.ext
 replace K1 := K1.ext Nb2.ext
 have aa := Nb2.same
 clear Nb2
 refine sA (.slice none 0 0) rfl <| sA (I 0) rfl <| s_nil <| sQ rfl <| s_val (x_ld (p := Pz b2) (v := vw) rfl (ldb_sc Sc22 aa rfl)) <| sM vr rfl ?_
 refine s_call cf92 [vw, vr] rfl (asked_any _ (hw.to K1) (hr.to K1)) ?_
 rintro _ w4 (⟨h6, rfl, x7⟩ | ⟨h8, b9, a5, rfl, ba, bN⟩)
 ·replace E := E.trans x7
  replace K1 := K1.ext x7
  replace aa := x7.get aa
  refine sM (.tuple #[.pointer none, .slice none 0 0, .agg (encB (List.replicate 30 false)).toArray, I (askedE ws rev)]) rfl <| sX [.pointer none, .slice none 0 0, .agg (encB (List.replicate 30 false)).toArray, I (askedE ws rev)] (.pointer none) rfl rfl <| sX [.pointer none, .slice none 0 0, .agg (encB (List.replicate 30 false)).toArray, I (askedE ws rev)] (.slice none 0 0) rfl rfl <| sX [.pointer none, .slice none 0 0, .agg (encB (List.replicate 30 false)).toArray, I (askedE ws rev)] (.agg (encB (List.replicate 30 false)).toArray) rfl rfl <| sX [.pointer none, .slice none 0 0, .agg (encB (List.replicate 30 false)).toArray, I (askedE ws rev)] (I (askedE ws rev)) rfl rfl ?_
  refine s_alloc (cs := encB (List.replicate 30 false)) Al141 rfl ?_
  intro b8 cC Nb13
  have o_K1_b13 := Nat.le_trans K1.size Nb13.ge
  have o_b13 := Nat.le_trans E.size Nb13.ge
  have o_b2_b13 := Nat.lt_of_lt_of_le (heap_lt aa) Nb13.ge
  replace E := E.trans Nb13.ext
  replace K1 := K1.ext Nb13.ext
  replace aa := Nb13.ext.get aa
  have bO := Nb13.same
  clear Nb13
  have ca : (List.replicate 30 false).length = 30 := by simp
  refine sA (.pointer none) rfl <| sA (.slice none 0 0) rfl ?_
  refine s_stArrA (b := b8) (l := List.replicate 30 false) (l' := List.replicate 30 false) rfl rfl Sz141 bO ca (List.length_replicate) ?_
  intro cD bu
  replace E := E.put (by omega) bu
  replace K1 := K1.put bu (by omega)
  replace aa := bu.get (by omega) aa
  replace bO := bu.same
  clear bu
  refine sA (I (askedE ws rev)) rfl <| s_nil <| W.seq <| W.block <| sQ rfl <| sM (I (askedE ws rev)) rfl <| sC (askedE ws rev) 0 ((askedE ws rev : Int) != 0) rfl rfl rfl <| sA (B ((askedE ws rev : Int) != 0)) rfl <| s_nil ?_
  refine W.cond ((askedE ws rev : Int) != 0) rfl (fun bC => ?_) (fun bC => ?_)
  ·simp only [qz1, qz2, qz3, qz4, qz5, qz6, ne_eq, qz7] at bC
   refine sQ rfl <| sM (I (askedE ws rev)) rfl <| sA (.slice none 0 0) rfl <| sA (I (askedE ws rev)) rfl <| s_nil ?_
   refine W.ret ?_
   exact ⟨_, resE_tmp2 rfl, .slice none 0 0, (by rw [(longest_wrong h6).1]; rfl), (by rw [(longest_wrong h6).2]; exact Sl.nil _), E⟩
  simp only [qz1, qz2, qz3, qz4, qz5, qz6, ne_eq, qz7] at bC
  exact absurd bC h6
 have hO := (asked_ok h8).1
 have hR := opened_right hO
 have cE := (right_len hR).2
 have hn1 := (right_len hR).1
 have cF := staleL_len ws rev
 have sz_w4 := E.size
 have lt_b2_w4 := heap_lt aa
 have o_K1_b9 := Nat.le_trans K1.size ba.ge
 have o_b9 := Nat.le_trans E.size ba.ge
 have o_b2_b9 := Nat.lt_of_lt_of_le (heap_lt aa) ba.ge
 replace E := E.trans ba.ext
 replace K1 := K1.ext ba.ext
 replace aa := ba.ext.get aa
 have ab := ba.same
 clear ba
 have cG := bN.len_le
 have K18 := KF.refl w3.heap.size w4
 refine sM (.tuple #[Pz b9, a5, .agg (encB (staleL ws rev)).toArray, I 0]) rfl <| sX [Pz b9, a5, .agg (encB (staleL ws rev)).toArray, I 0] (Pz b9) rfl rfl <| sX [Pz b9, a5, .agg (encB (staleL ws rev)).toArray, I 0] a5 rfl rfl <| sX [Pz b9, a5, .agg (encB (staleL ws rev)).toArray, I 0] (.agg (encB (staleL ws rev)).toArray) rfl rfl <| sX [Pz b9, a5, .agg (encB (staleL ws rev)).toArray, I 0] (I 0) rfl rfl ?_
 refine s_alloc (cs := encB (List.replicate 30 false)) Al141 rfl ?_
 intro ax cH Nb19
 have o_K1_b19 := Nat.le_trans K1.size Nb19.ge
 have o_K18_b19 := Nat.le_trans K18.size Nb19.ge
 have o_b19 := Nat.le_trans E.size Nb19.ge
 have o_b2_b19 := Nat.lt_of_lt_of_le (heap_lt aa) Nb19.ge
 have o_b9_b19 := Nat.lt_of_lt_of_le (heap_lt ab) Nb19.ge
 replace E := E.trans Nb19.ext
 replace K1 := K1.ext Nb19.ext
 replace K18 := K18.ext Nb19.ext
 replace aa := Nb19.ext.get aa
 replace ab := Nb19.ext.get ab
 have ac := Nb19.same
 clear Nb19
 have cb : (List.replicate 30 false).length = 30 := by simp
 refine sA (Pz b9) rfl <| sA a5 rfl ?_
 refine s_stArrA (b := ax) (l := List.replicate 30 false) (l' := staleL ws rev) rfl rfl Sz141 ac cb (staleL_len ws rev) ?_
 intro bb bi
 replace E := E.put (by omega) bi
 replace K1 := K1.put bi (by omega)
 replace K18 := K18.put bi (by omega)
 replace aa := bi.get (by omega) aa
 replace ab := bi.get (by omega) ab
 replace ac := bi.same
 clear bi
 refine sA (I 0) rfl <| s_nil <| W.seq <| W.block <| sQ rfl <| sM (I 0) rfl <| sC 0 0 ((0 : Int) != 0) rfl rfl rfl <| sA (B ((0 : Int) != 0)) rfl <| s_nil ?_
 refine W.cond ((0 : Int) != 0) rfl (fun bD => ?_) (fun bD => ?_)
 ·simp only [qz1, qz2, qz3, qz4, qz5, qz6, ne_eq, qz7] at bD
  exact absurd bD (by decide)
 simp only [qz1, qz2, qz3, qz4, qz5, qz6, ne_eq, qz7] at bD
 refine sQ rfl <| sM vr rfl <| s_val (x_lenS T34.und rfl (hr.to K1)) <| sC rev.length 0 ((rev.length : Int) == 0) rfl rfl rfl <| sA (B ((rev.length : Int) == 0)) rfl <| s_nil ?_
 refine W.cond ((rev.length : Int) == 0) rfl (fun ay => ?_) (fun ay => ?_)
 ·simp only [qz1, qz2, qz3, qz4, qz5, qz6, ne_eq, qz7] at ay
  refine sQ rfl <| sA (.slice none 0 0) rfl <| sA (I 5) rfl <| s_nil ?_
  refine W.ret ?_
  exact ⟨_, resE_tmp2 rfl, .slice none 0 0, (by rw [(longest_none h8 ay).1]; rfl), (by rw [(longest_none h8 ay).2]; exact Sl.nil _), E⟩
 simp only [qz1, qz2, qz3, qz4, qz5, qz6, ne_eq, qz7] at ay
 have hal := readyL_len ws (orderP ws) (staleL ws rev)
 have hla := lastL_rng (a := readyL ws (orderP ws) (staleL ws rev)) (by omega)
 refine W.skip <| sQ rfl <| s_val (x_ld (p := Pz b2) (v := vw) rfl (ldb_sc Sc22 aa rfl)) <| sM a5 rfl <| s_val (x_ld (p := Pz ax) (v := .agg (encB (staleL ws rev)).toArray) rfl (ldArrA Ag141 Sz141 (staleL_len ws rev) ac)) ?_
 refine s_call cf99 [vw, a5, .agg (encB (staleL ws rev)).toArray] rfl (ready_any _ (hw.to K1) (bN.to K18) (staleL_len ws rev) hR (order_rng _) (by have := order_len ws; omega)) ?_
 have sz_w25 := E.size
 have lt_b2_w25 := heap_lt aa
 have lt_b9_w25 := heap_lt ab
 have lt_b19_w25 := heap_lt ac
 rintro al bc ⟨aq, bj⟩
 replace E := E.trans bj
 replace K1 := K1.ext bj
 replace K18 := K18.ext bj
 replace aa := bj.get aa
 replace ab := bj.get ab
 replace ac := bj.get ac
 clear bj
 have cI := aq.len_le
 have K29 := KF.refl bb.heap.size bc
 refine s_alloc (cs := [.slice none 0 0]) Al34 rfl ?_
 intro ak cJ Nb30
 have o_K1_b30 := Nat.le_trans K1.size Nb30.ge
 have o_K18_b30 := Nat.le_trans K18.size Nb30.ge
 have o_K29_b30 := Nat.le_trans K29.size Nb30.ge
 have o_b30 := Nat.le_trans E.size Nb30.ge
 have o_b2_b30 := Nat.lt_of_lt_of_le (heap_lt aa) Nb30.ge
 have o_b9_b30 := Nat.lt_of_lt_of_le (heap_lt ab) Nb30.ge
 have o_b19_b30 := Nat.lt_of_lt_of_le (heap_lt ac) Nb30.ge
 replace E := E.trans Nb30.ext
 replace K1 := K1.ext Nb30.ext
 replace K18 := K18.ext Nb30.ext
 replace K29 := K29.ext Nb30.ext
 replace aa := Nb30.ext.get aa
 replace ab := Nb30.ext.get ab
 replace ac := Nb30.ext.get ac
 have ae := Nb30.same
 clear Nb30
 refine s_st (b := ak) (off := 0) (vs := [al]) (cs' := [al]) (v := al) rfl rfl Sz34 ae (Sl.cells (aq.to K29)) rfl rfl (by simp only [List.all_cons, List.all_nil, Bool.true_and, Bool.and_true, Sl.oc (aq.to K29)]; try rfl) rfl ?_
 intro cK a6
 replace E := E.put (by omega) a6
 replace K1 := K1.put a6 (by omega)
 replace K18 := K18.put a6 (by omega)
 replace K29 := K29.put a6 (by omega)
 replace aa := a6.get (by omega) aa
 replace ab := a6.get (by omega) ab
 replace ac := a6.get (by omega) ac
 replace ae := a6.same
 clear a6
 refine s_nil <| W.seq ?_
 refine W.drawT (fun W => Ext w W /\ KF 0 w W /\ KF w3.heap.size w4 W /\ KF bb.heap.size bc W /\ W.heap[b2]? = some (.cells #[vw] 22 (0, 0)) /\ W.heap[b9]? = some (.cells #[vw] 187 (0, 0)) /\ W.heap[ax]? = some (.cells (encB (staleL ws rev)).toArray 141 (0, 0)) /\ W.heap[ak]? = some (.cells #[al] 34 (0, 0))) (.q 0 (.q 1 (.l2 2 (.l2 3 (.l 4 (.l 5 .nil)) 4 (.l 3 (.l 5 .nil))) 4 (.l 2 (.l 3 (.l 5 .nil)))))) mixed (by decide +kernel) rfl ?_
 intro cL a7
 replace E := E.trans a7
 replace K1 := K1.ext a7
 replace K18 := K18.ext a7
 replace K29 := K29.ext a7
 replace aa := a7.get aa
 replace ab := a7.get ab
 replace ac := a7.get ac
 replace ae := a7.get ae
 clear a7
 refine ⟨⟨E, K1, K18, K29, aa, ab, ac, ae⟩, ?_⟩
 refine t_q rfl (fun w' hC => by obtain ⟨E, K1, K18, K29, aa, ab, ac, ae⟩ := hC; exact x_ld (p := Pz ak) (v := al) rfl (ldb_sc Sc34 ae rfl)) ?_
 refine t_q rfl (fun w' hC => by obtain ⟨E, K1, K18, K29, aa, ab, ac, ae⟩ := hC; exact x_ld (p := Pz ak) (v := al) rfl (ldb_sc Sc34 ae rfl)) ?_
 refine t_l2 rfl rfl ?_ ?_
 ·refine s_call cf101 [al] rfl (max_int _ (aq.to K29) (by omega)) ?_
  rintro _ cM ⟨rfl, a8⟩
  replace E := E.trans a8
  replace K1 := K1.ext a8
  replace K18 := K18.ext a8
  replace K29 := K29.ext a8
  replace aa := a8.get aa
  replace ab := a8.get ab
  replace ac := a8.get ac
  replace ae := a8.get ae
  clear a8
  refine s_nil ⟨⟨E, K1, K18, K29, aa, ab, ac, ae⟩, ?_⟩
  refine t_l2 rfl rfl ?_ ?_
  ·refine s_call cf100 [al, I (maxT (readyL ws (orderP ws) (staleL ws rev)) (readyL ws (orderP ws) (staleL ws rev)).length)] rfl (index_int (maxT (readyL ws (orderP ws) (staleL ws rev)) (readyL ws (orderP ws) (staleL ws rev)).length) _ (aq.to K29)) ?_
   rintro _ cN ⟨rfl, a9⟩
   replace E := E.trans a9
   replace K1 := K1.ext a9
   replace K18 := K18.ext a9
   replace K29 := K29.ext a9
   replace aa := a9.get aa
   replace ab := a9.get ab
   replace ac := a9.get ac
   replace ae := a9.get ae
   clear a9
   refine s_nil ⟨⟨E, K1, K18, K29, aa, ab, ac, ae⟩, ?_⟩
   refine t_l rfl ?_
   refine s_alloc (cs := [I 0]) Al3 rfl ?_
   intro au cO Nb40
   have o_K1_b40 := Nat.le_trans K1.size Nb40.ge
   have o_K18_b40 := Nat.le_trans K18.size Nb40.ge
   have o_K29_b40 := Nat.le_trans K29.size Nb40.ge
   have o_b40 := Nat.le_trans E.size Nb40.ge
   have o_b2_b40 := Nat.lt_of_lt_of_le (heap_lt aa) Nb40.ge
   have o_b9_b40 := Nat.lt_of_lt_of_le (heap_lt ab) Nb40.ge
   have o_b19_b40 := Nat.lt_of_lt_of_le (heap_lt ac) Nb40.ge
   have o_b30_b40 := Nat.lt_of_lt_of_le (heap_lt ae) Nb40.ge
   replace E := E.trans Nb40.ext
   replace K1 := K1.ext Nb40.ext
   replace K18 := K18.ext Nb40.ext
   replace K29 := K29.ext Nb40.ext
   replace aa := Nb40.ext.get aa
   replace ab := Nb40.ext.get ab
   replace ac := Nb40.ext.get ac
   replace ae := Nb40.ext.get ae
   have aj := Nb40.same
   clear Nb40
   refine s_nil ⟨⟨E, K1, K18, K29, aa, ab, ac, ae⟩, ?_⟩
   refine t_l rfl ?_
   refine s_st (b := au) (off := 0) (vs := [I (idxI (readyL ws (orderP ws) (staleL ws rev)) (maxT (readyL ws (orderP ws) (staleL ws rev)) (readyL ws (orderP ws) (staleL ws rev)).length))]) (cs' := [I (idxI (readyL ws (orderP ws) (staleL ws rev)) (maxT (readyL ws (orderP ws) (staleL ws rev)) (readyL ws (orderP ws) (staleL ws rev)).length))]) (v := I (idxI (readyL ws (orderP ws) (staleL ws rev)) (maxT (readyL ws (orderP ws) (staleL ws rev)) (readyL ws (orderP ws) (staleL ws rev)).length))) rfl rfl Sz3 aj rfl rfl rfl rfl rfl ?_
   intro bE aO
   replace E := E.put (by omega) aO
   replace K1 := K1.put aO (by omega)
   replace K18 := K18.put aO (by omega)
   replace K29 := K29.put aO (by omega)
   replace aa := aO.get (by omega) aa
   replace ab := aO.get (by omega) ab
   replace ac := aO.get (by omega) ac
   replace ae := aO.get (by omega) ae
   replace aj := aO.same
   clear aO
   refine s_nil ⟨⟨E, K1, K18, K29, aa, ab, ac, ae⟩, ?_⟩
   refine t_nil ?_
   refine sQ rfl <| s_val (x_ld (p := Pz au) (v := I (idxI (readyL ws (orderP ws) (staleL ws rev)) (maxT (readyL ws (orderP ws) (staleL ws rev)) (readyL ws (orderP ws) (staleL ws rev)).length))) rfl (ldb_sc Sc3 aj rfl)) ?_
   refine s_bs1O (α := Int) T34 ((idxI (readyL ws (orderP ws) (staleL ws rev)) (maxT (readyL ws (orderP ws) (staleL ws rev)) (readyL ws (orderP ws) (staleL ws rev)).length) : Int)) rfl rfl rfl ?_
   intro bP cP bk az
   have n_v44_b2 := bk.ne' (heap_lt aa)
   have n_v44_b9 := bk.ne' (heap_lt ab)
   have n_v44_b19 := bk.ne' (heap_lt ac)
   have n_v44_b30 := bk.ne' (heap_lt ae)
   have n_v44_b40 := bk.ne' (heap_lt aj)
   have am := Nat.le_refl bE.heap.size
   have B_v44 := E.size
   have B_v44_K1 := K1.size
   have B_v44_K18 := K18.size
   have B_v44_K29 := K29.size
   replace E := E.trans az
   replace am := Nat.le_trans am az.size
   replace K1 := K1.ext az
   replace K18 := K18.ext az
   replace K29 := K29.ext az
   replace aa := az.get aa
   replace ab := az.get ab
   replace ac := az.get ac
   replace ae := az.get ae
   replace aj := az.get aj
   clear az
   refine sA bP rfl <| s_nil <| W.seq <| W.block ?_
   refine W.loop (fun m σ W => ∃ (i : Int) (out : List Int) (f : Nat) (vo : Value) (ρ : Env), σ = upds ρ [(2, Pz b2), (10, Pz ak), (11, Pz au), (12, vo)] /\ m = f + 1 /\ Ext w W /\ KF 0 w W /\ KF bb.heap.size bc W /\ W.heap[b2]? = some (.cells #[vw] 22 (0, 0)) /\ W.heap[b9]? = some (.cells #[vw] 187 (0, 0)) /\ W.heap[ax]? = some (.cells (encB (staleL ws rev)).toArray 141 (0, 0)) /\ W.heap[ak]? = some (.cells #[al] 34 (0, 0)) /\ W.heap[au]? = some (.cells #[I i] 3 (0, 0)) /\ bE.heap.size <= W.heap.size /\ OwnF bE.heap.size 3 W vo out /\ vo.ownBlock ≠ some b2 /\ vo.ownBlock ≠ some b9 /\ vo.ownBlock ≠ some ax /\ vo.ownBlock ≠ some ak /\ vo.ownBlock ≠ some au /\ 0 <= i /\ i < (ws.length : Int) /\ posO ws i <= f /\ longF ws (readyL ws (orderP ws) (staleL ws rev)) f i out = longF ws (readyL ws (orderP ws) (staleL ws rev)) ws.length (lastL (readyL ws (orderP ws) (staleL ws rev))) [lastL (readyL ws (orderP ws) (staleL ws rev))] /\ out.length + f <= ws.length + 1) ?_ ?_
   ·exact ⟨_, lastL (readyL ws (orderP ws) (staleL ws rev)), [lastL (readyL ws (orderP ws) (staleL ws rev))], ws.length, bP, _, upds_of _ _ ⟨rfl, rfl, rfl, rfl, trivial⟩, rfl, E, K1, K29, aa, ab, ac, ae, aj, am, bk, n_v44_b2, n_v44_b9, n_v44_b19, n_v44_b30, n_v44_b40, hla.1, (by have := hla.2.1; omega), (Nat.le_of_lt (posO_le (order_all hO hla.1 (by have := hla.2.1; omega)))), rfl, (by simp; omega)⟩
   rintro m σ cQ ⟨i, out, f, vo, ρ, rfl, rfl, E, K1, K29, aa, ab, ac, ae, aj, am, ag, n_vo_b2, n_vo_b9, n_vo_b19, n_vo_b30, n_vo_b40, bf, bg, bQ, bh, bR⟩
   have hof := right_of hR (i := Int.toNat i) (by omega)
   have bS := right_nums hR (i := Int.toNat i) (by omega)
   have hai := readyL_at hR (staleL ws rev) (i := Int.toNat i) (by omega)
   refine W.seq <| W.seq ?_
   refine W.draw (fun W => Ext w W /\ KF 0 w W /\ KF bb.heap.size bc W /\ W.heap[b2]? = some (.cells #[vw] 22 (0, 0)) /\ W.heap[b9]? = some (.cells #[vw] 187 (0, 0)) /\ W.heap[ax]? = some (.cells (encB (staleL ws rev)).toArray 141 (0, 0)) /\ W.heap[ak]? = some (.cells #[al] 34 (0, 0)) /\ W.heap[au]? = some (.cells #[I i] 3 (0, 0)) /\ OwnF bE.heap.size 3 W vo out) [(0, true), (1, true), (2, true), (3, true), (4, true), (5, true), (6, true), (7, true), (8, true), (9, true)] mixed (by decide +kernel) rfl ?_
   intro cR aA
   replace E := E.trans aA
   replace am := Nat.le_trans am aA.size
   replace K1 := K1.ext aA
   replace K29 := K29.ext aA
   replace aa := aA.get aa
   replace ab := aA.get ab
   replace ac := aA.get ac
   replace ae := aA.get ae
   replace aj := aA.get aj
   replace ag := ag.ext aA
   clear aA
   refine ⟨⟨E, K1, K29, aa, ab, ac, ae, aj, ag⟩, ?_⟩
   refine d_q rfl (fun w' hC => by obtain ⟨E, K1, K29, aa, ab, ac, ae, aj, ag⟩ := hC; exact x_ld (p := Pz ak) (v := al) rfl (ldb_sc Sc34 ae rfl)) ?_
   refine d_q rfl (fun w' hC => by obtain ⟨E, K1, K29, aa, ab, ac, ae, aj, ag⟩ := hC; exact x_ld (p := Pz au) (v := I i) rfl (ldb_sc Sc3 aj rfl)) ?_
   refine d_q rfl (fun w' hC => by obtain ⟨E, K1, K29, aa, ab, ac, ae, aj, ag⟩ := hC; exact x_ix (a := al) (b := I i) (v := vat al 1 (Int.toNat i)) rfl rfl (Sl.ix (α := Int) T34.und T34.size (aq.to K29) (by omega) (by omega))) ?_
   refine d_q rfl (fun w' hC => by obtain ⟨E, K1, K29, aa, ab, ac, ae, aj, ag⟩ := hC; exact x_ld (p := vat al 1 (Int.toNat i)) (v := I ((readyL ws (orderP ws) (staleL ws rev)).getD (Int.toNat i) 0)) rfl (ld_sc Sc3 (At.to (Int_at aq (i := i) (by omega) (by omega)) K29))) ?_
   refine d_q rfl (fun w' hC => by obtain ⟨E, K1, K29, aa, ab, ac, ae, aj, ag⟩ := hC; exact x_ld (p := Pz b2) (v := vw) rfl (ldb_sc Sc22 aa rfl)) ?_
   refine d_q rfl (fun w' hC => by obtain ⟨E, K1, K29, aa, ab, ac, ae, aj, ag⟩ := hC; exact x_ld (p := Pz au) (v := I i) rfl (ldb_sc Sc3 aj rfl)) ?_
   refine d_q rfl (fun w' hC => by obtain ⟨E, K1, K29, aa, ab, ac, ae, aj, ag⟩ := hC; exact x_ix (a := vw) (b := I i) (v := vat vw 3 (Int.toNat i)) rfl rfl (Sl.ix (α := Work) T22.und T22.size (hw.to K1) (by omega) (by omega))) ?_
   refine d_q rfl (fun w' hC => by obtain ⟨E, K1, K29, aa, ab, ac, ae, aj, ag⟩ := hC; exact x_fa (a := vat vw 3 (Int.toNat i)) (v := fat (vat vw 3 (Int.toNat i)) 2) rfl (fa_pl Fd60_2 Sz3 (Sl.pl (i := i) hw (by omega) (by omega)))) ?_
   refine d_q rfl (fun w' hC => by obtain ⟨E, K1, K29, aa, ab, ac, ae, aj, ag⟩ := hC; exact x_ld (p := fat (vat vw 3 (Int.toNat i)) 2) (v := I ((ws.getD (Int.toNat i) default).minutes)) rfl (ld_sc Sc3 (At.to (Work_at2 hw (i := i) (by omega) (by omega)) K1))) ?_
   refine d_q rfl (fun w' hC => by obtain ⟨E, K1, K29, aa, ab, ac, ae, aj, ag⟩ := hC; exact x_cmp (kd := .i64) (a := (readyL ws (orderP ws) (staleL ws rev)).getD (Int.toNat i) 0) (b := (ws.getD (Int.toNat i) default).minutes) (r := decide ((((ws.getD (Int.toNat i) default).minutes) : Int) < ((readyL ws (orderP ws) (staleL ws rev)).getD (Int.toNat i) 0))) rfl rfl rfl) ?_
   refine d_nil ?_
   refine W.cond (decide ((((ws.getD (Int.toNat i) default).minutes) : Int) < ((readyL ws (orderP ws) (staleL ws rev)).getD (Int.toNat i) 0))) rfl (fun bl => ?_) (fun bl => ?_)
   ·simp only [qz1, qz2, qz3, qz4, qz5, qz6, ne_eq, qz7] at bl
    have hnx := long_next hO bf bg bl
    have hnx1 := hnx.1
    have hnx2 := hnx.2.1
    refine W.skip <| W.block <| sQ rfl <| s_val (x_ld (p := Pz b2) (v := vw) rfl (ldb_sc Sc22 aa rfl)) <| s_val (x_ld (p := Pz au) (v := I i) rfl (ldb_sc Sc3 aj rfl)) <| s_val (x_ix (a := vw) (b := I i) (v := vat vw 3 (Int.toNat i)) rfl rfl (Sl.ix (α := Work) T22.und T22.size (hw.to K1) (by omega) (by omega))) <| s_val (x_fa (a := vat vw 3 (Int.toNat i)) (v := fat (vat vw 3 (Int.toNat i)) 0) rfl (fa_pl Fd60_0 Sz34 (Sl.pl (i := i) hw (by omega) (by omega)))) ?_
    obtain ⟨bK, cc, bF⟩ := Work_at0 hw (i := i) (by omega) (by omega)
    replace bF : Sl _ bK (ws.getD (Int.toNat i) default).of := bF
    have cS := bF.len_le
    refine s_val (x_ld (p := fat (vat vw 3 (Int.toNat i)) 0) (v := bK) rfl (ld_sc Sc34 (At.to cc K1))) <| s_val (x_mf (fs := []) (cs := [Pz ak, Pz au, Pz b2]) rfl rfl) ?_
    refine s_call cf102 [bK, .func (.func 103) #[] #[Pz ak, Pz au, Pz b2]] rfl (indexFunc_int _ (bF.to K1) ⟨103, [Pz ak, Pz au, Pz b2], rfl, cf103, fun w' v x hE hD hA => by obtain rfl := Arg.int hA; exact (longest1 _ _ _ (hE.get ae) (hE.get aj) (hE.get aa) ((aq.to K29).mono hE.le) ((hw.to K1).mono hE.le) (hof _ hD).1 (by have := (hof _ hD).2.1; omega) bf (by omega) bg (by omega))⟩) ?_
    rintro _ cT ⟨rfl, aB⟩
    replace E := E.trans aB
    replace am := Nat.le_trans am aB.size
    replace K1 := K1.ext aB
    replace K29 := K29.ext aB
    replace aa := aB.get aa
    replace ab := aB.get ab
    replace ac := aB.get ac
    replace ae := aB.get ae
    replace aj := aB.get aj
    replace ag := ag.ext aB
    clear aB
    refine sA (I (idxP (fun z_ : Int => (readyL ws (orderP ws) (staleL ws rev)).getD z_.toNat 0 == (readyL ws (orderP ws) (staleL ws rev)).getD (Int.toNat i) 0 - (ws.getD (Int.toNat i) default).minutes) ((ws.getD (Int.toNat i) default).of))) rfl <| s_nil <| sQ rfl <| s_val (x_ld (p := Pz b2) (v := vw) rfl (ldb_sc Sc22 aa rfl)) <| s_val (x_ld (p := Pz au) (v := I i) rfl (ldb_sc Sc3 aj rfl)) <| s_val (x_ix (a := vw) (b := I i) (v := vat vw 3 (Int.toNat i)) rfl rfl (Sl.ix (α := Work) T22.und T22.size (hw.to K1) (by omega) (by omega))) <| s_val (x_fa (a := vat vw 3 (Int.toNat i)) (v := fat (vat vw 3 (Int.toNat i)) 0) rfl (fa_pl Fd60_0 Sz34 (Sl.pl (i := i) hw (by omega) (by omega)))) ?_
    obtain ⟨bv, cd, bw⟩ := Work_at0 hw (i := i) (by omega) (by omega)
    replace bw : Sl _ bv (ws.getD (Int.toNat i) default).of := bw
    have cU := bw.len_le
    refine s_val (x_ld (p := fat (vat vw 3 (Int.toNat i)) 0) (v := bv) rfl (ld_sc Sc34 (At.to cd K1))) <| sM (I (idxP (fun z_ : Int => (readyL ws (orderP ws) (staleL ws rev)).getD z_.toNat 0 == (readyL ws (orderP ws) (staleL ws rev)).getD (Int.toNat i) 0 - (ws.getD (Int.toNat i) default).minutes) ((ws.getD (Int.toNat i) default).of))) rfl <| s_val (x_ix (a := bv) (b := I (idxP (fun z_ : Int => (readyL ws (orderP ws) (staleL ws rev)).getD z_.toNat 0 == (readyL ws (orderP ws) (staleL ws rev)).getD (Int.toNat i) 0 - (ws.getD (Int.toNat i) default).minutes) ((ws.getD (Int.toNat i) default).of))) (v := vat bv 1 (Int.toNat (idxP (fun z_ : Int => (readyL ws (orderP ws) (staleL ws rev)).getD z_.toNat 0 == (readyL ws (orderP ws) (staleL ws rev)).getD (Int.toNat i) 0 - (ws.getD (Int.toNat i) default).minutes) ((ws.getD (Int.toNat i) default).of)))) rfl rfl (Sl.ix (α := Int) T34.und T34.size (bw.to K1) (by omega) (by omega))) <| s_val (x_ld (p := vat bv 1 (Int.toNat (idxP (fun z_ : Int => (readyL ws (orderP ws) (staleL ws rev)).getD z_.toNat 0 == (readyL ws (orderP ws) (staleL ws rev)).getD (Int.toNat i) 0 - (ws.getD (Int.toNat i) default).minutes) ((ws.getD (Int.toNat i) default).of)))) (v := I (((ws.getD (Int.toNat i) default).of).getD (Int.toNat (idxP (fun z_ : Int => (readyL ws (orderP ws) (staleL ws rev)).getD z_.toNat 0 == (readyL ws (orderP ws) (staleL ws rev)).getD (Int.toNat i) 0 - (ws.getD (Int.toNat i) default).minutes) ((ws.getD (Int.toNat i) default).of))) 0)) rfl (ld_sc Sc3 (At.to (Int_at bw (i := idxP (fun z_ : Int => (readyL ws (orderP ws) (staleL ws rev)).getD z_.toNat 0 == (readyL ws (orderP ws) (staleL ws rev)).getD (Int.toNat i) 0 - (ws.getD (Int.toNat i) default).minutes) ((ws.getD (Int.toNat i) default).of)) (by omega) (by omega)) K1))) ?_
    refine s_st (b := au) (off := 0) (vs := [I (((ws.getD (Int.toNat i) default).of).getD (Int.toNat (idxP (fun z_ : Int => (readyL ws (orderP ws) (staleL ws rev)).getD z_.toNat 0 == (readyL ws (orderP ws) (staleL ws rev)).getD (Int.toNat i) 0 - (ws.getD (Int.toNat i) default).minutes) ((ws.getD (Int.toNat i) default).of))) 0)]) (cs' := [I (((ws.getD (Int.toNat i) default).of).getD (Int.toNat (idxP (fun z_ : Int => (readyL ws (orderP ws) (staleL ws rev)).getD z_.toNat 0 == (readyL ws (orderP ws) (staleL ws rev)).getD (Int.toNat i) 0 - (ws.getD (Int.toNat i) default).minutes) ((ws.getD (Int.toNat i) default).of))) 0)]) (v := I (((ws.getD (Int.toNat i) default).of).getD (Int.toNat (idxP (fun z_ : Int => (readyL ws (orderP ws) (staleL ws rev)).getD z_.toNat 0 == (readyL ws (orderP ws) (staleL ws rev)).getD (Int.toNat i) 0 - (ws.getD (Int.toNat i) default).minutes) ((ws.getD (Int.toNat i) default).of))) 0)) rfl rfl Sz3 aj rfl rfl rfl rfl rfl ?_
    intro bT aC
    replace E := E.put (by omega) aC
    replace am := Nat.le_trans am (Nat.le_of_eq aC.size.symm)
    replace K1 := K1.put aC (by omega)
    replace K29 := K29.put aC (by omega)
    replace aa := aC.get (by omega) aa
    replace ab := aC.get (by omega) ab
    replace ac := aC.get (by omega) ac
    replace ae := aC.get (by omega) ae
    replace ag := ag.put aC n_vo_b40
    replace aj := aC.same
    clear aC
    refine s_nil <| W.region rfl <| sM vo rfl <| s_val (x_ld (p := Pz au) (v := I (((ws.getD (Int.toNat i) default).of).getD (Int.toNat (idxP (fun z_ : Int => (readyL ws (orderP ws) (staleL ws rev)).getD z_.toNat 0 == (readyL ws (orderP ws) (staleL ws rev)).getD (Int.toNat i) 0 - (ws.getD (Int.toNat i) default).minutes) ((ws.getD (Int.toNat i) default).of))) 0)) rfl (ldb_sc Sc3 aj rfl)) ?_
    refine s_bsl (α := Int) T34 bT.heap.size [I (((ws.getD (Int.toNat i) default).of).getD (Int.toNat (idxP (fun z_ : Int => (readyL ws (orderP ws) (staleL ws rev)).getD z_.toNat 0 == (readyL ws (orderP ws) (staleL ws rev)).getD (Int.toNat i) 0 - (ws.getD (Int.toNat i) default).minutes) ((ws.getD (Int.toNat i) default).of))) 0)] [(((ws.getD (Int.toNat i) default).of).getD (Int.toNat (idxP (fun z_ : Int => (readyL ws (orderP ws) (staleL ws rev)).getD z_.toNat 0 == (readyL ws (orderP ws) (staleL ws rev)).getD (Int.toNat i) 0 - (ws.getD (Int.toNat i) default).minutes) ((ws.getD (Int.toNat i) default).of))) 0 : Int)] rfl (.cons rfl (Flat.rep_enc _ _) <| .nil) (Nat.le_refl _) rfl (by decide) (by decide) ?_
    intro ce cf cg aD nn_u61
    replace E := E.trans aD
    replace am := Nat.le_trans am aD.size
    replace K1 := K1.ext aD
    replace K29 := K29.ext aD
    replace aa := aD.get aa
    replace ab := aD.get ab
    replace ac := aD.get ac
    replace ae := aD.get ae
    replace aj := aD.get aj
    replace ag := ag.ext aD
    clear aD
    have K65 := KF.refl bT.heap.size cf
    refine s_app (α := Int) (v := vo) (vy := ce) (l := out) (l2 := [(((ws.getD (Int.toNat i) default).of).getD (Int.toNat (idxP (fun z_ : Int => (readyL ws (orderP ws) (staleL ws rev)).getD z_.toNat 0 == (readyL ws (orderP ws) (staleL ws rev)).getD (Int.toNat i) 0 - (ws.getD (Int.toNat i) default).minutes) ((ws.getD (Int.toNat i) default).of))) 0 : Int)]) T34 rfl rfl ag (cg.to K65) (Cells.Le.refl _) am (by first | omega | (simp only [List.length_append, List.length_cons, List.length_nil, List.length_set]; omega)) (by first | omega | (simp only [List.length_append, List.length_cons, List.length_nil, List.length_set]; omega)) ?_
    intro bU cV ci aP bm
    have n_v66_b19 := bm ax (heap_lt ac) n_vo_b19
    have n_v66_b2 := bm b2 (heap_lt aa) n_vo_b2
    have n_v66_b30 := bm ak (heap_lt ae) n_vo_b30
    have n_v66_b40 := bm au (heap_lt aj) n_vo_b40
    have n_v66_b9 := bm b9 (heap_lt ab) n_vo_b9
    replace E := E.grow aP (by omega)
    replace am := Nat.le_trans am aP.size
    replace K1 := K1.grow aP (by omega)
    replace K29 := K29.grow aP (by omega)
    replace aa := aP.get n_vo_b2 aa
    replace ab := aP.get n_vo_b9 ab
    replace ac := aP.get n_vo_b19 ac
    replace ae := aP.get n_vo_b30 ae
    replace aj := aP.get n_vo_b40 aj
    clear aP bm
    refine sA bU rfl <| s_nil ?_
    exact ⟨_, (by have := hnx.2.2.2.2.1; omega), nextL ws (readyL ws (orderP ws) (staleL ws rev)) i, (out ++ [nextL ws (readyL ws (orderP ws) (staleL ws rev)) i]), (f - 1), bU, _, upds_of _ _ ⟨rfl, rfl, rfl, rfl, trivial⟩, rfl, E, K1, K29, aa, ab, ac, ae, aj, am, ci, n_v66_b2, n_v66_b9, n_v66_b19, n_v66_b30, n_v66_b40, hnx.2.2.1, hnx.2.2.2.1, (by have := hnx.2.2.2.2.1; omega), (by rw [← longF_step (by have := hnx.2.2.2.2.1; omega) bl]; exact bh), (by have := hnx.2.2.2.2.1; simp only [List.length_append, List.length_singleton]; omega)⟩
   simp only [qz1, qz2, qz3, qz4, qz5, qz6, ne_eq, qz7] at bl
   refine W.exit ?_
   refine sQ rfl <| sM vo rfl ?_
   refine s_call cf104 [vo] rfl (reverse_any ag) ?_
   rintro _ cW ⟨rfl, cj, aQ⟩
   replace E := E.grow aQ (by omega)
   replace am := Nat.le_trans am aQ.size
   replace K1 := K1.grow aQ (by omega)
   replace K29 := K29.grow aQ (by omega)
   replace aa := aQ.get n_vo_b2 aa
   replace ab := aQ.get n_vo_b9 ab
   replace ac := aQ.get n_vo_b19 ac
   replace ae := aQ.get n_vo_b30 ae
   replace aj := aQ.get n_vo_b40 aj
   replace ag := cj
   clear aQ
   refine s_nil <| sQ rfl <| sM vo rfl <| sA vo rfl <| sA (I 0) rfl <| s_nil ?_
   refine W.ret ?_
   exact ⟨_, resE_tmp2 rfl, vo, (by rw [(longest_ok h8 ay).1]; rfl), (by have hq := (ag.dn (B' := w.heap.size) (by omega)).sl; rw [(longest_ok h8 ay).2]; unfold longL; rw [← bh, longF_end bl]; exact hq), E⟩
  refine s_alloc (cs := [I 0]) Al3 rfl ?_
  intro av cX Nb76
  have o_K1_b76 := Nat.le_trans K1.size Nb76.ge
  have o_K18_b76 := Nat.le_trans K18.size Nb76.ge
  have o_K29_b76 := Nat.le_trans K29.size Nb76.ge
  have o_b76 := Nat.le_trans E.size Nb76.ge
  have o_b2_b76 := Nat.lt_of_lt_of_le (heap_lt aa) Nb76.ge
  have o_b9_b76 := Nat.lt_of_lt_of_le (heap_lt ab) Nb76.ge
  have o_b19_b76 := Nat.lt_of_lt_of_le (heap_lt ac) Nb76.ge
  have o_b30_b76 := Nat.lt_of_lt_of_le (heap_lt ae) Nb76.ge
  replace E := E.trans Nb76.ext
  replace K1 := K1.ext Nb76.ext
  replace K18 := K18.ext Nb76.ext
  replace K29 := K29.ext Nb76.ext
  replace aa := Nb76.ext.get aa
  replace ab := Nb76.ext.get ab
  replace ac := Nb76.ext.get ac
  replace ae := Nb76.ext.get ae
  have ai := Nb76.same
  clear Nb76
  refine s_nil ⟨⟨E, K1, K18, K29, aa, ab, ac, ae⟩, ?_⟩
  refine t_l rfl ?_
  refine s_call cf100 [al, I (maxT (readyL ws (orderP ws) (staleL ws rev)) (readyL ws (orderP ws) (staleL ws rev)).length)] rfl (index_int (maxT (readyL ws (orderP ws) (staleL ws rev)) (readyL ws (orderP ws) (staleL ws rev)).length) _ (aq.to K29)) ?_
  rintro _ cY ⟨rfl, aR⟩
  replace E := E.trans aR
  replace K1 := K1.ext aR
  replace K18 := K18.ext aR
  replace K29 := K29.ext aR
  replace aa := aR.get aa
  replace ab := aR.get ab
  replace ac := aR.get ac
  replace ae := aR.get ae
  replace ai := aR.get ai
  clear aR
  refine s_nil ⟨⟨E, K1, K18, K29, aa, ab, ac, ae⟩, ?_⟩
  refine t_l rfl ?_
  refine s_st (b := av) (off := 0) (vs := [I (idxI (readyL ws (orderP ws) (staleL ws rev)) (maxT (readyL ws (orderP ws) (staleL ws rev)) (readyL ws (orderP ws) (staleL ws rev)).length))]) (cs' := [I (idxI (readyL ws (orderP ws) (staleL ws rev)) (maxT (readyL ws (orderP ws) (staleL ws rev)) (readyL ws (orderP ws) (staleL ws rev)).length))]) (v := I (idxI (readyL ws (orderP ws) (staleL ws rev)) (maxT (readyL ws (orderP ws) (staleL ws rev)) (readyL ws (orderP ws) (staleL ws rev)).length))) rfl rfl Sz3 ai rfl rfl rfl rfl rfl ?_
  intro bG aS
  replace E := E.put (by omega) aS
  replace K1 := K1.put aS (by omega)
  replace K18 := K18.put aS (by omega)
  replace K29 := K29.put aS (by omega)
  replace aa := aS.get (by omega) aa
  replace ab := aS.get (by omega) ab
  replace ac := aS.get (by omega) ac
  replace ae := aS.get (by omega) ae
  replace ai := aS.same
  clear aS
  refine s_nil ⟨⟨E, K1, K18, K29, aa, ab, ac, ae⟩, ?_⟩
  refine t_nil ?_
  refine sQ rfl <| s_val (x_ld (p := Pz av) (v := I (idxI (readyL ws (orderP ws) (staleL ws rev)) (maxT (readyL ws (orderP ws) (staleL ws rev)) (readyL ws (orderP ws) (staleL ws rev)).length))) rfl (ldb_sc Sc3 ai rfl)) ?_
  refine s_bs1O (α := Int) T34 ((idxI (readyL ws (orderP ws) (staleL ws rev)) (maxT (readyL ws (orderP ws) (staleL ws rev)) (readyL ws (orderP ws) (staleL ws rev)).length) : Int)) rfl rfl rfl ?_
  intro bV cZ bn aE
  have n_v82_b2 := bn.ne' (heap_lt aa)
  have n_v82_b9 := bn.ne' (heap_lt ab)
  have n_v82_b19 := bn.ne' (heap_lt ac)
  have n_v82_b30 := bn.ne' (heap_lt ae)
  have n_v82_b76 := bn.ne' (heap_lt ai)
  have ao := Nat.le_refl bG.heap.size
  have B_v82 := E.size
  have B_v82_K1 := K1.size
  have B_v82_K18 := K18.size
  have B_v82_K29 := K29.size
  replace E := E.trans aE
  replace ao := Nat.le_trans ao aE.size
  replace K1 := K1.ext aE
  replace K18 := K18.ext aE
  replace K29 := K29.ext aE
  replace aa := aE.get aa
  replace ab := aE.get ab
  replace ac := aE.get ac
  replace ae := aE.get ae
  replace ai := aE.get ai
  clear aE
  refine sA bV rfl <| s_nil <| W.seq <| W.block ?_
  refine W.loop (fun m σ W => ∃ (i : Int) (out : List Int) (f : Nat) (vo : Value) (ρ : Env), σ = upds ρ [(2, Pz b2), (10, Pz ak), (11, Pz av), (12, vo)] /\ m = f + 1 /\ Ext w W /\ KF 0 w W /\ KF bb.heap.size bc W /\ W.heap[b2]? = some (.cells #[vw] 22 (0, 0)) /\ W.heap[b9]? = some (.cells #[vw] 187 (0, 0)) /\ W.heap[ax]? = some (.cells (encB (staleL ws rev)).toArray 141 (0, 0)) /\ W.heap[ak]? = some (.cells #[al] 34 (0, 0)) /\ W.heap[av]? = some (.cells #[I i] 3 (0, 0)) /\ bG.heap.size <= W.heap.size /\ OwnF bG.heap.size 3 W vo out /\ vo.ownBlock ≠ some b2 /\ vo.ownBlock ≠ some b9 /\ vo.ownBlock ≠ some ax /\ vo.ownBlock ≠ some ak /\ vo.ownBlock ≠ some av /\ 0 <= i /\ i < (ws.length : Int) /\ posO ws i <= f /\ longF ws (readyL ws (orderP ws) (staleL ws rev)) f i out = longF ws (readyL ws (orderP ws) (staleL ws rev)) ws.length (lastL (readyL ws (orderP ws) (staleL ws rev))) [lastL (readyL ws (orderP ws) (staleL ws rev))] /\ out.length + f <= ws.length + 1) ?_ ?_
  ·exact ⟨_, lastL (readyL ws (orderP ws) (staleL ws rev)), [lastL (readyL ws (orderP ws) (staleL ws rev))], ws.length, bV, _, upds_of _ _ ⟨rfl, rfl, rfl, rfl, trivial⟩, rfl, E, K1, K29, aa, ab, ac, ae, ai, ao, bn, n_v82_b2, n_v82_b9, n_v82_b19, n_v82_b30, n_v82_b76, hla.1, (by have := hla.2.1; omega), (Nat.le_of_lt (posO_le (order_all hO hla.1 (by have := hla.2.1; omega)))), rfl, (by simp; omega)⟩
  rintro m σ da ⟨i, out, f, vo, ρ, rfl, rfl, E, K1, K29, aa, ab, ac, ae, ai, ao, ag, n_vo_b2, n_vo_b9, n_vo_b19, n_vo_b30, n_vo_b76, bf, bg, bQ, bh, bR⟩
  have hof := right_of hR (i := Int.toNat i) (by omega)
  have bS := right_nums hR (i := Int.toNat i) (by omega)
  have hai := readyL_at hR (staleL ws rev) (i := Int.toNat i) (by omega)
  refine W.seq <| W.seq ?_
  refine W.draw (fun W => Ext w W /\ KF 0 w W /\ KF bb.heap.size bc W /\ W.heap[b2]? = some (.cells #[vw] 22 (0, 0)) /\ W.heap[b9]? = some (.cells #[vw] 187 (0, 0)) /\ W.heap[ax]? = some (.cells (encB (staleL ws rev)).toArray 141 (0, 0)) /\ W.heap[ak]? = some (.cells #[al] 34 (0, 0)) /\ W.heap[av]? = some (.cells #[I i] 3 (0, 0)) /\ OwnF bG.heap.size 3 W vo out) [(0, true), (1, true), (2, true), (3, true), (4, true), (5, true), (6, true), (7, true), (8, true), (9, true)] mixed (by decide +kernel) rfl ?_
  intro db aF
  replace E := E.trans aF
  replace ao := Nat.le_trans ao aF.size
  replace K1 := K1.ext aF
  replace K29 := K29.ext aF
  replace aa := aF.get aa
  replace ab := aF.get ab
  replace ac := aF.get ac
  replace ae := aF.get ae
  replace ai := aF.get ai
  replace ag := ag.ext aF
  clear aF
  refine ⟨⟨E, K1, K29, aa, ab, ac, ae, ai, ag⟩, ?_⟩
  refine d_q rfl (fun w' hC => by obtain ⟨E, K1, K29, aa, ab, ac, ae, ai, ag⟩ := hC; exact x_ld (p := Pz ak) (v := al) rfl (ldb_sc Sc34 ae rfl)) ?_
  refine d_q rfl (fun w' hC => by obtain ⟨E, K1, K29, aa, ab, ac, ae, ai, ag⟩ := hC; exact x_ld (p := Pz av) (v := I i) rfl (ldb_sc Sc3 ai rfl)) ?_
  refine d_q rfl (fun w' hC => by obtain ⟨E, K1, K29, aa, ab, ac, ae, ai, ag⟩ := hC; exact x_ix (a := al) (b := I i) (v := vat al 1 (Int.toNat i)) rfl rfl (Sl.ix (α := Int) T34.und T34.size (aq.to K29) (by omega) (by omega))) ?_
  refine d_q rfl (fun w' hC => by obtain ⟨E, K1, K29, aa, ab, ac, ae, ai, ag⟩ := hC; exact x_ld (p := vat al 1 (Int.toNat i)) (v := I ((readyL ws (orderP ws) (staleL ws rev)).getD (Int.toNat i) 0)) rfl (ld_sc Sc3 (At.to (Int_at aq (i := i) (by omega) (by omega)) K29))) ?_
  refine d_q rfl (fun w' hC => by obtain ⟨E, K1, K29, aa, ab, ac, ae, ai, ag⟩ := hC; exact x_ld (p := Pz b2) (v := vw) rfl (ldb_sc Sc22 aa rfl)) ?_
  refine d_q rfl (fun w' hC => by obtain ⟨E, K1, K29, aa, ab, ac, ae, ai, ag⟩ := hC; exact x_ld (p := Pz av) (v := I i) rfl (ldb_sc Sc3 ai rfl)) ?_
  refine d_q rfl (fun w' hC => by obtain ⟨E, K1, K29, aa, ab, ac, ae, ai, ag⟩ := hC; exact x_ix (a := vw) (b := I i) (v := vat vw 3 (Int.toNat i)) rfl rfl (Sl.ix (α := Work) T22.und T22.size (hw.to K1) (by omega) (by omega))) ?_
  refine d_q rfl (fun w' hC => by obtain ⟨E, K1, K29, aa, ab, ac, ae, ai, ag⟩ := hC; exact x_fa (a := vat vw 3 (Int.toNat i)) (v := fat (vat vw 3 (Int.toNat i)) 2) rfl (fa_pl Fd60_2 Sz3 (Sl.pl (i := i) hw (by omega) (by omega)))) ?_
  refine d_q rfl (fun w' hC => by obtain ⟨E, K1, K29, aa, ab, ac, ae, ai, ag⟩ := hC; exact x_ld (p := fat (vat vw 3 (Int.toNat i)) 2) (v := I ((ws.getD (Int.toNat i) default).minutes)) rfl (ld_sc Sc3 (At.to (Work_at2 hw (i := i) (by omega) (by omega)) K1))) ?_
  refine d_q rfl (fun w' hC => by obtain ⟨E, K1, K29, aa, ab, ac, ae, ai, ag⟩ := hC; exact x_cmp (kd := .i64) (a := (readyL ws (orderP ws) (staleL ws rev)).getD (Int.toNat i) 0) (b := (ws.getD (Int.toNat i) default).minutes) (r := decide ((((ws.getD (Int.toNat i) default).minutes) : Int) < ((readyL ws (orderP ws) (staleL ws rev)).getD (Int.toNat i) 0))) rfl rfl rfl) ?_
  refine d_nil ?_
  refine W.cond (decide ((((ws.getD (Int.toNat i) default).minutes) : Int) < ((readyL ws (orderP ws) (staleL ws rev)).getD (Int.toNat i) 0))) rfl (fun bo => ?_) (fun bo => ?_)
  ·simp only [qz1, qz2, qz3, qz4, qz5, qz6, ne_eq, qz7] at bo
   have hnx := long_next hO bf bg bo
   have hnx1 := hnx.1
   have hnx2 := hnx.2.1
   refine W.skip <| W.block <| sQ rfl <| s_val (x_ld (p := Pz b2) (v := vw) rfl (ldb_sc Sc22 aa rfl)) <| s_val (x_ld (p := Pz av) (v := I i) rfl (ldb_sc Sc3 ai rfl)) <| s_val (x_ix (a := vw) (b := I i) (v := vat vw 3 (Int.toNat i)) rfl rfl (Sl.ix (α := Work) T22.und T22.size (hw.to K1) (by omega) (by omega))) <| s_val (x_fa (a := vat vw 3 (Int.toNat i)) (v := fat (vat vw 3 (Int.toNat i)) 0) rfl (fa_pl Fd60_0 Sz34 (Sl.pl (i := i) hw (by omega) (by omega)))) ?_
   obtain ⟨bL, ck, bH⟩ := Work_at0 hw (i := i) (by omega) (by omega)
   replace bH : Sl _ bL (ws.getD (Int.toNat i) default).of := bH
   have dc := bH.len_le
   refine s_val (x_ld (p := fat (vat vw 3 (Int.toNat i)) 0) (v := bL) rfl (ld_sc Sc34 (At.to ck K1))) <| s_val (x_mf (fs := []) (cs := [Pz ak, Pz av, Pz b2]) rfl rfl) ?_
   refine s_call cf102 [bL, .func (.func 103) #[] #[Pz ak, Pz av, Pz b2]] rfl (indexFunc_int _ (bH.to K1) ⟨103, [Pz ak, Pz av, Pz b2], rfl, cf103, fun w' v x hE hD hA => by obtain rfl := Arg.int hA; exact (longest1 _ _ _ (hE.get ae) (hE.get ai) (hE.get aa) ((aq.to K29).mono hE.le) ((hw.to K1).mono hE.le) (hof _ hD).1 (by have := (hof _ hD).2.1; omega) bf (by omega) bg (by omega))⟩) ?_
   rintro _ dd ⟨rfl, aG⟩
   replace E := E.trans aG
   replace ao := Nat.le_trans ao aG.size
   replace K1 := K1.ext aG
   replace K29 := K29.ext aG
   replace aa := aG.get aa
   replace ab := aG.get ab
   replace ac := aG.get ac
   replace ae := aG.get ae
   replace ai := aG.get ai
   replace ag := ag.ext aG
   clear aG
   refine sA (I (idxP (fun z_ : Int => (readyL ws (orderP ws) (staleL ws rev)).getD z_.toNat 0 == (readyL ws (orderP ws) (staleL ws rev)).getD (Int.toNat i) 0 - (ws.getD (Int.toNat i) default).minutes) ((ws.getD (Int.toNat i) default).of))) rfl <| s_nil <| sQ rfl <| s_val (x_ld (p := Pz b2) (v := vw) rfl (ldb_sc Sc22 aa rfl)) <| s_val (x_ld (p := Pz av) (v := I i) rfl (ldb_sc Sc3 ai rfl)) <| s_val (x_ix (a := vw) (b := I i) (v := vat vw 3 (Int.toNat i)) rfl rfl (Sl.ix (α := Work) T22.und T22.size (hw.to K1) (by omega) (by omega))) <| s_val (x_fa (a := vat vw 3 (Int.toNat i)) (v := fat (vat vw 3 (Int.toNat i)) 0) rfl (fa_pl Fd60_0 Sz34 (Sl.pl (i := i) hw (by omega) (by omega)))) ?_
   obtain ⟨bx, cm, bz⟩ := Work_at0 hw (i := i) (by omega) (by omega)
   replace bz : Sl _ bx (ws.getD (Int.toNat i) default).of := bz
   have de := bz.len_le
   refine s_val (x_ld (p := fat (vat vw 3 (Int.toNat i)) 0) (v := bx) rfl (ld_sc Sc34 (At.to cm K1))) <| sM (I (idxP (fun z_ : Int => (readyL ws (orderP ws) (staleL ws rev)).getD z_.toNat 0 == (readyL ws (orderP ws) (staleL ws rev)).getD (Int.toNat i) 0 - (ws.getD (Int.toNat i) default).minutes) ((ws.getD (Int.toNat i) default).of))) rfl <| s_val (x_ix (a := bx) (b := I (idxP (fun z_ : Int => (readyL ws (orderP ws) (staleL ws rev)).getD z_.toNat 0 == (readyL ws (orderP ws) (staleL ws rev)).getD (Int.toNat i) 0 - (ws.getD (Int.toNat i) default).minutes) ((ws.getD (Int.toNat i) default).of))) (v := vat bx 1 (Int.toNat (idxP (fun z_ : Int => (readyL ws (orderP ws) (staleL ws rev)).getD z_.toNat 0 == (readyL ws (orderP ws) (staleL ws rev)).getD (Int.toNat i) 0 - (ws.getD (Int.toNat i) default).minutes) ((ws.getD (Int.toNat i) default).of)))) rfl rfl (Sl.ix (α := Int) T34.und T34.size (bz.to K1) (by omega) (by omega))) <| s_val (x_ld (p := vat bx 1 (Int.toNat (idxP (fun z_ : Int => (readyL ws (orderP ws) (staleL ws rev)).getD z_.toNat 0 == (readyL ws (orderP ws) (staleL ws rev)).getD (Int.toNat i) 0 - (ws.getD (Int.toNat i) default).minutes) ((ws.getD (Int.toNat i) default).of)))) (v := I (((ws.getD (Int.toNat i) default).of).getD (Int.toNat (idxP (fun z_ : Int => (readyL ws (orderP ws) (staleL ws rev)).getD z_.toNat 0 == (readyL ws (orderP ws) (staleL ws rev)).getD (Int.toNat i) 0 - (ws.getD (Int.toNat i) default).minutes) ((ws.getD (Int.toNat i) default).of))) 0)) rfl (ld_sc Sc3 (At.to (Int_at bz (i := idxP (fun z_ : Int => (readyL ws (orderP ws) (staleL ws rev)).getD z_.toNat 0 == (readyL ws (orderP ws) (staleL ws rev)).getD (Int.toNat i) 0 - (ws.getD (Int.toNat i) default).minutes) ((ws.getD (Int.toNat i) default).of)) (by omega) (by omega)) K1))) ?_
   refine s_st (b := av) (off := 0) (vs := [I (((ws.getD (Int.toNat i) default).of).getD (Int.toNat (idxP (fun z_ : Int => (readyL ws (orderP ws) (staleL ws rev)).getD z_.toNat 0 == (readyL ws (orderP ws) (staleL ws rev)).getD (Int.toNat i) 0 - (ws.getD (Int.toNat i) default).minutes) ((ws.getD (Int.toNat i) default).of))) 0)]) (cs' := [I (((ws.getD (Int.toNat i) default).of).getD (Int.toNat (idxP (fun z_ : Int => (readyL ws (orderP ws) (staleL ws rev)).getD z_.toNat 0 == (readyL ws (orderP ws) (staleL ws rev)).getD (Int.toNat i) 0 - (ws.getD (Int.toNat i) default).minutes) ((ws.getD (Int.toNat i) default).of))) 0)]) (v := I (((ws.getD (Int.toNat i) default).of).getD (Int.toNat (idxP (fun z_ : Int => (readyL ws (orderP ws) (staleL ws rev)).getD z_.toNat 0 == (readyL ws (orderP ws) (staleL ws rev)).getD (Int.toNat i) 0 - (ws.getD (Int.toNat i) default).minutes) ((ws.getD (Int.toNat i) default).of))) 0)) rfl rfl Sz3 ai rfl rfl rfl rfl rfl ?_
   intro bW aH
   replace E := E.put (by omega) aH
   replace ao := Nat.le_trans ao (Nat.le_of_eq aH.size.symm)
   replace K1 := K1.put aH (by omega)
   replace K29 := K29.put aH (by omega)
   replace aa := aH.get (by omega) aa
   replace ab := aH.get (by omega) ab
   replace ac := aH.get (by omega) ac
   replace ae := aH.get (by omega) ae
   replace ag := ag.put aH n_vo_b76
   replace ai := aH.same
   clear aH
   refine s_nil <| W.region rfl <| sM vo rfl <| s_val (x_ld (p := Pz av) (v := I (((ws.getD (Int.toNat i) default).of).getD (Int.toNat (idxP (fun z_ : Int => (readyL ws (orderP ws) (staleL ws rev)).getD z_.toNat 0 == (readyL ws (orderP ws) (staleL ws rev)).getD (Int.toNat i) 0 - (ws.getD (Int.toNat i) default).minutes) ((ws.getD (Int.toNat i) default).of))) 0)) rfl (ldb_sc Sc3 ai rfl)) ?_
   refine s_bsl (α := Int) T34 bW.heap.size [I (((ws.getD (Int.toNat i) default).of).getD (Int.toNat (idxP (fun z_ : Int => (readyL ws (orderP ws) (staleL ws rev)).getD z_.toNat 0 == (readyL ws (orderP ws) (staleL ws rev)).getD (Int.toNat i) 0 - (ws.getD (Int.toNat i) default).minutes) ((ws.getD (Int.toNat i) default).of))) 0)] [(((ws.getD (Int.toNat i) default).of).getD (Int.toNat (idxP (fun z_ : Int => (readyL ws (orderP ws) (staleL ws rev)).getD z_.toNat 0 == (readyL ws (orderP ws) (staleL ws rev)).getD (Int.toNat i) 0 - (ws.getD (Int.toNat i) default).minutes) ((ws.getD (Int.toNat i) default).of))) 0 : Int)] rfl (.cons rfl (Flat.rep_enc _ _) <| .nil) (Nat.le_refl _) rfl (by decide) (by decide) ?_
   intro cn co cp aI nn_u99
   replace E := E.trans aI
   replace ao := Nat.le_trans ao aI.size
   replace K1 := K1.ext aI
   replace K29 := K29.ext aI
   replace aa := aI.get aa
   replace ab := aI.get ab
   replace ac := aI.get ac
   replace ae := aI.get ae
   replace ai := aI.get ai
   replace ag := ag.ext aI
   clear aI
   have K103 := KF.refl bW.heap.size co
   refine s_app (α := Int) (v := vo) (vy := cn) (l := out) (l2 := [(((ws.getD (Int.toNat i) default).of).getD (Int.toNat (idxP (fun z_ : Int => (readyL ws (orderP ws) (staleL ws rev)).getD z_.toNat 0 == (readyL ws (orderP ws) (staleL ws rev)).getD (Int.toNat i) 0 - (ws.getD (Int.toNat i) default).minutes) ((ws.getD (Int.toNat i) default).of))) 0 : Int)]) T34 rfl rfl ag (cp.to K103) (Cells.Le.refl _) ao (by first | omega | (simp only [List.length_append, List.length_cons, List.length_nil, List.length_set]; omega)) (by first | omega | (simp only [List.length_append, List.length_cons, List.length_nil, List.length_set]; omega)) ?_
   intro bX dg cq aT bp
   have n_v104_b19 := bp ax (heap_lt ac) n_vo_b19
   have n_v104_b2 := bp b2 (heap_lt aa) n_vo_b2
   have n_v104_b30 := bp ak (heap_lt ae) n_vo_b30
   have n_v104_b76 := bp av (heap_lt ai) n_vo_b76
   have n_v104_b9 := bp b9 (heap_lt ab) n_vo_b9
   replace E := E.grow aT (by omega)
   replace ao := Nat.le_trans ao aT.size
   replace K1 := K1.grow aT (by omega)
   replace K29 := K29.grow aT (by omega)
   replace aa := aT.get n_vo_b2 aa
   replace ab := aT.get n_vo_b9 ab
   replace ac := aT.get n_vo_b19 ac
   replace ae := aT.get n_vo_b30 ae
   replace ai := aT.get n_vo_b76 ai
   clear aT bp
   refine sA bX rfl <| s_nil ?_
   exact ⟨_, (by have := hnx.2.2.2.2.1; omega), nextL ws (readyL ws (orderP ws) (staleL ws rev)) i, (out ++ [nextL ws (readyL ws (orderP ws) (staleL ws rev)) i]), (f - 1), bX, _, upds_of _ _ ⟨rfl, rfl, rfl, rfl, trivial⟩, rfl, E, K1, K29, aa, ab, ac, ae, ai, ao, cq, n_v104_b2, n_v104_b9, n_v104_b19, n_v104_b30, n_v104_b76, hnx.2.2.1, hnx.2.2.2.1, (by have := hnx.2.2.2.2.1; omega), (by rw [← longF_step (by have := hnx.2.2.2.2.1; omega) bo]; exact bh), (by have := hnx.2.2.2.2.1; simp only [List.length_append, List.length_singleton]; omega)⟩
  simp only [qz1, qz2, qz3, qz4, qz5, qz6, ne_eq, qz7] at bo
  refine W.exit ?_
  refine sQ rfl <| sM vo rfl ?_
  refine s_call cf104 [vo] rfl (reverse_any ag) ?_
  rintro _ dh ⟨rfl, cr, aU⟩
  replace E := E.grow aU (by omega)
  replace ao := Nat.le_trans ao aU.size
  replace K1 := K1.grow aU (by omega)
  replace K29 := K29.grow aU (by omega)
  replace aa := aU.get n_vo_b2 aa
  replace ab := aU.get n_vo_b9 ab
  replace ac := aU.get n_vo_b19 ac
  replace ae := aU.get n_vo_b30 ae
  replace ai := aU.get n_vo_b76 ai
  replace ag := cr
  clear aU
  refine s_nil <| sQ rfl <| sM vo rfl <| sA vo rfl <| sA (I 0) rfl <| s_nil ?_
  refine W.ret ?_
  exact ⟨_, resE_tmp2 rfl, vo, (by rw [(longest_ok h8 ay).1]; rfl), (by have hq := (ag.dn (B' := w.heap.size) (by omega)).sl; rw [(longest_ok h8 ay).2]; unfold longL; rw [← bh, longF_end bo]; exact hq), E⟩
 refine s_alloc (cs := [I 0]) Al3 rfl ?_
 intro aw di Nb114
 have o_K1_b114 := Nat.le_trans K1.size Nb114.ge
 have o_K18_b114 := Nat.le_trans K18.size Nb114.ge
 have o_K29_b114 := Nat.le_trans K29.size Nb114.ge
 have o_b114 := Nat.le_trans E.size Nb114.ge
 have o_b2_b114 := Nat.lt_of_lt_of_le (heap_lt aa) Nb114.ge
 have o_b9_b114 := Nat.lt_of_lt_of_le (heap_lt ab) Nb114.ge
 have o_b19_b114 := Nat.lt_of_lt_of_le (heap_lt ac) Nb114.ge
 have o_b30_b114 := Nat.lt_of_lt_of_le (heap_lt ae) Nb114.ge
 replace E := E.trans Nb114.ext
 replace K1 := K1.ext Nb114.ext
 replace K18 := K18.ext Nb114.ext
 replace K29 := K29.ext Nb114.ext
 replace aa := Nb114.ext.get aa
 replace ab := Nb114.ext.get ab
 replace ac := Nb114.ext.get ac
 replace ae := Nb114.ext.get ae
 have ah := Nb114.same
 clear Nb114
 refine s_nil ⟨⟨E, K1, K18, K29, aa, ab, ac, ae⟩, ?_⟩
 refine t_l rfl ?_
 refine s_call cf101 [al] rfl (max_int _ (aq.to K29) (by omega)) ?_
 rintro _ dj ⟨rfl, aV⟩
 replace E := E.trans aV
 replace K1 := K1.ext aV
 replace K18 := K18.ext aV
 replace K29 := K29.ext aV
 replace aa := aV.get aa
 replace ab := aV.get ab
 replace ac := aV.get ac
 replace ae := aV.get ae
 replace ah := aV.get ah
 clear aV
 refine s_nil ⟨⟨E, K1, K18, K29, aa, ab, ac, ae⟩, ?_⟩
 refine t_l rfl ?_
 refine s_call cf100 [al, I (maxT (readyL ws (orderP ws) (staleL ws rev)) (readyL ws (orderP ws) (staleL ws rev)).length)] rfl (index_int (maxT (readyL ws (orderP ws) (staleL ws rev)) (readyL ws (orderP ws) (staleL ws rev)).length) _ (aq.to K29)) ?_
 rintro _ dk ⟨rfl, aW⟩
 replace E := E.trans aW
 replace K1 := K1.ext aW
 replace K18 := K18.ext aW
 replace K29 := K29.ext aW
 replace aa := aW.get aa
 replace ab := aW.get ab
 replace ac := aW.get ac
 replace ae := aW.get ae
 replace ah := aW.get ah
 clear aW
 refine s_nil ⟨⟨E, K1, K18, K29, aa, ab, ac, ae⟩, ?_⟩
 refine t_l rfl ?_
 refine s_st (b := aw) (off := 0) (vs := [I (idxI (readyL ws (orderP ws) (staleL ws rev)) (maxT (readyL ws (orderP ws) (staleL ws rev)) (readyL ws (orderP ws) (staleL ws rev)).length))]) (cs' := [I (idxI (readyL ws (orderP ws) (staleL ws rev)) (maxT (readyL ws (orderP ws) (staleL ws rev)) (readyL ws (orderP ws) (staleL ws rev)).length))]) (v := I (idxI (readyL ws (orderP ws) (staleL ws rev)) (maxT (readyL ws (orderP ws) (staleL ws rev)) (readyL ws (orderP ws) (staleL ws rev)).length))) rfl rfl Sz3 ah rfl rfl rfl rfl rfl ?_
 intro bI aX
 replace E := E.put (by omega) aX
 replace K1 := K1.put aX (by omega)
 replace K18 := K18.put aX (by omega)
 replace K29 := K29.put aX (by omega)
 replace aa := aX.get (by omega) aa
 replace ab := aX.get (by omega) ab
 replace ac := aX.get (by omega) ac
 replace ae := aX.get (by omega) ae
 replace ah := aX.same
 clear aX
 refine s_nil ⟨⟨E, K1, K18, K29, aa, ab, ac, ae⟩, ?_⟩
 refine t_nil ?_
 refine sQ rfl <| s_val (x_ld (p := Pz aw) (v := I (idxI (readyL ws (orderP ws) (staleL ws rev)) (maxT (readyL ws (orderP ws) (staleL ws rev)) (readyL ws (orderP ws) (staleL ws rev)).length))) rfl (ldb_sc Sc3 ah rfl)) ?_
 refine s_bs1O (α := Int) T34 ((idxI (readyL ws (orderP ws) (staleL ws rev)) (maxT (readyL ws (orderP ws) (staleL ws rev)) (readyL ws (orderP ws) (staleL ws rev)).length) : Int)) rfl rfl rfl ?_
 intro bY dl bq aJ
 have n_v122_b2 := bq.ne' (heap_lt aa)
 have n_v122_b9 := bq.ne' (heap_lt ab)
 have n_v122_b19 := bq.ne' (heap_lt ac)
 have n_v122_b30 := bq.ne' (heap_lt ae)
 have n_v122_b114 := bq.ne' (heap_lt ah)
 have ap := Nat.le_refl bI.heap.size
 have B_v122 := E.size
 have B_v122_K1 := K1.size
 have B_v122_K18 := K18.size
 have B_v122_K29 := K29.size
 replace E := E.trans aJ
 replace ap := Nat.le_trans ap aJ.size
 replace K1 := K1.ext aJ
 replace K18 := K18.ext aJ
 replace K29 := K29.ext aJ
 replace aa := aJ.get aa
 replace ab := aJ.get ab
 replace ac := aJ.get ac
 replace ae := aJ.get ae
 replace ah := aJ.get ah
 clear aJ
 refine sA bY rfl <| s_nil <| W.seq <| W.block ?_
 refine W.loop (fun m σ W => ∃ (i : Int) (out : List Int) (f : Nat) (vo : Value) (ρ : Env), σ = upds ρ [(2, Pz b2), (10, Pz ak), (11, Pz aw), (12, vo)] /\ m = f + 1 /\ Ext w W /\ KF 0 w W /\ KF bb.heap.size bc W /\ W.heap[b2]? = some (.cells #[vw] 22 (0, 0)) /\ W.heap[b9]? = some (.cells #[vw] 187 (0, 0)) /\ W.heap[ax]? = some (.cells (encB (staleL ws rev)).toArray 141 (0, 0)) /\ W.heap[ak]? = some (.cells #[al] 34 (0, 0)) /\ W.heap[aw]? = some (.cells #[I i] 3 (0, 0)) /\ bI.heap.size <= W.heap.size /\ OwnF bI.heap.size 3 W vo out /\ vo.ownBlock ≠ some b2 /\ vo.ownBlock ≠ some b9 /\ vo.ownBlock ≠ some ax /\ vo.ownBlock ≠ some ak /\ vo.ownBlock ≠ some aw /\ 0 <= i /\ i < (ws.length : Int) /\ posO ws i <= f /\ longF ws (readyL ws (orderP ws) (staleL ws rev)) f i out = longF ws (readyL ws (orderP ws) (staleL ws rev)) ws.length (lastL (readyL ws (orderP ws) (staleL ws rev))) [lastL (readyL ws (orderP ws) (staleL ws rev))] /\ out.length + f <= ws.length + 1) ?_ ?_
 ·exact ⟨_, lastL (readyL ws (orderP ws) (staleL ws rev)), [lastL (readyL ws (orderP ws) (staleL ws rev))], ws.length, bY, _, upds_of _ _ ⟨rfl, rfl, rfl, rfl, trivial⟩, rfl, E, K1, K29, aa, ab, ac, ae, ah, ap, bq, n_v122_b2, n_v122_b9, n_v122_b19, n_v122_b30, n_v122_b114, hla.1, (by have := hla.2.1; omega), (Nat.le_of_lt (posO_le (order_all hO hla.1 (by have := hla.2.1; omega)))), rfl, (by simp; omega)⟩
 rintro m σ dm ⟨i, out, f, vo, ρ, rfl, rfl, E, K1, K29, aa, ab, ac, ae, ah, ap, ag, n_vo_b2, n_vo_b9, n_vo_b19, n_vo_b30, n_vo_b114, bf, bg, bQ, bh, bR⟩
 have hof := right_of hR (i := Int.toNat i) (by omega)
 have bS := right_nums hR (i := Int.toNat i) (by omega)
 have hai := readyL_at hR (staleL ws rev) (i := Int.toNat i) (by omega)
 refine W.seq <| W.seq ?_
 refine W.draw (fun W => Ext w W /\ KF 0 w W /\ KF bb.heap.size bc W /\ W.heap[b2]? = some (.cells #[vw] 22 (0, 0)) /\ W.heap[b9]? = some (.cells #[vw] 187 (0, 0)) /\ W.heap[ax]? = some (.cells (encB (staleL ws rev)).toArray 141 (0, 0)) /\ W.heap[ak]? = some (.cells #[al] 34 (0, 0)) /\ W.heap[aw]? = some (.cells #[I i] 3 (0, 0)) /\ OwnF bI.heap.size 3 W vo out) [(0, true), (1, true), (2, true), (3, true), (4, true), (5, true), (6, true), (7, true), (8, true), (9, true)] mixed (by decide +kernel) rfl ?_
 intro dp aK
 replace E := E.trans aK
 replace ap := Nat.le_trans ap aK.size
 replace K1 := K1.ext aK
 replace K29 := K29.ext aK
 replace aa := aK.get aa
 replace ab := aK.get ab
 replace ac := aK.get ac
 replace ae := aK.get ae
 replace ah := aK.get ah
 replace ag := ag.ext aK
 clear aK
 refine ⟨⟨E, K1, K29, aa, ab, ac, ae, ah, ag⟩, ?_⟩
 refine d_q rfl (fun w' hC => by obtain ⟨E, K1, K29, aa, ab, ac, ae, ah, ag⟩ := hC; exact x_ld (p := Pz ak) (v := al) rfl (ldb_sc Sc34 ae rfl)) ?_
 refine d_q rfl (fun w' hC => by obtain ⟨E, K1, K29, aa, ab, ac, ae, ah, ag⟩ := hC; exact x_ld (p := Pz aw) (v := I i) rfl (ldb_sc Sc3 ah rfl)) ?_
 refine d_q rfl (fun w' hC => by obtain ⟨E, K1, K29, aa, ab, ac, ae, ah, ag⟩ := hC; exact x_ix (a := al) (b := I i) (v := vat al 1 (Int.toNat i)) rfl rfl (Sl.ix (α := Int) T34.und T34.size (aq.to K29) (by omega) (by omega))) ?_
 refine d_q rfl (fun w' hC => by obtain ⟨E, K1, K29, aa, ab, ac, ae, ah, ag⟩ := hC; exact x_ld (p := vat al 1 (Int.toNat i)) (v := I ((readyL ws (orderP ws) (staleL ws rev)).getD (Int.toNat i) 0)) rfl (ld_sc Sc3 (At.to (Int_at aq (i := i) (by omega) (by omega)) K29))) ?_
 refine d_q rfl (fun w' hC => by obtain ⟨E, K1, K29, aa, ab, ac, ae, ah, ag⟩ := hC; exact x_ld (p := Pz b2) (v := vw) rfl (ldb_sc Sc22 aa rfl)) ?_
 refine d_q rfl (fun w' hC => by obtain ⟨E, K1, K29, aa, ab, ac, ae, ah, ag⟩ := hC; exact x_ld (p := Pz aw) (v := I i) rfl (ldb_sc Sc3 ah rfl)) ?_
 refine d_q rfl (fun w' hC => by obtain ⟨E, K1, K29, aa, ab, ac, ae, ah, ag⟩ := hC; exact x_ix (a := vw) (b := I i) (v := vat vw 3 (Int.toNat i)) rfl rfl (Sl.ix (α := Work) T22.und T22.size (hw.to K1) (by omega) (by omega))) ?_
 refine d_q rfl (fun w' hC => by obtain ⟨E, K1, K29, aa, ab, ac, ae, ah, ag⟩ := hC; exact x_fa (a := vat vw 3 (Int.toNat i)) (v := fat (vat vw 3 (Int.toNat i)) 2) rfl (fa_pl Fd60_2 Sz3 (Sl.pl (i := i) hw (by omega) (by omega)))) ?_
 refine d_q rfl (fun w' hC => by obtain ⟨E, K1, K29, aa, ab, ac, ae, ah, ag⟩ := hC; exact x_ld (p := fat (vat vw 3 (Int.toNat i)) 2) (v := I ((ws.getD (Int.toNat i) default).minutes)) rfl (ld_sc Sc3 (At.to (Work_at2 hw (i := i) (by omega) (by omega)) K1))) ?_
 refine d_q rfl (fun w' hC => by obtain ⟨E, K1, K29, aa, ab, ac, ae, ah, ag⟩ := hC; exact x_cmp (kd := .i64) (a := (readyL ws (orderP ws) (staleL ws rev)).getD (Int.toNat i) 0) (b := (ws.getD (Int.toNat i) default).minutes) (r := decide ((((ws.getD (Int.toNat i) default).minutes) : Int) < ((readyL ws (orderP ws) (staleL ws rev)).getD (Int.toNat i) 0))) rfl rfl rfl) ?_
 refine d_nil ?_
 refine W.cond (decide ((((ws.getD (Int.toNat i) default).minutes) : Int) < ((readyL ws (orderP ws) (staleL ws rev)).getD (Int.toNat i) 0))) rfl (fun br => ?_) (fun br => ?_)
 ·simp only [qz1, qz2, qz3, qz4, qz5, qz6, ne_eq, qz7] at br
  have hnx := long_next hO bf bg br
  have hnx1 := hnx.1
  have hnx2 := hnx.2.1
  refine W.skip <| W.block <| sQ rfl <| s_val (x_ld (p := Pz b2) (v := vw) rfl (ldb_sc Sc22 aa rfl)) <| s_val (x_ld (p := Pz aw) (v := I i) rfl (ldb_sc Sc3 ah rfl)) <| s_val (x_ix (a := vw) (b := I i) (v := vat vw 3 (Int.toNat i)) rfl rfl (Sl.ix (α := Work) T22.und T22.size (hw.to K1) (by omega) (by omega))) <| s_val (x_fa (a := vat vw 3 (Int.toNat i)) (v := fat (vat vw 3 (Int.toNat i)) 0) rfl (fa_pl Fd60_0 Sz34 (Sl.pl (i := i) hw (by omega) (by omega)))) ?_
  obtain ⟨bM, ct, bJ⟩ := Work_at0 hw (i := i) (by omega) (by omega)
  replace bJ : Sl _ bM (ws.getD (Int.toNat i) default).of := bJ
  have dq := bJ.len_le
  refine s_val (x_ld (p := fat (vat vw 3 (Int.toNat i)) 0) (v := bM) rfl (ld_sc Sc34 (At.to ct K1))) <| s_val (x_mf (fs := []) (cs := [Pz ak, Pz aw, Pz b2]) rfl rfl) ?_
  refine s_call cf102 [bM, .func (.func 103) #[] #[Pz ak, Pz aw, Pz b2]] rfl (indexFunc_int _ (bJ.to K1) ⟨103, [Pz ak, Pz aw, Pz b2], rfl, cf103, fun w' v x hE hD hA => by obtain rfl := Arg.int hA; exact (longest1 _ _ _ (hE.get ae) (hE.get ah) (hE.get aa) ((aq.to K29).mono hE.le) ((hw.to K1).mono hE.le) (hof _ hD).1 (by have := (hof _ hD).2.1; omega) bf (by omega) bg (by omega))⟩) ?_
  rintro _ dr ⟨rfl, aL⟩
  replace E := E.trans aL
  replace ap := Nat.le_trans ap aL.size
  replace K1 := K1.ext aL
  replace K29 := K29.ext aL
  replace aa := aL.get aa
  replace ab := aL.get ab
  replace ac := aL.get ac
  replace ae := aL.get ae
  replace ah := aL.get ah
  replace ag := ag.ext aL
  clear aL
  refine sA (I (idxP (fun z_ : Int => (readyL ws (orderP ws) (staleL ws rev)).getD z_.toNat 0 == (readyL ws (orderP ws) (staleL ws rev)).getD (Int.toNat i) 0 - (ws.getD (Int.toNat i) default).minutes) ((ws.getD (Int.toNat i) default).of))) rfl <| s_nil <| sQ rfl <| s_val (x_ld (p := Pz b2) (v := vw) rfl (ldb_sc Sc22 aa rfl)) <| s_val (x_ld (p := Pz aw) (v := I i) rfl (ldb_sc Sc3 ah rfl)) <| s_val (x_ix (a := vw) (b := I i) (v := vat vw 3 (Int.toNat i)) rfl rfl (Sl.ix (α := Work) T22.und T22.size (hw.to K1) (by omega) (by omega))) <| s_val (x_fa (a := vat vw 3 (Int.toNat i)) (v := fat (vat vw 3 (Int.toNat i)) 0) rfl (fa_pl Fd60_0 Sz34 (Sl.pl (i := i) hw (by omega) (by omega)))) ?_
  obtain ⟨bA, cu, bB⟩ := Work_at0 hw (i := i) (by omega) (by omega)
  replace bB : Sl _ bA (ws.getD (Int.toNat i) default).of := bB
  have dt := bB.len_le
  refine s_val (x_ld (p := fat (vat vw 3 (Int.toNat i)) 0) (v := bA) rfl (ld_sc Sc34 (At.to cu K1))) <| sM (I (idxP (fun z_ : Int => (readyL ws (orderP ws) (staleL ws rev)).getD z_.toNat 0 == (readyL ws (orderP ws) (staleL ws rev)).getD (Int.toNat i) 0 - (ws.getD (Int.toNat i) default).minutes) ((ws.getD (Int.toNat i) default).of))) rfl <| s_val (x_ix (a := bA) (b := I (idxP (fun z_ : Int => (readyL ws (orderP ws) (staleL ws rev)).getD z_.toNat 0 == (readyL ws (orderP ws) (staleL ws rev)).getD (Int.toNat i) 0 - (ws.getD (Int.toNat i) default).minutes) ((ws.getD (Int.toNat i) default).of))) (v := vat bA 1 (Int.toNat (idxP (fun z_ : Int => (readyL ws (orderP ws) (staleL ws rev)).getD z_.toNat 0 == (readyL ws (orderP ws) (staleL ws rev)).getD (Int.toNat i) 0 - (ws.getD (Int.toNat i) default).minutes) ((ws.getD (Int.toNat i) default).of)))) rfl rfl (Sl.ix (α := Int) T34.und T34.size (bB.to K1) (by omega) (by omega))) <| s_val (x_ld (p := vat bA 1 (Int.toNat (idxP (fun z_ : Int => (readyL ws (orderP ws) (staleL ws rev)).getD z_.toNat 0 == (readyL ws (orderP ws) (staleL ws rev)).getD (Int.toNat i) 0 - (ws.getD (Int.toNat i) default).minutes) ((ws.getD (Int.toNat i) default).of)))) (v := I (((ws.getD (Int.toNat i) default).of).getD (Int.toNat (idxP (fun z_ : Int => (readyL ws (orderP ws) (staleL ws rev)).getD z_.toNat 0 == (readyL ws (orderP ws) (staleL ws rev)).getD (Int.toNat i) 0 - (ws.getD (Int.toNat i) default).minutes) ((ws.getD (Int.toNat i) default).of))) 0)) rfl (ld_sc Sc3 (At.to (Int_at bB (i := idxP (fun z_ : Int => (readyL ws (orderP ws) (staleL ws rev)).getD z_.toNat 0 == (readyL ws (orderP ws) (staleL ws rev)).getD (Int.toNat i) 0 - (ws.getD (Int.toNat i) default).minutes) ((ws.getD (Int.toNat i) default).of)) (by omega) (by omega)) K1))) ?_
  refine s_st (b := aw) (off := 0) (vs := [I (((ws.getD (Int.toNat i) default).of).getD (Int.toNat (idxP (fun z_ : Int => (readyL ws (orderP ws) (staleL ws rev)).getD z_.toNat 0 == (readyL ws (orderP ws) (staleL ws rev)).getD (Int.toNat i) 0 - (ws.getD (Int.toNat i) default).minutes) ((ws.getD (Int.toNat i) default).of))) 0)]) (cs' := [I (((ws.getD (Int.toNat i) default).of).getD (Int.toNat (idxP (fun z_ : Int => (readyL ws (orderP ws) (staleL ws rev)).getD z_.toNat 0 == (readyL ws (orderP ws) (staleL ws rev)).getD (Int.toNat i) 0 - (ws.getD (Int.toNat i) default).minutes) ((ws.getD (Int.toNat i) default).of))) 0)]) (v := I (((ws.getD (Int.toNat i) default).of).getD (Int.toNat (idxP (fun z_ : Int => (readyL ws (orderP ws) (staleL ws rev)).getD z_.toNat 0 == (readyL ws (orderP ws) (staleL ws rev)).getD (Int.toNat i) 0 - (ws.getD (Int.toNat i) default).minutes) ((ws.getD (Int.toNat i) default).of))) 0)) rfl rfl Sz3 ah rfl rfl rfl rfl rfl ?_
  intro bZ aM
  replace E := E.put (by omega) aM
  replace ap := Nat.le_trans ap (Nat.le_of_eq aM.size.symm)
  replace K1 := K1.put aM (by omega)
  replace K29 := K29.put aM (by omega)
  replace aa := aM.get (by omega) aa
  replace ab := aM.get (by omega) ab
  replace ac := aM.get (by omega) ac
  replace ae := aM.get (by omega) ae
  replace ag := ag.put aM n_vo_b114
  replace ah := aM.same
  clear aM
  refine s_nil <| W.region rfl <| sM vo rfl <| s_val (x_ld (p := Pz aw) (v := I (((ws.getD (Int.toNat i) default).of).getD (Int.toNat (idxP (fun z_ : Int => (readyL ws (orderP ws) (staleL ws rev)).getD z_.toNat 0 == (readyL ws (orderP ws) (staleL ws rev)).getD (Int.toNat i) 0 - (ws.getD (Int.toNat i) default).minutes) ((ws.getD (Int.toNat i) default).of))) 0)) rfl (ldb_sc Sc3 ah rfl)) ?_
  refine s_bsl (α := Int) T34 bZ.heap.size [I (((ws.getD (Int.toNat i) default).of).getD (Int.toNat (idxP (fun z_ : Int => (readyL ws (orderP ws) (staleL ws rev)).getD z_.toNat 0 == (readyL ws (orderP ws) (staleL ws rev)).getD (Int.toNat i) 0 - (ws.getD (Int.toNat i) default).minutes) ((ws.getD (Int.toNat i) default).of))) 0)] [(((ws.getD (Int.toNat i) default).of).getD (Int.toNat (idxP (fun z_ : Int => (readyL ws (orderP ws) (staleL ws rev)).getD z_.toNat 0 == (readyL ws (orderP ws) (staleL ws rev)).getD (Int.toNat i) 0 - (ws.getD (Int.toNat i) default).minutes) ((ws.getD (Int.toNat i) default).of))) 0 : Int)] rfl (.cons rfl (Flat.rep_enc _ _) <| .nil) (Nat.le_refl _) rfl (by decide) (by decide) ?_
  intro cv cw cx aN nn_u139
  replace E := E.trans aN
  replace ap := Nat.le_trans ap aN.size
  replace K1 := K1.ext aN
  replace K29 := K29.ext aN
  replace aa := aN.get aa
  replace ab := aN.get ab
  replace ac := aN.get ac
  replace ae := aN.get ae
  replace ah := aN.get ah
  replace ag := ag.ext aN
  clear aN
  have K143 := KF.refl bZ.heap.size cw
  refine s_app (α := Int) (v := vo) (vy := cv) (l := out) (l2 := [(((ws.getD (Int.toNat i) default).of).getD (Int.toNat (idxP (fun z_ : Int => (readyL ws (orderP ws) (staleL ws rev)).getD z_.toNat 0 == (readyL ws (orderP ws) (staleL ws rev)).getD (Int.toNat i) 0 - (ws.getD (Int.toNat i) default).minutes) ((ws.getD (Int.toNat i) default).of))) 0 : Int)]) T34 rfl rfl ag (cx.to K143) (Cells.Le.refl _) ap (by first | omega | (simp only [List.length_append, List.length_cons, List.length_nil, List.length_set]; omega)) (by first | omega | (simp only [List.length_append, List.length_cons, List.length_nil, List.length_set]; omega)) ?_
  intro b6 du cy aY bt
  have n_v144_b114 := bt aw (heap_lt ah) n_vo_b114
  have n_v144_b19 := bt ax (heap_lt ac) n_vo_b19
  have n_v144_b2 := bt b2 (heap_lt aa) n_vo_b2
  have n_v144_b30 := bt ak (heap_lt ae) n_vo_b30
  have n_v144_b9 := bt b9 (heap_lt ab) n_vo_b9
  replace E := E.grow aY (by omega)
  replace ap := Nat.le_trans ap aY.size
  replace K1 := K1.grow aY (by omega)
  replace K29 := K29.grow aY (by omega)
  replace aa := aY.get n_vo_b2 aa
  replace ab := aY.get n_vo_b9 ab
  replace ac := aY.get n_vo_b19 ac
  replace ae := aY.get n_vo_b30 ae
  replace ah := aY.get n_vo_b114 ah
  clear aY bt
  refine sA b6 rfl <| s_nil ?_
  exact ⟨_, (by have := hnx.2.2.2.2.1; omega), nextL ws (readyL ws (orderP ws) (staleL ws rev)) i, (out ++ [nextL ws (readyL ws (orderP ws) (staleL ws rev)) i]), (f - 1), b6, _, upds_of _ _ ⟨rfl, rfl, rfl, rfl, trivial⟩, rfl, E, K1, K29, aa, ab, ac, ae, ah, ap, cy, n_v144_b2, n_v144_b9, n_v144_b19, n_v144_b30, n_v144_b114, hnx.2.2.1, hnx.2.2.2.1, (by have := hnx.2.2.2.2.1; omega), (by rw [← longF_step (by have := hnx.2.2.2.2.1; omega) br]; exact bh), (by have := hnx.2.2.2.2.1; simp only [List.length_append, List.length_singleton]; omega)⟩
 simp only [qz1, qz2, qz3, qz4, qz5, qz6, ne_eq, qz7] at br
 refine W.exit ?_
 refine sQ rfl <| sM vo rfl ?_
 refine s_call cf104 [vo] rfl (reverse_any ag) ?_
 rintro _ dv ⟨rfl, cz, aZ⟩
 replace E := E.grow aZ (by omega)
 replace ap := Nat.le_trans ap aZ.size
 replace K1 := K1.grow aZ (by omega)
 replace K29 := K29.grow aZ (by omega)
 replace aa := aZ.get n_vo_b2 aa
 replace ab := aZ.get n_vo_b9 ab
 replace ac := aZ.get n_vo_b19 ac
 replace ae := aZ.get n_vo_b30 ae
 replace ah := aZ.get n_vo_b114 ah
 replace ag := cz
 clear aZ
 refine s_nil <| sQ rfl <| sM vo rfl <| sA vo rfl <| sA (I 0) rfl <| s_nil ?_
 refine W.ret ?_
 exact ⟨_, resE_tmp2 rfl, vo, (by rw [(longest_ok h8 ay).1]; rfl), (by have hq := (ag.dn (B' := w.heap.size) (by omega)).sl; rw [(longest_ok h8 ay).2]; unfold longL; rw [← bh, longF_end br]; exact hq), E⟩

end Go.Proofs.Ytndobgodeicloaa
end
