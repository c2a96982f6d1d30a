/- Part 4 of the texts on which the proof rests. Conditions: none. -/
import Derived.Test.YtndobgodeicloaaZ3
set_option linter.unusedVariables false
set_option linter.unusedSimpArgs false
set_option linter.unusedSectionVars false
namespace Go.Nm
open Go
theorem Ext.allocObj (w : World) (o : Obj) (ho : ∀ c e fr, o ≠ .cells c e fr) : Ext w (w.alloc o) := by
  refine ⟨rfl, rfl, by rw [World.size_alloc]; omega, fun b hb => ?_, fun a => ?_⟩
  · show (w.heap.push o)[b]? = _
    rw [Array.getElem?_push]
    rw [if_neg (by omega)]
  · unfold World.frozen?
    show (match (w.heap.push o)[a.block]? with | some (.cells _ _ (lo, hi)) => _ | _ => _) = _
    rw [Array.getElem?_push]
    by_cases e : a.block = w.heap.size
    · rw [if_pos e, e]
      have : w.heap[w.heap.size]? = none := by simp
      rw [this]
      cases o with
      | cells c e fr => exact absurd rfl (ho c e fr)
      | _ => rfl
    · rw [if_neg e]
      rfl
/-- What the record of the loop bears. -/
structure RecOf (r : Loop) (n : Nat) (σ : Env) (ps : Array Tmp) (assign body : Code) : Prop where
  st : r.state = .ready
  pd : r.pending = none
  sz : r.tmps.size = n
  get : ∀ k, r.tmps.getD k undef = σ k
  ps : r.params = ps
  asg : r.assign = assign
  body : r.body = body
section
variable {P : Program} {n : Nat} {σ : Env} {w0 w : World} {L R T : List Chunk} {Ds : List Nat}
theorem WD.range {Q : PostD} {g : Operand} {ps : Array Tmp} {assign body : Code} {f : FuncId} (cap : List Value) (H : St w0 w (cMk Ds :: L) R) (hg : ev σ g = .func (.func f) #[] cap.toArray) (hcf : CF P f)
    (k : ∀ (l D : Nat) (r : Loop) (w1 : World), RecOf r n σ ps assign body → St w0 w1 (cObj l (.loop r) :: cMk (D :: Ds) :: L) R →
      Ret P f (.func (.yield l) #[] #[] :: cap).toArray w1 fun _ w2 => ∃ (r' : Loop) (L' : List Chunk), St w0 w2 (cObj l (.loop r') :: cMk (D :: Ds) :: L') R ∧ r'.state ≠ .busy ∧
        ∀ w3, St w0 w3 (cMk (D :: Ds) :: L') R → match r'.pending with
          | none => Q .normal (D :: Ds) σ w3
          | some c => WD P n (D :: Ds) c Q σ w3) :
    WD P n Ds (.rangeFunc g ps assign body) Q σ w := by
  intro a ha
  refine wpIn_rangeFunc fun fn _ => ?_
  have h1 := (H.allocObj (.deferred (some [])) (Ext.allocObj _ _ (by simp))).mkCons
  have h2 := h1.allocObj (.loop { state := .ready, pending := none, fn, tmps := a.tmps, params := ps, assign, body, defers := w.heap.size }) (Ext.allocObj _ _ (by simp))
  rw [World.size_alloc] at h2
  have hk := k (w.heap.size + 1) w.heap.size _ _ ⟨rfl, rfl, ha.sz, ha.get, rfl, rfl, rfl⟩ h2
  have hent := run_enterLoop_outer (P := P) (w := w) fn a.tmps ps assign body
  generalize (w.alloc (.deferred (some []))).alloc (.loop { state := .ready, pending := none, fn, tmps := a.tmps, params := ps, assign, body, defers := w.heap.size }) = W1 at hk hent
  refine ⟨w.heap.size + 1, [mkD w.heap.size], W1, { target := .fn (.func f) cap.toArray, args := #[.func (.yield (w.heap.size + 1)) #[] #[]] }, W1, f, (.func (.yield (w.heap.size + 1)) #[] #[] :: cap).toArray, W1, hent, ?_, fun _ _ => trivial, ?_, fun hc => by simp [FR, Fence.wide] at hc, ?_⟩
  · rw [ha.eval]
    have he : ev σ (.const (.func (.yield (w.heap.size + 1)) #[] #[])) = .func (.yield (w.heap.size + 1)) #[] #[] := rfl
    simp [resolve, rangeCall, hg, Deferred.ofValue, he]
  · simp [invoke, run_callFunc hcf]
  · refine CallsIn.mono (callsFR hk) ?_
    · rintro e w2 ⟨v, rfl, r', L', H', hb, hq⟩
      have hl := H'.get (k := 0) rfl
      refine ⟨_, _, run_endLoop hl hb, ?_⟩
      have hq := hq _ (H'.putObj (o' := .loop { r' with state := .exhausted }) (by simp) (by simp)).tail
      have hfr : Fr ((w.heap.size :: Ds).map mkD) n σ { a with defers := [mkD w.heap.size] ++ a.defers } := ⟨by show [mkD w.heap.size] ++ a.defers = _; rw [ha.df]; rfl, ha.sz, ha.get⟩
      cases hp : r'.pending with
      | none => rw [hp] at hq; exact ⟨_, _, hfr, hq⟩
      | some c => rw [hp] at hq; exact hq _ hfr
def setP (σ : Env) (ps : List Tmp) (vs : List Value) : Env := (ps.zip vs).foldl (fun σ x => upd σ x.1 x.2) σ
theorem setP_get {n : Nat} : ∀ (ps : List (Nat × Value)) {σ : Env} {tmps : Array Value}, tmps.size = n → (∀ k, tmps.getD k undef = σ k) → (∀ p ∈ ps, p.1 < n) →
    (ps.foldl (fun (tmps : Array Value) x => tmps.setIfInBounds x.1 x.2) tmps).size = n ∧ ∀ k, (ps.foldl (fun (tmps : Array Value) x => tmps.setIfInBounds x.1 x.2) tmps).getD k undef = ps.foldl (fun σ x => upd σ x.1 x.2) σ k
  | [], _, _, hs, hg, _ => ⟨hs, hg⟩
  | (p, v) :: ps, σ, tmps, hs, hg, hp => by
    have hlt := hp (p, v) (by simp)
    refine setP_get ps (σ := upd σ p v) (tmps := tmps.setIfInBounds p v) (by simpa using hs) (fun k => ?_) (fun q hq => hp q (by simp [hq]))
    have := Fr.put (ds := []) (n := n) (σ := σ) (a := { tmps := tmps, defers := [] }) ⟨rfl, hs, hg⟩ hlt v
    exact this.get k
/-- How a round is left, as code. -/
def jumpOf : Exit → Option Code
  | .ret => some .ret
  | .exit id => some (.exit id)
  | _ => none
variable {S X α : Type}
def rdQ (Ys : S → List Chunk → Prop) (Yx : X → List Chunk → Prop) (J : X → Code) (w : World) (T R : List Chunk) (r : S ⊕ X) : Post
  | .normal, _, w' => ∃ s Ls, r = .inl s ∧ Ys s Ls ∧ St w w' (Ls ++ T) R
  | e, _, w' => ∃ x Ls, r = .inr x ∧ Yx x Ls ∧ St w w' (Ls ++ T) R ∧ jumpOf e = some (J x)
def yJ (l : Nat) (r0 : Loop) (Ys : S → List Chunk → Prop) (Yx : X → List Chunk → Prop) (J : X → Code) : S ⊕ X → List Chunk → Prop
  | .inl s, Ls => ∃ Ls', Ls = cObj l (.loop r0) :: Ls' ∧ Ys s Ls'
  | .inr x, Ls => ∃ Ls', Ls = cObj l (.loop { r0 with state := .done, pending := some (J x) }) :: Ls' ∧ Yx x Ls'
/-- These parts lie among those. -/
def Sup (R' R : List Chunk) : Prop := ∃ L, R' = L ++ R
theorem Reads.sub {R R' : List Chunk} {C : Cells} (h : Reads R C) (s : Sup R' R) : Reads R' C := by
  obtain ⟨L, rfl⟩ := s; exact h.app L
theorem Has.sub {R R' : List Chunk} {c : Chunk} (h : Has R c) (s : Sup R' R) : Has R' c := by
  obtain ⟨L, rfl⟩ := s; exact h.app L
theorem FnM.sub {α : Type} [Elt α] {P : Program} {R R' : List Chunk} {vf : Value} {p : α → M Bool} (h : FnM P R vf p) (s : Sup R' R) : FnM P R' vf p := by
  obtain ⟨L, rfl⟩ := s; exact h.app L
theorem YieldC.sub {α T : Type} {P : Program} {R R' : List Chunk} {AR : Cells → List Value → α → Prop} {Y : T → List Chunk → Prop} {yv : Value} {ym : T → α → M (Bool × T)} (h : YieldC P R AR Y yv ym) (s : Sup R' R) : YieldC P R' AR Y yv ym := by
  obtain ⟨L, rfl⟩ := s; exact h.app L
theorem permA {c : Chunk} {A L T R : List Chunk} : ((A ++ T) ++ (c :: L ++ R)).Perm ((c :: A) ++ (L ++ (T ++ R))) := by
  have h1 : ((A ++ T) ++ (c :: L ++ R)).Perm (c :: ((A ++ T) ++ (L ++ R))) := by
    rw [List.cons_append]
    exact List.perm_middle
  refine h1.trans ?_
  show List.Perm _ (c :: (A ++ (L ++ (T ++ R))))
  refine List.Perm.cons c ?_
  rw [List.append_assoc]
  refine List.Perm.append_left A ?_
  rw [← List.append_assoc, ← List.append_assoc]
  exact List.Perm.append_right R List.perm_append_comm
theorem exAll {L : List Chunk} (h : L.all (·.ex) = true) : ∀ c ∈ L, c.ex = true := fun c hc => List.all_eq_true.1 h c hc
theorem RecOf.nb {r : Loop} {ps : Array Tmp} {assign body : Code} (h : RecOf r n σ ps assign body) : r.state ≠ .busy := by rw [h.st]; simp
theorem St.bundleB {A : List Chunk} (hx : A.all (·.ex) = true) (H : St w0 w (A ++ T) R) : St w0 w (cAll A :: T) R := H.bundle (exAll hx)
/-- One round. -/
theorem YieldC.mk {l : Nat} {r0 : Loop} {ps : Array Tmp} {assign body : Code} (hr : RecOf r0 n σ ps assign body) {AR : Cells → List Value → α → Prop} (Ys : S → List Chunk → Prop) (Yx : X → List Chunk → Prop) (J : X → Code) (bd : S → α → M (S ⊕ X))
    (hexS : ∀ s Ls, Ys s Ls → Ls.all (·.ex) = true) (hexX : ∀ x Ls, Yx x Ls → Ls.all (·.ex) = true) (hps : (ps.toList.all fun p => Nat.blt p n) = true) (hAR : ∀ C vs x, AR C vs x → vs.length = ps.size)
    (hab : ∀ C vs x w, AR C vs x → WR (some l) P n assign (fun e σ1 w1 => e = .normal ∧ w1 = w ∧
      ∀ (w : World) (R' : List Chunk), Sup R' R → ∀ (Ls : List Chunk) (s : S) (r : S ⊕ X), Ys s Ls → (bd s x).Ends r → St w w (Ls ++ T) R' → WR (some l) P n body (rdQ Ys Yx J w T R' r) σ1 w) (setP σ ps.toList vs) w) :
    YieldC P (T ++ R) AR (yJ l r0 Ys Yx J) (.func (.yield l) #[] #[]) (M.yl bd) := by
  refine ⟨l, rfl, fun w L Ls t C vs x b t' hS hY _ hA hp => ?_⟩
  cases t with
  | inr x => exact (M.e_fail hp).elim
  | inl s =>
    obtain ⟨Ls', rfl, hYs⟩ := hY
    have hU := hS.unbundle
    have hl : w.heap[l]? = some (.loop r0) := hU.get (c := cObj l (.loop r0)) (by simp)
    obtain ⟨r, hr1, hp⟩ := M.e_bind hp
    have hlen := hAR C vs x hA
    refine ⟨_, _, _, _, run_yield hl (by rw [hr.ps]; simpa using hlen), roundIn_of_wpIn trivial ?_⟩
    have hps' : ∀ p ∈ (ps.toList.zip vs), p.1 < n := by
      rintro ⟨p, v⟩ hp
      have := List.all_eq_true.1 hps p (List.of_mem_zip hp).1
      exact of_eq_true (Nat.blt_eq ▸ eq_true this)
    have hset := setP_get (ps.toList.zip vs) hr.sz hr.get hps'
    have hzip : ((r0.params.zip vs.toArray).foldl (fun (tmps : Array Value) (x : Tmp × Value) => match x with | (t, a) => tmps.setIfInBounds t a) r0.tmps) = (ps.toList.zip vs).foldl (fun (tmps : Array Value) x => tmps.setIfInBounds x.1 x.2) r0.tmps := by
      rw [hr.ps, ← Array.foldl_toList, Array.toList_zip]
    have h1 := hab C vs x w hA [] { tmps := (r0.params.zip vs.toArray).foldl (fun (tmps : Array Value) (x : Tmp × Value) => match x with | (t, a) => tmps.setIfInBounds t a) r0.tmps, defers := [] } ⟨rfl, by rw [hzip]; exact hset.1, fun k => by rw [hzip]; exact hset.2 k⟩
    rw [hr.asg, hr.body]
    refine wpIn_mono (F := FR (some l)) h1 ?_
    rintro e a1 w1 ⟨σ1, hs1, rfl, rfl, hb⟩
    have hperm : Sep w1 (cObj l (.loop r0) :: (Ls' ++ (L ++ (T ++ R)))) := hU
    have H0 : St w1 w1 (cObj l (.loop r0) :: (Ls' ++ (L ++ (T ++ R)))) [] := ⟨Keep.refl _, by rw [List.append_nil]; exact hperm⟩
    have H1 := H0.putObj (o' := .loop { r0 with state := .busy }) (by simp) (by simp)
    refine ⟨_, run_beginRound hl hr.st, ?_⟩
    have hS2 := H1.sep
    rw [List.append_nil] at hS2
    have H2 : St (w1.putObj l (.loop { r0 with state := .busy })) (w1.putObj l (.loop { r0 with state := .busy })) (Ls' ++ T) (cObj l (.loop { r0 with state := .busy }) :: L ++ R) := ⟨Keep.refl _, hS2.perm permA⟩
    have h3 := hb _ (cObj l (.loop { r0 with state := .busy }) :: L ++ R) ⟨_, rfl⟩ Ls' s r hYs hr1 H2 [] a1 hs1
    refine wpIn_mono h3 ?_
    rintro e a2 w3 ⟨σ2, hs2, hq⟩
    have fin : ∀ (jump : Option Code) (Ls'' : List Chunk) (t'' : S ⊕ X) (r1 : Loop), (∀ c ∈ Ls'', c.ex = true) → St (w1.putObj l (.loop { r0 with state := .busy })) w3 (Ls'' ++ T) (cObj l (.loop { r0 with state := .busy }) :: L ++ R) →
        r1 = { r0 with state := if jump.isNone then .ready else .done, pending := jump } → yJ l r0 Ys Yx J t' (cObj l (.loop r1) :: Ls'') → b = jump.isNone →
        ∃ v w', (Instr.endRound l jump).run P w3 = .ok v w' ∧ (Ending.returned v = .returned (B b) ∧ ∃ Ls', yJ l r0 Ys Yx J t' Ls' ∧ St w1 w' [cAll Ls'] (L ++ (T ++ R))) := by
      rintro jump Ls'' t'' r1 hx H' rfl hy rfl
      have hS3 : Sep w3 (cObj l (.loop { r0 with state := .busy }) :: (Ls'' ++ (L ++ (T ++ R)))) := H'.sep.perm permA.symm
      have H4 : St w3 w3 (cObj l (.loop { r0 with state := .busy }) :: (Ls'' ++ (L ++ (T ++ R)))) [] := ⟨Keep.refl _, by rw [List.append_nil]; exact hS3⟩
      have hl3 := H4.get (k := 0) rfl
      have H5 := H4.putObj (o' := .loop { r0 with state := if jump.isNone then .ready else .done, pending := jump }) (by simp) (by simp)
      refine ⟨_, _, run_endRound jump hl3, rfl, _, hy, (H1.kp.trans H'.kp).trans H5.kp, ?_⟩
      have h5 := H5.sep
      rw [List.append_nil] at h5
      refine Sep.bundle (A := cObj l (.loop { r0 with state := if jump.isNone then .ready else .done, pending := jump }) :: Ls'') (fun c hc => ?_) h5
      rcases List.mem_cons.1 hc with rfl | hc
      · rfl
      · exact hx c hc
    have hready : ({ r0 with state := .ready, pending := none } : Loop) = r0 := by rw [← hr.st, ← hr.pd]
    have two : ∀ (x : X) (_ : List Chunk), r = .inr x → t' = .inr x ∧ b = false := by
      rintro x _ rfl
      have := M.e_pure hp
      cases this
      exact ⟨rfl, rfl⟩
    cases e with
    | normal =>
      obtain ⟨s', Ls'', rfl, hy, H'⟩ := hq
      have := M.e_pure hp
      cases this
      exact fin none Ls'' (.inl s') r0 (exAll (hexS _ _ hy)) H' hready.symm ⟨Ls'', rfl, hy⟩ rfl
    | ret =>
      obtain ⟨x, Ls'', hr', hy, H', hj⟩ := hq
      obtain ⟨rfl, rfl⟩ := two x Ls'' hr'
      refine fin (some .ret) Ls'' (.inr x) _ (exAll (hexX _ _ hy)) H' rfl ?_ rfl
      refine ⟨Ls'', ?_, hy⟩
      rw [show J x = .ret from (Option.some.inj hj).symm]
      rfl
    | exit id =>
      obtain ⟨x, Ls'', hr', hy, H', hj⟩ := hq
      obtain ⟨rfl, rfl⟩ := two x Ls'' hr'
      refine fin (some (.exit id)) Ls'' (.inr x) _ (exAll (hexX _ _ hy)) H' rfl ?_ rfl
      refine ⟨Ls'', ?_, hy⟩
      rw [show J x = .exit id from (Option.some.inj hj).symm]
      rfl
    | goto id => obtain ⟨x, Ls'', _, _, _, hj⟩ := hq; cases hj
    | panic c => obtain ⟨x, Ls'', _, _, _, hj⟩ := hq; cases hj
    | outgrown => obtain ⟨x, Ls'', _, _, _, hj⟩ := hq; cases hj
end
theorem M.le_yl {S X α : Type} {n : Nat} {bd bd' : S → α → M (S ⊕ X)} (h : ∀ s a, M.LeN n (bd s a) (bd' s a)) (t : S ⊕ X) (a : α) : M.LeN n (M.yl bd t a) (M.yl bd' t a) := by
  cases t with
  | inl s => exact M.le_bind (h s a) fun _ => M.le_same _ _
  | inr x => exact M.le_same _ _
/-- What an iterator hands over. -/
def arI : Cells → List Value → Int → Prop := fun _ vs x => vs = [I x]
def arII : Cells → List Value → Int × Int → Prop := fun _ vs x => vs = [I x.1, I x.2]
def arE {α : Type} [Elt α] : Cells → List Value → α → Prop := fun C vs x => ∃ v, vs = [v] ∧ Arg C v x
theorem arI_len {k : Nat} (hk : k = 1) : ∀ C vs x, arI C vs x → vs.length = k := fun _ _ _ h => by rw [show _ = _ from h, hk]; rfl
theorem arII_len {k : Nat} (hk : k = 2) : ∀ C vs x, arII C vs x → vs.length = k := fun _ _ _ h => by rw [show _ = _ from h, hk]; rfl
section
variable {P : Program} {all rest : List Oper} {Q : Post} {σ : Env} {w0 w : World} {L R : List Chunk} {d : Nat} {ty : TypeId} {pos : String} {af : Array Edge}
/-- A slice literal of plain data, under a guard: it is read on only. -/
theorem t_gbs {α : Type} [Flat α] {t e by' : Nat} {z : Value} {parts : Array (Nat × Operand)} (T : SlT P t e (Elt.sz α) by' z) {j : Nat} {want : Bool} (c : Bool) (hy : (yieldedE all σ j == some want) = c) (vs : List Value) (l : List α) (H : St w0 w L R)
    (hp : c = true → parts.toList.map (fun x => (x.1, ev σ x.2)) = (vs.zipIdx 0).map fun x => (x.2, x.1)) (hr : Reps (fun _ => none) vs l) {n : Nat} (hn : l.length = n) (h0 : Nat.blt 0 n = true) (hsm : Nat.ble (n * Elt.sz α) 16777216 = true)
    (k : ∀ u B w', St w0 w' (cRo B :: L) R → (c = true → Sl B.cells u l) → SL P all Q rest (upd σ d (gd c u)) w') : SL P all Q (⟨some d, .buildSlice t n parts, ty, pos, af, some (j, want)⟩ :: rest) σ w := by
  refine g_split rfl c hy (fun e => ?_) (fun e => ?_)
  · refine t_bs (α := α) T vs l H (hp e) hr hn h0 hsm fun u w' H' => ?_
    obtain ⟨B, H2, hs⟩ := H'.freezeE (k := 0) rfl
    have := k u B w' H2 (fun _ => hs)
    rwa [gd_of e] at this
  · have := k undef ⟨w, fun _ => False⟩ w (H.push (c := cRo ⟨w, fun _ => False⟩) (Ext.refl w) ⟨Nat.le_refl _, fun _ h => h.elim⟩ (fun _ h => h.1.elim)) (fun h => by rw [e] at h; cases h)
    rwa [gd_no e] at this
end
end Go.Nm
namespace Go.Proofs.Ytndobgodeicloaa
open Go Go.Nm
theorem cf16 : CF Try.prog 16 := ⟨_, Try.func16, rfl, by decide +kernel⟩
theorem cf17 : CF Try.prog 17 := ⟨_, Try.func17, rfl, by decide +kernel⟩
theorem cf18 : CF Try.prog 18 := ⟨_, Try.func18, rfl, by decide +kernel⟩
theorem cf19 : CF Try.prog 19 := ⟨_, Try.func19, rfl, by decide +kernel⟩
theorem cf20 : CF Try.prog 20 := ⟨_, Try.func20, rfl, by decide +kernel⟩
theorem cf22 : CF Try.prog 22 := ⟨_, Try.func22, rfl, by decide +kernel⟩
theorem cf23 : CF Try.prog 23 := ⟨_, Try.func23, rfl, by decide +kernel⟩
theorem cf24 : CF Try.prog 24 := ⟨_, Try.func24, rfl, by decide +kernel⟩
theorem cf25 : CF Try.prog 25 := ⟨_, Try.func25, rfl, by decide +kernel⟩
theorem cf26 : CF Try.prog 26 := ⟨_, Try.func26, rfl, by decide +kernel⟩
theorem cf27 : CF Try.prog 27 := ⟨_, Try.func27, rfl, by decide +kernel⟩
theorem cf28 : CF Try.prog 28 := ⟨_, Try.func28, rfl, by decide +kernel⟩
theorem cf29 : CF Try.prog 29 := ⟨_, Try.func29, rfl, by decide +kernel⟩
theorem cf30 : CF Try.prog 30 := ⟨_, Try.func30, rfl, by decide +kernel⟩
theorem cf31 : CF Try.prog 31 := ⟨_, Try.func31, rfl, by decide +kernel⟩
theorem cf32 : CF Try.prog 32 := ⟨_, Try.func32, rfl, by decide +kernel⟩
theorem cf33 : CF Try.prog 33 := ⟨_, Try.func33, rfl, by decide +kernel⟩
theorem cf34 : CF Try.prog 34 := ⟨_, Try.func34, rfl, by decide +kernel⟩
theorem cf35 : CF Try.prog 35 := ⟨_, Try.func35, rfl, by decide +kernel⟩
theorem cf36 : CF Try.prog 36 := ⟨_, Try.func36, rfl, by decide +kernel⟩
theorem cf37 : CF Try.prog 37 := ⟨_, Try.func37, rfl, by decide +kernel⟩
theorem cf38 : CF Try.prog 38 := ⟨_, Try.func38, rfl, by decide +kernel⟩
theorem cf39 : CF Try.prog 39 := ⟨_, Try.func39, rfl, by decide +kernel⟩
theorem cf40 : CF Try.prog 40 := ⟨_, Try.func40, rfl, by decide +kernel⟩
theorem cf41 : CF Try.prog 41 := ⟨_, Try.func41, rfl, by decide +kernel⟩
theorem cf42 : CF Try.prog 42 := ⟨_, Try.func42, rfl, by decide +kernel⟩
theorem cf43 : CF Try.prog 43 := ⟨_, Try.func43, rfl, by decide +kernel⟩
theorem cf44 : CF Try.prog 44 := ⟨_, Try.func44, rfl, by decide +kernel⟩
theorem cf46 : CF Try.prog 46 := ⟨_, Try.func46, rfl, by decide +kernel⟩
theorem cf47 : CF Try.prog 47 := ⟨_, Try.func47, rfl, by decide +kernel⟩
theorem cf49 : CF Try.prog 49 := ⟨_, Try.func49, rfl, by decide +kernel⟩
theorem cf50 : CF Try.prog 50 := ⟨_, Try.func50, rfl, by decide +kernel⟩
theorem cf51 : CF Try.prog 51 := ⟨_, Try.func51, rfl, by decide +kernel⟩
theorem cf64 : CF Try.prog 64 := ⟨_, Try.func64, rfl, by decide +kernel⟩
theorem cf65 : CF Try.prog 65 := ⟨_, Try.func65, rfl, by decide +kernel⟩
theorem cf71 : CF Try.prog 71 := ⟨_, Try.func71, rfl, by decide +kernel⟩
theorem cf72 : CF Try.prog 72 := ⟨_, Try.func72, rfl, by decide +kernel⟩
theorem cf79 : CF Try.prog 79 := ⟨_, Try.func79, rfl, by decide +kernel⟩
theorem cf80 : CF Try.prog 80 := ⟨_, Try.func80, rfl, by decide +kernel⟩
theorem cf93 : CF Try.prog 93 := ⟨_, Try.func93, rfl, by decide +kernel⟩
theorem cf94 : CF Try.prog 94 := ⟨_, Try.func94, rfl, by decide +kernel⟩
theorem cf97 : CF Try.prog 97 := ⟨_, Try.func97, rfl, by decide +kernel⟩
theorem cf98 : CF Try.prog 98 := ⟨_, Try.func98, rfl, by decide +kernel⟩
theorem cf105 : CF Try.prog 105 := ⟨_, Try.func105, rfl, by decide +kernel⟩
theorem cf106 : CF Try.prog 106 := ⟨_, Try.func106, rfl, by decide +kernel⟩
theorem cf107 : CF Try.prog 107 := ⟨_, Try.func107, rfl, by decide +kernel⟩
theorem cf108 : CF Try.prog 108 := ⟨_, Try.func108, rfl, by decide +kernel⟩
theorem cf109 : CF Try.prog 109 := ⟨_, Try.func109, rfl, by decide +kernel⟩
theorem cf110 : CF Try.prog 110 := ⟨_, Try.func110, rfl, by decide +kernel⟩
theorem cf116 : CF Try.prog 116 := ⟨_, Try.func116, rfl, by decide +kernel⟩
theorem cf125 : CF Try.prog 125 := ⟨_, Try.func125, rfl, by decide +kernel⟩
theorem cf126 : CF Try.prog 126 := ⟨_, Try.func126, rfl, by decide +kernel⟩
theorem cf127 : CF Try.prog 127 := ⟨_, Try.func127, rfl, by decide +kernel⟩
theorem cf128 : CF Try.prog 128 := ⟨_, Try.func128, rfl, by decide +kernel⟩
theorem cf129 : CF Try.prog 129 := ⟨_, Try.func129, rfl, by decide +kernel⟩
theorem cf135 : CF Try.prog 135 := ⟨_, Try.func135, rfl, by decide +kernel⟩
theorem cf148 : CF Try.prog 148 := ⟨_, Try.func148, rfl, by decide +kernel⟩
theorem cf149 : CF Try.prog 149 := ⟨_, Try.func149, rfl, by decide +kernel⟩
theorem cf150 : CF Try.prog 150 := ⟨_, Try.func150, rfl, by decide +kernel⟩
theorem cf159 : CF Try.prog 159 := ⟨_, Try.func159, rfl, by decide +kernel⟩
theorem cf160 : CF Try.prog 160 := ⟨_, Try.func160, rfl, by decide +kernel⟩
theorem T44 : SlT Try.prog 44 45 2 16 (.agg #[I 0, I 0]) := ⟨Try.underlying44, by kernel_rfl, rfl, by decide⟩
theorem T62 : SlT Try.prog 62 5 1 1 (.int .u8 0) := ⟨Try.underlying62, by kernel_rfl, rfl, by decide⟩
theorem T145 : SlT Try.prog 145 147 1 24 (.slice none 0 0) := ⟨Try.underlying145, by kernel_rfl, rfl, by decide⟩
theorem T147 : SlT Try.prog 147 4 1 1 (B false) := ⟨Try.underlying147, by kernel_rfl, rfl, by decide⟩
theorem Sc5 : isSc (Try.prog.underlying 5) = true := by rw [Try.underlying5]; rfl
theorem Sc35 : isSc (Try.prog.underlying 35) = true := by rw [Try.underlying35]; rfl
theorem Sc62 : isSc (Try.prog.underlying 62) = true := by rw [Try.underlying62]; rfl
theorem Sc127 : isSc (Try.prog.underlying 127) = true := by rw [Try.underlying127]; rfl
theorem Sc147 : isSc (Try.prog.underlying 147) = true := by rw [Try.underlying147]; rfl
theorem Sc160 : isSc (Try.prog.underlying 160) = true := by rw [Try.underlying160]; rfl
theorem Sc174 : isSc (Try.prog.underlying 174) = true := by rw [Try.underlying174]; rfl
theorem Sc177 : isSc (Try.prog.underlying 177) = true := by rw [Try.underlying177]; rfl
theorem Sc178 : isSc (Try.prog.underlying 178) = true := by rw [Try.underlying178]; rfl
theorem Sc183 : isSc (Try.prog.underlying 183) = true := by rw [Try.underlying183]; rfl
theorem Sz35 : (Try.prog.info? 35).map (·.size) = some 1 := by kernel_rfl
theorem Sz62 : (Try.prog.info? 62).map (·.size) = some 1 := by kernel_rfl
theorem Sz75 : (Try.prog.info? 75).map (·.size) = some 1 := by kernel_rfl
theorem Sz127 : (Try.prog.info? 127).map (·.size) = some 1 := by kernel_rfl
theorem Sz174 : (Try.prog.info? 174).map (·.size) = some 1 := by kernel_rfl
theorem Sz177 : (Try.prog.info? 177).map (·.size) = some 1 := by kernel_rfl
theorem Sz178 : (Try.prog.info? 178).map (·.size) = some 1 := by kernel_rfl
theorem Sz183 : (Try.prog.info? 183).map (·.size) = some 1 := by kernel_rfl
theorem Fd45_0 : (Try.prog.underlying 45).bind (fun d => match d with | .struct fs => (fs[0]?).map (fun f => (f.offset, f.type)) | _ => none) = some (0, 3) := by rw [Try.underlying45]; rfl
theorem Fd45_1 : (Try.prog.underlying 45).bind (fun d => match d with | .struct fs => (fs[1]?).map (fun f => (f.offset, f.type)) | _ => none) = some (1, 3) := by rw [Try.underlying45]; rfl
theorem Fd137_0 : (Try.prog.underlying 137).bind (fun d => match d with | .struct fs => (fs[0]?).map (fun f => (f.offset, f.type)) | _ => none) = some (0, 3) := by rw [Try.underlying137]; rfl
theorem Fd137_1 : (Try.prog.underlying 137).bind (fun d => match d with | .struct fs => (fs[1]?).map (fun f => (f.offset, f.type)) | _ => none) = some (1, 3) := by rw [Try.underlying137]; rfl
theorem Fd137_2 : (Try.prog.underlying 137).bind (fun d => match d with | .struct fs => (fs[2]?).map (fun f => (f.offset, f.type)) | _ => none) = some (2, 3) := by rw [Try.underlying137]; rfl
theorem Fd158_0 : (Try.prog.underlying 158).bind (fun d => match d with | .struct fs => (fs[0]?).map (fun f => (f.offset, f.type)) | _ => none) = some (0, 62) := by rw [Try.underlying158]; rfl
theorem Fd158_1 : (Try.prog.underlying 158).bind (fun d => match d with | .struct fs => (fs[1]?).map (fun f => (f.offset, f.type)) | _ => none) = some (1, 3) := by rw [Try.underlying158]; rfl
theorem Fd158_2 : (Try.prog.underlying 158).bind (fun d => match d with | .struct fs => (fs[2]?).map (fun f => (f.offset, f.type)) | _ => none) = some (2, 3) := by rw [Try.underlying158]; rfl
theorem Fd180_0 : (Try.prog.underlying 180).bind (fun d => match d with | .struct fs => (fs[0]?).map (fun f => (f.offset, f.type)) | _ => none) = some (0, 127) := by rw [Try.underlying180]; rfl
theorem Fd180_1 : (Try.prog.underlying 180).bind (fun d => match d with | .struct fs => (fs[1]?).map (fun f => (f.offset, f.type)) | _ => none) = some (1, 34) := by rw [Try.underlying180]; rfl
theorem Fd180_2 : (Try.prog.underlying 180).bind (fun d => match d with | .struct fs => (fs[2]?).map (fun f => (f.offset, f.type)) | _ => none) = some (2, 3) := by rw [Try.underlying180]; rfl
theorem Fd180_3 : (Try.prog.underlying 180).bind (fun d => match d with | .struct fs => (fs[3]?).map (fun f => (f.offset, f.type)) | _ => none) = some (3, 177) := by rw [Try.underlying180]; rfl
theorem Fd180_4 : (Try.prog.underlying 180).bind (fun d => match d with | .struct fs => (fs[4]?).map (fun f => (f.offset, f.type)) | _ => none) = some (4, 178) := by rw [Try.underlying180]; rfl
theorem Fd211_0 : (Try.prog.underlying 211).bind (fun d => match d with | .struct fs => (fs[0]?).map (fun f => (f.offset, f.type)) | _ => none) = some (0, 127) := by rw [Try.underlying211]; rfl
theorem Fd211_1 : (Try.prog.underlying 211).bind (fun d => match d with | .struct fs => (fs[1]?).map (fun f => (f.offset, f.type)) | _ => none) = some (1, 75) := by rw [Try.underlying211]; rfl
theorem Fd211_2 : (Try.prog.underlying 211).bind (fun d => match d with | .struct fs => (fs[2]?).map (fun f => (f.offset, f.type)) | _ => none) = some (2, 178) := by rw [Try.underlying211]; rfl
theorem Al4 : (Try.prog.info? 4).map (·.zero) = some (some (B false)) := by kernel_rfl
theorem Al35 : (Try.prog.info? 35).map (·.zero) = some (some (I 0)) := by kernel_rfl
theorem Al75 : (Try.prog.info? 75).map (·.zero) = some (some (.nilFunc)) := by kernel_rfl
theorem Al127 : (Try.prog.info? 127).map (·.zero) = some (some (.pointer none)) := by kernel_rfl
theorem Al138 : (Try.prog.info? 138).map (·.zero) = some (some (.agg #[.slice none 0 0, I 0, I 0])) := by kernel_rfl
theorem Al158 : (Try.prog.info? 158).map (·.zero) = some (some (.agg #[.slice none 0 0, I 0, I 0])) := by kernel_rfl
theorem Al174 : (Try.prog.info? 174).map (·.zero) = some (some (.pointer none)) := by kernel_rfl
theorem Al180 : (Try.prog.info? 180).map (·.zero) = some (some (.agg #[.pointer none, .slice none 0 0, I 0, .map none, .map none])) := by kernel_rfl
theorem Al182 : (Try.prog.info? 182).map (·.zero) = some (some (.agg #[I 0, I 0])) := by kernel_rfl
theorem Al183 : (Try.prog.info? 183).map (·.zero) = some (some (.nilFunc)) := by kernel_rfl
theorem Al211 : (Try.prog.info? 211).map (·.zero) = some (some (.agg #[.pointer none, .nilFunc, .map none])) := by kernel_rfl
theorem Bd30 {fs : Array Field} (h : Try.prog.underlying 30 = some (.struct fs)) : fs.toList.mapM (fun f => (Try.prog.info? f.type).map fun i => (f.offset, i.size)) = some [(0, 1), (1, 1), (2, 1)] := by rw [Try.underlying30] at h; simp only [Option.some.injEq, TypeDesc.struct.injEq] at h; subst h; kernel_rfl
theorem Bd33 {fs : Array Field} (h : Try.prog.underlying 33 = some (.struct fs)) : fs.toList.mapM (fun f => (Try.prog.info? f.type).map fun i => (f.offset, i.size)) = some [(0, 1), (1, 1)] := by rw [Try.underlying33] at h; simp only [Option.some.injEq, TypeDesc.struct.injEq] at h; subst h; kernel_rfl
theorem Bd60 {fs : Array Field} (h : Try.prog.underlying 60 = some (.struct fs)) : fs.toList.mapM (fun f => (Try.prog.info? f.type).map fun i => (f.offset, i.size)) = some [(0, 1), (1, 1), (2, 1)] := by rw [Try.underlying60] at h; simp only [Option.some.injEq, TypeDesc.struct.injEq] at h; subst h; kernel_rfl
theorem Bd138 {fs : Array Field} (h : Try.prog.underlying 138 = some (.struct fs)) : fs.toList.mapM (fun f => (Try.prog.info? f.type).map fun i => (f.offset, i.size)) = some [(0, 1), (1, 1), (2, 1)] := by rw [Try.underlying138] at h; simp only [Option.some.injEq, TypeDesc.struct.injEq] at h; subst h; kernel_rfl
theorem Bd158 {fs : Array Field} (h : Try.prog.underlying 158 = some (.struct fs)) : fs.toList.mapM (fun f => (Try.prog.info? f.type).map fun i => (f.offset, i.size)) = some [(0, 1), (1, 1), (2, 1)] := by rw [Try.underlying158] at h; simp only [Option.some.injEq, TypeDesc.struct.injEq] at h; subst h; kernel_rfl
theorem Bd180 {fs : Array Field} (h : Try.prog.underlying 180 = some (.struct fs)) : fs.toList.mapM (fun f => (Try.prog.info? f.type).map fun i => (f.offset, i.size)) = some [(0, 1), (1, 1), (2, 1), (3, 1), (4, 1)] := by rw [Try.underlying180] at h; simp only [Option.some.injEq, TypeDesc.struct.injEq] at h; subst h; kernel_rfl
theorem Bd182 {fs : Array Field} (h : Try.prog.underlying 182 = some (.struct fs)) : fs.toList.mapM (fun f => (Try.prog.info? f.type).map fun i => (f.offset, i.size)) = some [(0, 1), (1, 1)] := by rw [Try.underlying182] at h; simp only [Option.some.injEq, TypeDesc.struct.injEq] at h; subst h; kernel_rfl
theorem Bd211 {fs : Array Field} (h : Try.prog.underlying 211 = some (.struct fs)) : fs.toList.mapM (fun f => (Try.prog.info? f.type).map fun i => (f.offset, i.size)) = some [(0, 1), (1, 1), (2, 1)] := by rw [Try.underlying211] at h; simp only [Option.some.injEq, TypeDesc.struct.injEq] at h; subst h; kernel_rfl

end Go.Proofs.Ytndobgodeicloaa
section
set_option maxRecDepth 100000
set_option maxHeartbeats 16000000
namespace Go.Proofs.Ytndobgodeicloaa
open Go Go.Nm
def m_nilometerlaw13_Six : M (List Work) :=
  M.pure ([(⟨([]), (1 : Int), (5 : Int)⟩ : Work), (⟨([]), (1 : Int), (6 : Int)⟩ : Work), (⟨([(0 : Int), (1 : Int)]), (1 : Int), (10 : Int)⟩ : Work), (⟨([(1 : Int)]), (1 : Int), (30 : Int)⟩ : Work), (⟨([(2 : Int), (3 : Int)]), (1 : Int), (20 : Int)⟩ : Work), (⟨([(4 : Int)]), (1 : Int), (1 : Int)⟩ : Work)])
theorem nilometerlaw13_Six_ok {R : List Chunk}    {r : (List Work)} (hM : (m_nilometerlaw13_Six).Ends r) (w : World) (H : St w w [] R) : Ret Try.prog 79 #[] w fun v w' => ∃ (y0 : List Work) (u0 : Value) (rr1 : List (Raw 2)) (Bs2 : Base), y0 = r ∧ v = u0 ∧ St w w' [cOwn (α := Raw 2) 60 u0 rr1, cRo Bs2] R ∧ RepR (α := Work) Bs2.cells rr1 y0 := by
 refine ret_of_W Try.func79 rfl rfl rfl ?_
 refine W.seq <| W.region rfl <| sA (.slice none 0 0) rfl <| s_nil <| W.seq <| W.region rfl <| s_val (x_bld (ps := [(1, I 1), (2, I 5)]) (zs := [.slice none 0 0, I 0, I 0]) (L' := [.slice none 0 0, I 1, I 5]) rfl Try.underlying60 Al60 rfl (Bd60 Try.underlying60) (.cons (cs := [I 1]) rfl rfl rfl rfl rfl <| .cons (cs := [I 5]) rfl rfl rfl rfl rfl <| .nil)) <| s_val (x_bld (ps := [(1, I 1), (2, I 6)]) (zs := [.slice none 0 0, I 0, I 0]) (L' := [.slice none 0 0, I 1, I 6]) rfl Try.underlying60 Al60 rfl (Bd60 Try.underlying60) (.cons (cs := [I 1]) rfl rfl rfl rfl rfl <| .cons (cs := [I 6]) rfl rfl rfl rfl rfl <| .nil)) ?_
 refine t_bs (α := Int) T34 [I 0, I 1] [(0 : Int), (1 : Int)] H rfl (.cons rfl (Flat.rep_enc _ (0 : Int)) <| .cons rfl (Flat.rep_enc _ (1 : Int)) <| .nil) rfl rfl rfl ?_
 intro v1z w2z H
 refine s_val (x_bld (ps := [(0, v1z), (1, I 1), (2, I 10)]) (zs := [.slice none 0 0, I 0, I 0]) (L' := [v1z, I 1, I 10]) rfl Try.underlying60 Al60 rfl (Bd60 Try.underlying60) (.cons (cs := [v1z]) (Sl.cells (ownSl (H.get (k := 0) rfl))) rfl rfl rfl rfl <| .cons (cs := [I 1]) rfl rfl rfl rfl rfl <| .cons (cs := [I 10]) rfl rfl rfl rfl rfl <| .nil)) ?_
 refine t_bs (α := Int) T34 [I 1] [(1 : Int)] H rfl (.cons rfl (Flat.rep_enc _ (1 : Int)) <| .nil) rfl rfl rfl ?_
 intro v3z w4z H
 refine s_val (x_bld (ps := [(0, v3z), (1, I 1), (2, I 30)]) (zs := [.slice none 0 0, I 0, I 0]) (L' := [v3z, I 1, I 30]) rfl Try.underlying60 Al60 rfl (Bd60 Try.underlying60) (.cons (cs := [v3z]) (Sl.cells (ownSl (H.get (k := 0) rfl))) rfl rfl rfl rfl <| .cons (cs := [I 1]) rfl rfl rfl rfl rfl <| .cons (cs := [I 30]) rfl rfl rfl rfl rfl <| .nil)) ?_
 refine t_bs (α := Int) T34 [I 2, I 3] [(2 : Int), (3 : Int)] H rfl (.cons rfl (Flat.rep_enc _ (2 : Int)) <| .cons rfl (Flat.rep_enc _ (3 : Int)) <| .nil) rfl rfl rfl ?_
 intro v5z w6z H
 refine s_val (x_bld (ps := [(0, v5z), (1, I 1), (2, I 20)]) (zs := [.slice none 0 0, I 0, I 0]) (L' := [v5z, I 1, I 20]) rfl Try.underlying60 Al60 rfl (Bd60 Try.underlying60) (.cons (cs := [v5z]) (Sl.cells (ownSl (H.get (k := 0) rfl))) rfl rfl rfl rfl <| .cons (cs := [I 1]) rfl rfl rfl rfl rfl <| .cons (cs := [I 20]) rfl rfl rfl rfl rfl <| .nil)) ?_
 refine t_bs (α := Int) T34 [I 4] [(4 : Int)] H rfl (.cons rfl (Flat.rep_enc _ (4 : Int)) <| .nil) rfl rfl rfl ?_
 intro v7z w8z H
 refine s_val (x_bld (ps := [(0, v7z), (1, I 1), (2, I 1)]) (zs := [.slice none 0 0, I 0, I 0]) (L' := [v7z, I 1, I 1]) rfl Try.underlying60 Al60 rfl (Bd60 Try.underlying60) (.cons (cs := [v7z]) (Sl.cells (ownSl (H.get (k := 0) rfl))) rfl rfl rfl rfl <| .cons (cs := [I 1]) rfl rfl rfl rfl rfl <| .cons (cs := [I 1]) rfl rfl rfl rfl rfl <| .nil)) ?_
 obtain ⟨Bs_5, H⟩ := H.emptyE
 obtain ⟨Bs_6, H, hs12z⟩ := H.freezeE (k := 4) rfl
 replace H : St w w8z [cRo Bs_5, cOwn (α := Int) 3 v7z ([(4 : Int)]), cOwn (α := Int) 3 v5z ([(2 : Int), (3 : Int)]), cOwn (α := Int) 3 v3z ([(1 : Int)]), cRo Bs_6] R := H
 have hq11z := hs12z
 obtain ⟨Bs_7, H, le13z, le14z⟩ := H.joinE (i := 0) (j := 4) rfl rfl
 replace hq11z := hq11z.mono le14z
 obtain ⟨Bs_8, H, hs16z⟩ := H.freezeE (k := 4) rfl
 replace H : St w w8z [cRo Bs_7, cRo Bs_5, cOwn (α := Int) 3 v7z ([(4 : Int)]), cOwn (α := Int) 3 v5z ([(2 : Int), (3 : Int)]), cRo Bs_8, cRo Bs_6] R := H
 have hq15z := hs16z
 obtain ⟨Bs_9, H, le17z, le18z⟩ := H.joinE (i := 0) (j := 4) rfl rfl
 replace hq11z := hq11z.mono le17z
 replace hq15z := hq15z.mono le18z
 obtain ⟨Bs_10, H, hs20z⟩ := H.freezeE (k := 4) rfl
 replace H : St w w8z [cRo Bs_9, cRo Bs_7, cRo Bs_5, cOwn (α := Int) 3 v7z ([(4 : Int)]), cRo Bs_10, cRo Bs_8, cRo Bs_6] R := H
 have hq19z := hs20z
 obtain ⟨Bs_11, H, le21z, le22z⟩ := H.joinE (i := 0) (j := 4) rfl rfl
 replace hq11z := hq11z.mono le21z
 replace hq15z := hq15z.mono le21z
 replace hq19z := hq19z.mono le22z
 obtain ⟨Bs_12, H, hs24z⟩ := H.freezeE (k := 4) rfl
 replace H : St w w8z [cRo Bs_11, cRo Bs_9, cRo Bs_7, cRo Bs_5, cRo Bs_12, cRo Bs_10, cRo Bs_8, cRo Bs_6] R := H
 have hq23z := hs24z
 obtain ⟨Bs_13, H, le25z, le26z⟩ := H.joinE (i := 0) (j := 4) rfl rfl
 replace hq11z := hq11z.mono le25z
 replace hq15z := hq15z.mono le25z
 replace hq19z := hq19z.mono le25z
 replace hq23z := hq23z.mono le26z
 obtain ⟨rw27z, hrw_rw27z⟩ : ∃ r : Raw 2, r.cs = [.slice none 0 0, I 1, I 5] := ⟨Raw.of [.slice none 0 0, I 1, I 5] rfl rfl, rfl⟩
 obtain ⟨rw28z, hrw_rw28z⟩ : ∃ r : Raw 2, r.cs = [.slice none 0 0, I 1, I 6] := ⟨Raw.of [.slice none 0 0, I 1, I 6] rfl rfl, rfl⟩
 obtain ⟨rw29z, hrw_rw29z⟩ : ∃ r : Raw 2, r.cs = [v1z, I 1, I 10] := ⟨Raw.of [v1z, I 1, I 10] rfl (by simp only [List.all_cons, List.all_nil, Bool.true_and, Bool.and_true, Sl.oc hq11z]; try rfl), rfl⟩
 obtain ⟨rw30z, hrw_rw30z⟩ : ∃ r : Raw 2, r.cs = [v3z, I 1, I 30] := ⟨Raw.of [v3z, I 1, I 30] rfl (by simp only [List.all_cons, List.all_nil, Bool.true_and, Bool.and_true, Sl.oc hq15z]; try rfl), rfl⟩
 obtain ⟨rw31z, hrw_rw31z⟩ : ∃ r : Raw 2, r.cs = [v5z, I 1, I 20] := ⟨Raw.of [v5z, I 1, I 20] rfl (by simp only [List.all_cons, List.all_nil, Bool.true_and, Bool.and_true, Sl.oc hq19z]; try rfl), rfl⟩
 obtain ⟨rw32z, hrw_rw32z⟩ : ∃ r : Raw 2, r.cs = [v7z, I 1, I 1] := ⟨Raw.of [v7z, I 1, I 1] rfl (by simp only [List.all_cons, List.all_nil, Bool.true_and, Bool.and_true, Sl.oc hq23z]; try rfl), rfl⟩
 have hr33z : RepR (α := Work) Bs_13.cells [rw27z, rw28z, rw29z, rw30z, rw31z, rw32z] [(⟨([]), (1 : Int), (5 : Int)⟩ : Work), (⟨([]), (1 : Int), (6 : Int)⟩ : Work), (⟨([(0 : Int), (1 : Int)]), (1 : Int), (10 : Int)⟩ : Work), (⟨([(1 : Int)]), (1 : Int), (30 : Int)⟩ : Work), (⟨([(2 : Int), (3 : Int)]), (1 : Int), (20 : Int)⟩ : Work), (⟨([(4 : Int)]), (1 : Int), (1 : Int)⟩ : Work)] := .cons (by rw [hrw_rw27z]; exact ⟨_, rfl, (Sl.nil _)⟩) <| .cons (by rw [hrw_rw28z]; exact ⟨_, rfl, (Sl.nil _)⟩) <| .cons (by rw [hrw_rw29z]; exact ⟨_, rfl, hq11z⟩) <| .cons (by rw [hrw_rw30z]; exact ⟨_, rfl, hq15z⟩) <| .cons (by rw [hrw_rw31z]; exact ⟨_, rfl, hq19z⟩) <| .cons (by rw [hrw_rw32z]; exact ⟨_, rfl, hq23z⟩) <| .nil
 refine t_bs (α := Raw 2) T22 [.agg #[.slice none 0 0, I 1, I 5], .agg #[.slice none 0 0, I 1, I 6], .agg #[v1z, I 1, I 10], .agg #[v3z, I 1, I 30], .agg #[v5z, I 1, I 20], .agg #[v7z, I 1, I 1]] [rw27z, rw28z, rw29z, rw30z, rw31z, rw32z] H rfl (.cons (by rw [show (Flat.enc rw27z : List Value) = rw27z.cs from rfl, hrw_rw27z]; rfl) (Flat.rep_enc _ _) <| .cons (by rw [show (Flat.enc rw28z : List Value) = rw28z.cs from rfl, hrw_rw28z]; rfl) (Flat.rep_enc _ _) <| .cons (by rw [show (Flat.enc rw29z : List Value) = rw29z.cs from rfl, hrw_rw29z]; rfl) (Flat.rep_enc _ _) <| .cons (by rw [show (Flat.enc rw30z : List Value) = rw30z.cs from rfl, hrw_rw30z]; rfl) (Flat.rep_enc _ _) <| .cons (by rw [show (Flat.enc rw31z : List Value) = rw31z.cs from rfl, hrw_rw31z]; rfl) (Flat.rep_enc _ _) <| .cons (by rw [show (Flat.enc rw32z : List Value) = rw32z.cs from rfl, hrw_rw32z]; rfl) (Flat.rep_enc _ _) <| .nil) rfl rfl rfl ?_
 intro v34z w35z H
 replace H : St w w35z [cOwn (α := Raw 2) 60 v34z ([rw27z, rw28z, rw29z, rw30z, rw31z, rw32z]), cRo Bs_13, cRo Bs_11, cRo Bs_9, cRo Bs_7, cRo Bs_5, cRo Bs_12, cRo Bs_10, cRo Bs_8, cRo Bs_6] R := H
 refine sA v34z rfl <| s_nil ?_
 refine W.ret ?_
 have hr_ := M.e_pure hM
 exact ⟨_, resE_tmp rfl, ⟨([(⟨([]), (1 : Int), (5 : Int)⟩ : Work), (⟨([]), (1 : Int), (6 : Int)⟩ : Work), (⟨([(0 : Int), (1 : Int)]), (1 : Int), (10 : Int)⟩ : Work), (⟨([(1 : Int)]), (1 : Int), (30 : Int)⟩ : Work), (⟨([(2 : Int), (3 : Int)]), (1 : Int), (20 : Int)⟩ : Work), (⟨([(4 : Int)]), (1 : Int), (1 : Int)⟩ : Work)]), v34z, [rw27z, rw28z, rw29z, rw30z, rw31z, rw32z], Bs_13, hr_, rfl, (H.pick [0, 1] (by decide) rfl), hr33z⟩⟩

def m_notes_web_made (w__list_works : List Work) (one : Int) : M Int :=
  M.pure one
theorem notes_web_made_ok {R : List Chunk} {b_w_ : Nat} {C_w__list_works : Cells} {v_w__list_works : Value} (w__list_works : List Work) (one : Int) (hC_w__list_works : Reads R C_w__list_works) (hs_w__list_works : Sl C_w__list_works v_w__list_works w__list_works) (h_b_w_ : Has R (cBlk b_w_ [v_w__list_works] 187)) {r : Int} (hM : (m_notes_web_made w__list_works one).Ends r) (w : World) (H : St w w [] R) : Ret Try.prog 98 #[Pz b_w_, I one] w fun v w' => ∃ (y0 : Int) (nb0 : Nat) (nb1 : Nat), y0 = r ∧ v = .func (.func 148) #[] #[Pz nb0, Pz nb1] ∧ St w w' [cBlk nb0 [Pz b_w_] 127, cBlk nb1 [I y0] 3] R := by
 refine ret_of_W Try.func98 rfl rfl rfl ?_
 refine W.seq <| W.region rfl ?_
 refine t_box (v := Pz b_w_) (cs := [Pz b_w_]) H rfl rfl ?_
 intro b_1 w1z H
 refine t_box (v := I one) (cs := [I one]) H rfl rfl ?_
 intro b_2 w2z H
 refine sA .nilFunc rfl <| s_nil <| W.seq <| W.region rfl <| s_val (x_mf (fs := []) (cs := [Pz b_1, Pz b_2]) rfl rfl) <| sA (.func (.func 148) #[] #[Pz b_1, Pz b_2]) rfl <| s_nil ?_
 refine W.ret ?_
 have hr_ := M.e_pure hM
 exact ⟨_, resE_tmp rfl, ⟨one, b_1, b_2, hr_, rfl, (H.pick [1, 0] (by decide) rfl)⟩⟩

def m_slices_IndexFunc_int_b0 (s : List Int) (f : Int → M Bool) : Nat → M (Nat ⊕ (Int ⊕ Unit)) := fun s2 =>
  bif decide ((s2 : Int) < (s.length : Int)) then (
  M.grd (decide ((s2 : Int) < (s.length : Int))) <|
  M.bind (f (s.getD s2 0)) fun r2 =>
  bif r2 then (
  M.pure (.inr (.inl (s2 : Int))))
  else (
  M.pure (.inl (s2 + 1))))
  else (
  M.pure (.inr (.inr ())))
def m_slices_IndexFunc_int (s : List Int) (f : Int → M Bool) : M Int :=
  M.bind (M.iter (m_slices_IndexFunc_int_b0 s f) 0) fun x_ => match x_ with
  | (.inl s3) => (
  M.pure s3)
  | (.inr (_ : Unit)) => (
  M.pure (-1))
theorem slices_IndexFunc_int_ok {R : List Chunk} {C_s : Cells} {v_s : Value} {v_f : Value} (s : List Int) (f : Int → M Bool) (hC_s : Reads R C_s) (hs_s : Sl C_s v_s s) (hf_f : FnM Try.prog R v_f f) {r : Int} (hM : (m_slices_IndexFunc_int s f).Ends r) (w : World) (H : St w w [] R) : Ret Try.prog 102 #[v_s, v_f] w fun v w' => ∃ (y0 : Int), y0 = r ∧ v = I y0 ∧ St w w' [] R := by
 refine ret_of_W Try.func102 rfl rfl rfl ?_
 refine W.seq <| W.region rfl <| sA (I 0) rfl <| s_nil <| W.seq <| W.seq <| W.region rfl <| sM v_s rfl ?_
 have hl1z := (hs_s).len_le
 refine s_val (x_lenS T34.und rfl hs_s) <| sM (I 0) rfl <| s_nil <| W.block ?_
 obtain ⟨ex2z, hi3z, hk4z⟩ := M.e_bind hM
 obtain ⟨m0_, hi3z⟩ := M.e_iter hi3z
 refine W.loop (fun m σ W => ∃ (s2 : Nat) (ρ : Env), σ = upds ρ [(0, v_s), (1, v_f), (7, I (s.length : Int)), (8, I (s2 : Int))] ∧ M.iterN (m_slices_IndexFunc_int_b0 s f) m s2 = some ex2z ∧ St w W [] R) ?_ ?_
 ·exact ⟨_, 0, _, upds_of _ _ ⟨rfl, rfl, rfl, rfl, trivial⟩, hi3z, H⟩
 rintro m7z σ w5z ⟨s2, ρ, rfl, hI6z, H⟩
 obtain ⟨m8z, lt9z, x10z, hM, hN11z⟩ := M.e_iterN hI6z
 simp only [m_slices_IndexFunc_int_b0] at hM
 clear hI6z
 refine W.seq <| W.region rfl <| sC (s2 : Int) (s.length : Int) (decide ((s2 : Int) < (s.length : Int))) rfl rfl rfl <| s_nil <| W.seq ?_
 refine W.cond (decide ((s2 : Int) < (s.length : Int))) rfl (fun c12z => ?_) (fun c12z => ?_)
 ·replace hM := M.e_t hM c12z
  simp only [qz1, qz2, qz3, qz4, qz5, qz6, ne_eq, qz7] at c12z
  refine W.skip <| W.seq <| W.block <| W.seq <| W.region rfl <| sM (I (s2 : Int)) rfl <| sA (I (s2 : Int)) rfl <| s_nil <| W.seq <| W.region rfl <| sM v_f rfl <| sM v_s rfl ?_
  refine sM (I (s2 : Int)) rfl ?_
  obtain ⟨sd13z, hM⟩ := M.e_grd hM
  simp only [Bool.and_eq_true, decide_eq_true_eq] at sd13z
  refine s_val (x_ix (a := v_s) (b := I (s2 : Int)) (v := vat v_s 1 (Int.toNat (s2 : Int))) rfl rfl (Sl.ix (α := Int) T34.und T34.size hs_s (by omega) (by omega))) <| s_val (x_ld (p := vat v_s 1 (Int.toNat (s2 : Int))) (v := I (s.getD s2 0)) rfl (ld_sc Sc3 (At.mono (Int_at hs_s (i := (s2 : Int)) (by omega) (by omega)) (hC_s.at H)))) ?_
  obtain ⟨r2, hx15z, hM⟩ := M.e_bind hM
  refine t_callM H hf_f rfl rfl (s.getD s2 0) Reads.none (Arg.mkI (fun _ => none) _) hx15z ?_
  intro w14z H
  refine s_nil ?_
  refine W.cond r2 rfl (fun c16z => ?_) (fun c16z => ?_)
  ·replace hM := M.e_t hM c16z
   refine W.seq <| W.region rfl <| sM (I (s2 : Int)) rfl <| sA (I (s2 : Int)) rfl <| s_nil ?_
   refine W.ret ?_
   have hX17z := M.e_inr hM hN11z
   subst hX17z
   replace hM := hk4z
   try dsimp only at hM
   have hr_ := M.e_pure hM
   exact ⟨_, resE_tmp rfl, ⟨(s2 : Int), hr_, rfl, H⟩⟩
  replace hM := M.e_f hM c16z
  refine W.skip <| W.region rfl <| s_val (x_ari (a := (s2 : Int)) (b := 1) (r := (s2 : Int) + 1) rfl rfl rfl (by omega)) <| sM (I ((s2 : Int) + 1)) rfl <| s_nil ?_
  exact ⟨m8z, lt9z, s2 + 1, _, upds_of _ _ ⟨rfl, rfl, rfl, rfl, trivial⟩, M.e_inl hM hN11z, H⟩
 replace hM := M.e_f hM c12z
 simp only [qz1, qz2, qz3, qz4, qz5, qz6, ne_eq, qz7] at c12z
 refine W.exit ?_
 have hX18z := M.e_inr hM hN11z
 subst hX18z
 replace hM := hk4z
 try dsimp only at hM
 refine W.seq <| W.region rfl <| sA (I (-1)) rfl <| s_nil ?_
 refine W.ret ?_
 have hr_ := M.e_pure hM
 exact ⟨_, resE_tmp rfl, ⟨(-1), hr_, rfl, H⟩⟩

def m_slices_ContainsFunc_int (s : List Int) (f : Int → M Bool) : M Bool :=
  M.bind (m_slices_IndexFunc_int s f) fun r2 =>
  M.pure (decide (0 ≤ r2))
theorem slices_ContainsFunc_int_ok {R : List Chunk} {C_s : Cells} {v_s : Value} {v_f : Value} (s : List Int) (f : Int → M Bool) (hC_s : Reads R C_s) (hs_s : Sl C_s v_s s) (hf_f : FnM Try.prog R v_f f) {r : Bool} (hM : (m_slices_ContainsFunc_int s f).Ends r) (w : World) (H : St w w [] R) : Ret Try.prog 48 #[v_s, v_f] w fun v w' => ∃ (y0 : Bool), y0 = r ∧ v = B y0 ∧ St w w' [] R := by
 refine ret_of_W Try.func48 rfl rfl rfl ?_
 refine W.seq <| W.region rfl <| sA (B false) rfl <| s_nil <| W.seq <| W.region rfl <| sM v_s rfl <| sM v_f rfl ?_
 obtain ⟨r2z, hx1z, hM⟩ := M.e_bind hM
 refine s_call cf102 [v_s, v_f] rfl (slices_IndexFunc_int_ok s f (hC_s.app _) hs_s (hf_f.app _) hx1z _ (St.give (T := []) H rfl)) ?_
 rintro vq w3z ⟨r2, hr4z, hvq, H2_⟩
 subst hr4z
 subst vq
 try dsimp only at hM
 replace H : St w w3z [] R := H.back H2_ rfl
 clear H2_
 refine sC r2 0 (decide (0 ≤ r2)) rfl rfl rfl <| sA (B (decide (0 ≤ r2))) rfl <| s_nil ?_
 refine W.ret ?_
 have hr_ := M.e_pure hM
 exact ⟨_, resE_tmp rfl, ⟨(decide (0 ≤ r2)), hr_, rfl, H⟩⟩

def m_notes_every_int__1 (x : Int) (k02 : Int → M Bool) : M Bool :=
  M.bind (k02 x) fun r2 =>
  M.pure (!r2)
theorem notes_every_int__1_ok {R : List Chunk} {b_k0 : Nat} {v_k02 : Value} (x : Int) (k02 : Int → M Bool) (hf_k02 : FnM Try.prog R v_k02 k02) (h_b_k0 : Has R (cBlk b_k0 [v_k02] 75)) {r : Bool} (hM : (m_notes_every_int__1 x k02).Ends r) (w : World) (H : St w w [] R) : Ret Try.prog 143 #[I x, Pz b_k0] w fun v w' => ∃ (y0 : Bool), y0 = r ∧ v = B y0 ∧ St w w' [] R := by
 refine ret_of_W Try.func143 rfl rfl rfl ?_
 refine W.seq <| W.region rfl <| sA (B false) rfl <| s_nil <| W.seq <| W.region rfl <| s_val (x_ld (p := Pz b_k0) (v := v_k02) rfl (ldb_sc Sc75 (h_b_k0.blk H) rfl)) <| sM (I x) rfl ?_
 obtain ⟨r2, hx2z, hM⟩ := M.e_bind hM
 refine t_callM H hf_k02 rfl rfl x Reads.none (Arg.mkI (fun _ => none) _) hx2z ?_
 intro w1z H
 refine s_val (x_not (b := r2) rfl) <| sA (B (!r2)) rfl <| s_nil ?_
 refine W.ret ?_
 have hr_ := M.e_pure hM
 exact ⟨_, resE_tmp rfl, ⟨(!r2), hr_, rfl, H⟩⟩

def m_notes_every_int (so : Int → M Bool) (l : List Int) : M Bool :=
  M.bind (m_slices_ContainsFunc_int l (fun xqz => m_notes_every_int__1 xqz so)) fun r2 =>
  M.pure (!r2)
theorem notes_every_int_ok {R : List Chunk} {v_so : Value} {C_l : Cells} {v_l : Value} (so : Int → M Bool) (l : List Int) (hf_so : FnM Try.prog R v_so so) (hC_l : Reads R C_l) (hs_l : Sl C_l v_l l) {r : Bool} (hM : (m_notes_every_int so l).Ends r) (w : World) (H : St w w [] R) : Ret Try.prog 87 #[v_so, v_l] w fun v w' => ∃ (y0 : Bool), y0 = r ∧ v = B y0 ∧ St w w' [] R := by
 refine ret_of_W Try.func87 rfl rfl rfl ?_
 refine W.seq <| W.region rfl ?_
 refine t_box (v := v_so) (cs := [v_so]) H rfl (FnM.cells hf_so) ?_
 intro b_1 w1z H
 refine sA (B false) rfl <| s_nil <| W.seq <| W.region rfl <| sM v_l rfl <| s_val (x_mf (fs := []) (cs := [Pz b_1]) rfl rfl) ?_
 obtain ⟨r3z, hx2z, hM⟩ := M.e_bind hM
 refine s_call cf48 [v_l, .func (.func 143) #[] #[Pz b_1]] rfl (slices_ContainsFunc_int_ok l (fun xqz => m_notes_every_int__1 xqz so) (hC_l.app _) hs_l ⟨143, [Pz b_1], rfl, cf143, fun wqz Lqz Cqz vqz xqz bqz hsqz hCqz hAqz hpqz => by obtain rfl := Arg.int hAqz; exact (notes_every_int__1_ok xqz so (FnM.app (hf_so.app _) _) (Has.app (Has.here (k := 0) rfl) _) hpqz wqz (St.refl hsqz)).mono fun vqz wqz ⟨yqz, hrqz, hvqz, Hqz⟩ => by subst hrqz; exact ⟨hvqz, Hqz⟩⟩ hx2z _ (St.give (T := [cBlk b_1 [v_so] 75]) H rfl)) ?_
 rintro vq w4z ⟨r2, hr5z, hvq, H2_⟩
 subst hr5z
 subst vq
 try dsimp only at hM
 replace H : St w w4z [cBlk b_1 [v_so] 75] R := H.back H2_ rfl
 clear H2_
 refine s_val (x_not (b := r2) rfl) <| sA (B (!r2)) rfl <| s_nil ?_
 refine W.ret ?_
 have hr_ := M.e_pure hM
 exact ⟨_, resE_tmp rfl, ⟨(!r2), hr_, rfl, (H.pick [] (by decide) rfl)⟩⟩

def m_notes_Fences_1 (i : Int) (k02 : List Int) : M Bool :=
  M.pure (k02.contains i)
theorem notes_Fences_1_ok {R : List Chunk} {b_k0 : Nat} {C_k02 : Cells} {v_k02 : Value} (i : Int) (k02 : List Int) (hC_k02 : Reads R C_k02) (hs_k02 : Sl C_k02 v_k02 k02) (h_b_k0 : Has R (cBlk b_k0 [v_k02] 34)) {r : Bool} (hM : (m_notes_Fences_1 i k02).Ends r) (w : World) (H : St w w [] R) : Ret Try.prog 97 #[I i, Pz b_k0] w fun v w' => ∃ (y0 : Bool), y0 = r ∧ v = B y0 ∧ St w w' [] R := by
 refine ret_of_W Try.func97 rfl rfl rfl ?_
 refine W.seq <| W.region rfl <| sA (B false) rfl <| s_nil <| W.seq <| W.region rfl <| s_val (x_ld (p := Pz b_k0) (v := v_k02) rfl (ldb_sc Sc34 (h_b_k0.blk H) rfl)) <| sM (I i) rfl ?_
 refine s_call cf45 [v_k02, I i] rfl (contains_int i _ (hs_k02.mono (hC_k02.at H))) ?_
 rintro _ w1z ⟨rfl, hx_⟩
 replace H : St w w1z [] R := H.ext hx_
 clear hx_
 refine sA (B (k02.contains i)) rfl <| s_nil ?_
 refine W.ret ?_
 have hr_ := M.e_pure hM
 exact ⟨_, resE_tmp rfl, ⟨(k02.contains i), hr_, rfl, H⟩⟩

def m_notes_web_of (w__list_works : List Work) (work : Int) (other : Int) : M Bool :=
  M.grd (decide ((0 : Int) ≤ work) && decide (work < (w__list_works.length : Int))) <|
  M.pure (((w__list_works.getD (Int.toNat work) default).of).contains other)
theorem notes_web_of_ok {R : List Chunk} {b_w_ : Nat} {C_w__list_works : Cells} {v_w__list_works : Value} (w__list_works : List Work) (work : Int) (other : Int) (hC_w__list_works : Reads R C_w__list_works) (hs_w__list_works : Sl C_w__list_works v_w__list_works w__list_works) (h_b_w_ : Has R (cBlk b_w_ [v_w__list_works] 187)) {r : Bool} (hM : (m_notes_web_of w__list_works work other).Ends r) (w : World) (H : St w w [] R) : Ret Try.prog 149 #[Pz b_w_, I work, I other] w fun v w' => ∃ (y0 : Bool), y0 = r ∧ v = B y0 ∧ St w w' [] R := by
 refine ret_of_W Try.func149 rfl rfl rfl ?_
 refine W.seq <| W.region rfl <| sA (B false) rfl <| s_nil <| W.seq <| W.region rfl <| sM (Pz b_w_) rfl <| s_val (x_nc (a := ⟨b_w_, 0, none⟩) rfl) <| s_val (x_fa (a := Pz b_w_) (v := Pz b_w_) rfl (fa_blk (o := 0) Fd187_0 Sz185)) <| s_val (x_fa (a := Pz b_w_) (v := Pz b_w_) rfl (fa_blk (o := 0) Fd185_0 Sz22)) <| s_val (x_ld (p := Pz b_w_) (v := v_w__list_works) rfl (ldb_sc Sc22 (h_b_w_.blk H) rfl)) <| sM (I work) rfl ?_
 obtain ⟨sd1z, hM⟩ := M.e_grd hM
 simp only [Bool.and_eq_true, decide_eq_true_eq] at sd1z
 refine s_val (x_ix (a := v_w__list_works) (b := I work) (v := vat v_w__list_works 3 (Int.toNat work)) rfl rfl (Sl.ix (α := Work) T22.und T22.size hs_w__list_works (by omega) (by omega))) <| s_val (x_fa (a := vat v_w__list_works 3 (Int.toNat work)) (v := fat (vat v_w__list_works 3 (Int.toNat work)) 0) rfl (fa_pl Fd60_0 Sz34 (Sl.pl (i := work) hs_w__list_works (by omega) (by omega)))) ?_
 obtain ⟨u2z, ha_u2z, hs3z⟩ := Work_at0 hs_w__list_works (i := work) (by omega) (by omega)
 replace hs3z : Sl _ u2z (w__list_works.getD (Int.toNat work) default).of := hs3z
 have hl_hs3z := hs3z.len_le
 refine s_val (x_ld (p := fat (vat v_w__list_works 3 (Int.toNat work)) 0) (v := u2z) rfl (ld_sc Sc34 (At.mono (ha_u2z) (hC_w__list_works.at H)))) <| sM (I other) rfl ?_
 refine s_call cf45 [u2z, I other] rfl (contains_int other _ (hs3z.mono (hC_w__list_works.at H))) ?_
 rintro _ w4z ⟨rfl, hx_⟩
 replace H : St w w4z [] R := H.ext hx_
 clear hx_
 refine sA (B (((w__list_works.getD (Int.toNat work) default).of).contains other)) rfl <| s_nil ?_
 refine W.ret ?_
 have hr_ := M.e_pure hM
 exact ⟨_, resE_tmp rfl, ⟨(((w__list_works.getD (Int.toNat work) default).of).contains other), hr_, rfl, H⟩⟩

def m_notes_web_made_1_b0 {T_ : Type} (yield_ : T_ → Int → M (Bool × T_)) (k022 : List Work) (k12 : Int) : (Nat × T_) → M ((Nat × T_) ⊕ (T_ ⊕ T_)) := fun (s, t2) =>
  bif decide ((s : Int) < (k022.length : Int)) then (
  M.bind (m_notes_web_of k022 (s : Int) k12) fun r2 =>
  bif r2 then (
  M.bind (yield_ t2 (s : Int)) fun (go6, t9) =>
  bif (r2 && (!go6)) then (
  M.pure (.inr (.inl t9)))
  else (
  M.pure (.inl (s + 1, t9))))
  else (
  bif (r2 && (!false)) then (
  M.pure (.inr (.inl t2)))
  else (
  M.pure (.inl (s + 1, t2)))))
  else (
  M.pure (.inr (.inr t2)))
def m_notes_web_made_1 {T_ : Type} (yield_ : T_ → Int → M (Bool × T_)) (t_ : T_) (k022 : List Work) (k12 : Int) : M T_ :=
  M.bind (M.iter (m_notes_web_made_1_b0 yield_ k022 k12) (0, t_)) fun x_ => match x_ with
  | (.inl t6) => (
  M.pure t6)
  | (.inr t7) => (
  M.pure t7)
theorem notes_web_made_1_ok {R : List Chunk} {T_ : Type} {Y_ : T_ → List Chunk → Prop} {v_yield_ : Value} {Ls_ : List Chunk} {b_k0 : Nat} {b_k02 : Nat} {C_k022 : Cells} {v_k022 : Value} {b_k1 : Nat} (yield_ : T_ → Int → M (Bool × T_)) (t_ : T_) (k022 : List Work) (k12 : Int) (hf_yield_ : YieldC Try.prog R arI Y_ v_yield_ yield_) (hY_ : Y_ t_ Ls_) (hC_k022 : Reads R C_k022) (hs_k022 : Sl C_k022 v_k022 k022) (h_b_k02 : Has R (cBlk b_k02 [v_k022] 187)) (h_b_k0 : Has R (cBlk b_k0 [Pz b_k02] 127)) (h_b_k1 : Has R (cBlk b_k1 [I k12] 3)) {r : T_} (hM : (m_notes_web_made_1 yield_ t_ k022 k12).Ends r) (w : World) (H : St w w [cAll Ls_] R) : Ret Try.prog 148 #[v_yield_, Pz b_k0, Pz b_k1] w fun v w' => ∃ (y0 : T_) (Ls0 : List Chunk), y0 = r ∧ v = .tuple #[] ∧ St w w' [cAll Ls0] R ∧ Y_ y0 Ls0 := by
 refine ret_of_W Try.func148 rfl rfl rfl ?_
 refine W.seq <| W.region rfl <| s_val (x_ld (p := Pz b_k0) (v := Pz b_k02) rfl (ldb_sc Sc127 (h_b_k0.blk H) rfl)) <| s_val (x_nc (a := ⟨b_k02, 0, none⟩) rfl) <| s_val (x_fa (a := Pz b_k02) (v := Pz b_k02) rfl (fa_blk (o := 0) Fd187_0 Sz185)) <| s_val (x_fa (a := Pz b_k02) (v := Pz b_k02) rfl (fa_blk (o := 0) Fd185_0 Sz22)) <| s_val (x_ld (p := Pz b_k02) (v := v_k022) rfl (ldb_sc Sc22 (h_b_k02.blk H) rfl)) ?_
 have hl1z := (hs_k022).len_le
 refine s_val (x_lenS T22.und rfl hs_k022) <| sM (I 0) rfl <| s_nil <| W.block ?_
 obtain ⟨ex2z, hi3z, hk4z⟩ := M.e_bind hM
 obtain ⟨m0_, hi3z⟩ := M.e_iter hi3z
 refine W.loop (fun m σ W => ∃ (s : Nat) (t2 : T_) (Ls_t2 : List Chunk) (ρ : Env), σ = upds ρ [(0, v_yield_), (1, Pz b_k0), (2, Pz b_k1), (10, I (k022.length : Int)), (11, I (s : Int))] ∧ M.iterN (m_notes_web_made_1_b0 yield_ k022 k12) m (s, t2) = some ex2z ∧ St w W [cAll Ls_t2] R ∧ Y_ t2 Ls_t2) ?_ ?_
 ·exact ⟨_, 0, t_, Ls_, _, upds_of _ _ ⟨rfl, rfl, rfl, rfl, rfl, trivial⟩, hi3z, H, hY_⟩
 rintro m7z σ w5z ⟨s, t2, Ls_t2, ρ, rfl, hI6z, H, hY_t2⟩
 obtain ⟨m8z, lt9z, x10z, hM, hN11z⟩ := M.e_iterN hI6z
 simp only [m_notes_web_made_1_b0] at hM
 clear hI6z
 refine W.seq <| W.region rfl <| sC (s : Int) (k022.length : Int) (decide ((s : Int) < (k022.length : Int))) rfl rfl rfl <| s_nil <| W.seq ?_
 refine W.cond (decide ((s : Int) < (k022.length : Int))) rfl (fun c12z => ?_) (fun c12z => ?_)
 ·replace hM := M.e_t hM c12z
  simp only [qz1, qz2, qz3, qz4, qz5, qz6, ne_eq, qz7] at c12z
  refine W.skip <| W.seq <| W.block <| W.seq <| W.region rfl <| sM (I (s : Int)) rfl <| sA (I (s : Int)) rfl <| s_nil <| W.seq <| W.region rfl <| s_val (x_ld (p := Pz b_k0) (v := Pz b_k02) rfl (ldb_sc Sc127 (h_b_k0.blk H) rfl)) <| sM (I (s : Int)) rfl ?_
  refine s_val (x_ld (p := Pz b_k1) (v := I k12) rfl (ldb_sc Sc3 (h_b_k1.blk H) rfl)) ?_
  obtain ⟨r14z, hx13z, hM⟩ := M.e_bind hM
  refine s_call cf149 [Pz b_k02, I (s : Int), I k12] rfl (notes_web_of_ok k022 (s : Int) k12 (hC_k022.app _) hs_k022 (h_b_k02.app _) hx13z _ (St.give (T := [cAll Ls_t2]) H rfl)) ?_
  rintro vq w15z ⟨r2, hr16z, hvq, H2_⟩
  subst hr16z
  subst vq
  try dsimp only at hM
  replace H : St w w15z [cAll Ls_t2] R := H.back H2_ rfl
  clear H2_
  refine sM (B r2) rfl <| g_val r2 (gy_t rfl) (fun hg => x_mv (v := v_yield_) rfl) <| g_val r2 (gy_t rfl) (fun hg => x_mv (v := I (s : Int)) rfl) ?_
  refine g_splitV r2 (B false) (gy_t rfl) (fun hg_ => ?_) (fun hg_ => ?_)
  ·replace hM := M.e_t hM hg_
   obtain ⟨⟨go7, t10⟩, hx17z, hM⟩ := M.e_bind hM
   try dsimp only at hM
   refine t_yield (L := []) H hf_yield_ hY_t2 (by exact (gd_of (c := r2) hg_ (v_yield_))) [I (s : Int)] (lst1 (gd_of (c := r2) hg_ (I (s : Int)))) (s : Int) Reads.none rfl hx17z ?_
   intro Ls18z w20z hY19z H
   replace H : St w w20z [cAll Ls18z] R := H
   refine g_val r2 (gy_t rfl) (fun hg => x_not (b := go7) rfl) <| s_val (x_pand (b := r2) (r := !go7) rfl (fun hb => gd_of (c := r2) (by simp_all) (B (!go7))) rfl) <| s_nil ?_
   refine W.cond (r2 && (!go7)) rfl (fun c21z => ?_) (fun c21z => ?_)
   ·replace hM := M.e_t hM c21z
    refine W.ret ?_
    have hX22z := M.e_inr hM hN11z
    subst hX22z
    replace hM := hk4z
    try dsimp only at hM
    have hr_ := M.e_pure hM
    exact ⟨_, resE_tmp0 rfl, ⟨t10, Ls18z, hr_, rfl, H, hY19z⟩⟩
   replace hM := M.e_f hM c21z
   refine W.skip <| W.region rfl <| s_val (x_ari (a := (s : Int)) (b := 1) (r := (s : Int) + 1) rfl rfl rfl (by omega)) <| sM (I ((s : Int) + 1)) rfl <| s_nil ?_
   exact ⟨m8z, lt9z, s + 1, t10, Ls18z, _, upds_of _ _ ⟨rfl, rfl, rfl, rfl, rfl, trivial⟩, M.e_inl hM hN11z, H, hY19z⟩
  replace hM := M.e_f hM hg_
  refine g_val r2 (gy_t rfl) (fun hg => x_not (b := false) (gd_of (c := r2) hg (B false))) <| s_val (x_pand (b := r2) (r := !false) rfl (fun hb => gd_of (c := r2) (by simp_all) (B (!false))) rfl) <| s_nil ?_
  refine W.cond (r2 && (!false)) rfl (fun c23z => ?_) (fun c23z => ?_)
  ·replace hM := M.e_t hM c23z
   refine W.ret ?_
   have hX24z := M.e_inr hM hN11z
   subst hX24z
   replace hM := hk4z
   try dsimp only at hM
   have hr_ := M.e_pure hM
   exact ⟨_, resE_tmp0 rfl, ⟨t2, Ls_t2, hr_, rfl, H, hY_t2⟩⟩
  replace hM := M.e_f hM c23z
  refine W.skip <| W.region rfl <| s_val (x_ari (a := (s : Int)) (b := 1) (r := (s : Int) + 1) rfl rfl rfl (by omega)) <| sM (I ((s : Int) + 1)) rfl <| s_nil ?_
  exact ⟨m8z, lt9z, s + 1, t2, Ls_t2, _, upds_of _ _ ⟨rfl, rfl, rfl, rfl, rfl, trivial⟩, M.e_inl hM hN11z, H, hY_t2⟩
 replace hM := M.e_f hM c12z
 simp only [qz1, qz2, qz3, qz4, qz5, qz6, ne_eq, qz7] at c12z
 refine W.exit ?_
 have hX25z := M.e_inr hM hN11z
 subst hX25z
 replace hM := hk4z
 try dsimp only at hM
 have hr_ := M.e_pure hM
 exact ⟨_, resE_tmp0 rfl, ⟨t2, Ls_t2, hr_, rfl, H, hY_t2⟩⟩
theorem m_notes_web_made_1_le {T_ : Type} {n_ : Nat} {y y' : T_ → Int → M (Bool × T_)} (h : ∀ s a, M.LeN n_ (y s a) (y' s a)) (t_ : T_) (k022 : List Work) (k12 : Int) : M.LeN n_ (m_notes_web_made_1 y t_ k022 k12) (m_notes_web_made_1 y' t_ k022 k12) := by
  simp only [m_notes_web_made_1, m_notes_web_made_1_b0]
  repeat' (first | exact M.le_same _ _ | exact h _ _ | refine M.le_grd ?_ | refine M.le_if ?_ ?_ | refine M.le_bind ?_ (fun x => ?_) | refine M.le_opt ?_ | refine M.le_iter (fun x => ?_) _ | (rename_i x; cases x) | (rename_i x; obtain ⟨_, _⟩ := x))

def m_notes_Fences_b0 (fence : List Int) : Nat → M (Nat ⊕ Unit) := fun s =>
  bif decide ((s : Int) < (fence.length : Int)) then (
  M.grd (decide ((s : Int) < (fence.length : Int))) <|
  M.fail)
  else (
  M.pure (.inr ()))
def m_notes_Fences_b1 (fence : List Int) : Nat → M (Nat ⊕ Unit) := fun s =>
  bif decide ((s : Int) < (fence.length : Int)) then (
  M.grd (decide ((s : Int) < (fence.length : Int))) <|
  M.fail)
  else (
  M.pure (.inr ()))
def m_notes_Fences_b3 (fence : List Int) : Unit → Int → M (Unit ⊕ Unit) := fun (_ : Unit) x =>
  M.bind (m_notes_Fences_1 x fence) fun r3 =>
  bif !r3 then (
  M.pure (.inr ()))
  else (
  M.pure (.inl ()))
def m_notes_Fences_b4 (w_ : List Work) (fence : List Int) : Nat → M (Nat ⊕ (Unit ⊕ Unit)) := fun s =>
  bif decide ((s : Int) < (fence.length : Int)) then (
  M.grd (decide ((s : Int) < (fence.length : Int))) <|
  M.bind (m_notes_web_made w_ (fence.getD s 0)) fun r10 =>
  M.bind (m_notes_web_made_1 (M.yl (m_notes_Fences_b3 fence)) (.inl ()) w_ r10) fun x_ => match x_ with
  | .inl _ => (
  M.pure (.inl (s + 1)))
  | .inr _ => (
  M.pure (.inr (.inl ()))))
  else (
  M.pure (.inr (.inr ())))
def m_notes_Fences (w_ : List Work) (revised : List Int) (fence : List Int) : M (Bool × Int) :=
  bif (askedE w_ revised == 0) then (
  bif (0 : Int) == 0 then (bif (listedE w_.length fence) != 0 then (
  M.pure (false, (listedE w_.length fence)))
  else (
  M.bind (M.iter (m_notes_Fences_b4 w_ fence) 0) fun x_ => match x_ with
  | (.inl (_ : Unit)) => (
  M.pure (false, 0))
  | (.inr (_ : Unit)) => (
  M.bind (m_notes_every_int (fun xqz => m_notes_Fences_1 xqz fence) revised) fun r2 =>
  M.pure (r2, 0)))) else (M.fail))
  else (
  bif (askedE w_ revised) == 0 then (
  bif (listedE w_.length fence) != 0 then (
  M.pure (false, (listedE w_.length fence)))
  else (
  M.bind (M.iter (m_notes_Fences_b0 fence) 0) fun (_ : Unit) =>
  M.bind (m_notes_every_int (fun xqz => m_notes_Fences_1 xqz fence) revised) fun r2 =>
  M.pure (r2, 0)))
  else (
  bif (askedE w_ revised) != 0 then (
  M.pure (false, (askedE w_ revised)))
  else (
  M.bind (M.iter (m_notes_Fences_b1 fence) 0) fun (_ : Unit) =>
  M.bind (m_notes_every_int (fun xqz => m_notes_Fences_1 xqz fence) revised) fun r2 =>
  M.pure (r2, 0))))
theorem notes_Fences_ok {R : List Chunk} {C_w_ : Cells} {v_w_ : Value} {C_revised : Cells} {v_revised : Value} {C_fence : Cells} {v_fence : Value} (w_ : List Work) (revised : List Int) (fence : List Int) (hC_w_ : Reads R C_w_) (hs_w_ : Sl C_w_ v_w_ w_) (hC_revised : Reads R C_revised) (hs_revised : Sl C_revised v_revised revised) (hC_fence : Reads R C_fence) (hs_fence : Sl C_fence v_fence fence) {r : (Bool × Int)} (hM : (m_notes_Fences w_ revised fence).Ends r) (w : World) (H : St w w [] R) : Ret Try.prog 34 #[v_w_, v_revised, v_fence] w fun v w' => ∃ (y0 : Bool) (y1 : Int), (y0, y1) = r ∧ v = .tuple #[B y0, I y1] ∧ St w w' [] R := by
 refine ret_of_WD Try.func34 rfl rfl rfl ?_
 replace H : St w w [cMk ([])] R := H.mk0
 have hl_w_ := hs_w_.len_le
 have hl_revised := hs_revised.len_le
 have hl_fence := hs_fence.len_le
 unfold m_notes_Fences at hM
 refine WD.seq ?_
 refine WD.of ?_
 refine W.region rfl ?_
 refine t_box (v := v_fence) (cs := [v_fence]) H rfl (Sl.cells hs_fence) ?_
 intro b_1 w1z H
 refine t_alloc (cs := [B false]) H Al4 rfl ?_
 intro b_2 w2z H
 refine t_alloc (cs := [I 0]) H Al35 rfl ?_
 intro b_3 w3z H
 refine s_nil ?_
 refine WD.seq ?_
 refine WD.of ?_
 refine W.region rfl <| sM v_w_ rfl <| sM v_revised rfl ?_
 refine s_call cf92 [v_w_, v_revised] rfl (asked_any _ (hs_w_.mono (hC_w_.at H)) (hs_revised.mono (hC_revised.at H))) ?_
 rintro _ w4z (⟨he_, rfl, hx_⟩ | ⟨he_, b_4, u5z, rfl, hn_, hs6z⟩)
 ·replace hM := M.e_f hM (by simpa using he_)
  replace H : St w w4z [cBlk b_3 [I 0] 35, cBlk b_2 [B false] 4, cBlk b_1 [v_fence] 34, cMk ([])] R := H.ext hx_
  clear hx_
  refine sM (.tuple #[.pointer none, .slice none 0 0, .agg (encB (List.replicate 30 false)).toArray, I (askedE w_ revised)]) rfl <| s_val (x_ext (vs := [.pointer none, .slice none 0 0, .agg (encB (List.replicate 30 false)).toArray, I (askedE w_ revised)]) (v := .pointer none) rfl rfl) <| s_val (x_ext (vs := [.pointer none, .slice none 0 0, .agg (encB (List.replicate 30 false)).toArray, I (askedE w_ revised)]) (v := .slice none 0 0) rfl rfl) <| s_val (x_ext (vs := [.pointer none, .slice none 0 0, .agg (encB (List.replicate 30 false)).toArray, I (askedE w_ revised)]) (v := .agg (encB (List.replicate 30 false)).toArray) rfl rfl) <| s_val (x_ext (vs := [.pointer none, .slice none 0 0, .agg (encB (List.replicate 30 false)).toArray, I (askedE w_ revised)]) (v := I (askedE w_ revised)) rfl rfl) ?_
  refine t_alloc (cs := encB (List.replicate 30 false)) H Al141 rfl ?_
  intro b_6 w7z H
  have hl_b_6 : (List.replicate 30 false).length = 30 := by simp
  refine sA (.pointer none) rfl <| sA (.slice none 0 0) rfl ?_
  refine t_stArrA (k := 0) (b := b_6) (l := List.replicate 30 false) (l' := List.replicate 30 false) (L' := [cBlk b_6 (encB (List.replicate 30 false)) 141, cBlk b_3 [I 0] 35, cBlk b_2 [B false] 4, cBlk b_1 [v_fence] 34, cMk ([])]) H rfl rfl rfl Sz141 hl_b_6 (List.length_replicate) rfl ?_
  intro w8z H
  refine sA (I (askedE w_ revised)) rfl <| s_nil ?_
  refine WD.seq ?_
  refine WD.seq ?_
  refine WD.of ?_
  refine W.region rfl <| sM (I (askedE w_ revised)) rfl <| sC (askedE w_ revised) 0 ((askedE w_ revised) == 0) rfl rfl rfl <| s_nil ?_
  refine WD.cond ((askedE w_ revised) == 0) rfl (fun c9z => ?_) (fun c9z => ?_)
  ·replace hM := M.e_t hM c9z
   simp only [qz1, qz2, qz3, qz4, qz5, qz6, ne_eq, qz7] at c9z
   refine WD.of ?_
   refine W.region rfl <| sM v_w_ rfl <| s_val (x_ld (p := Pz b_1) (v := v_fence) rfl (ldb_sc Sc34 (H.blk (k := 3) rfl) rfl)) ?_
   refine s_call cf96 [v_w_, v_fence] rfl (listed_any _ (hs_w_.mono (hC_w_.at H)) (hs_fence.mono (hC_fence.at H))) ?_
   rintro _ w10z ⟨rfl, hx_⟩
   replace H : St w w10z [cBlk b_6 (encB (List.replicate 30 false)) 141, cBlk b_3 [I 0] 35, cBlk b_2 [B false] 4, cBlk b_1 [v_fence] 34, cMk ([])] R := H.ext hx_
   clear hx_
   refine sA (I (listedE w_.length fence)) rfl <| s_nil ?_
   refine WD.seq ?_
   refine WD.seq ?_
   refine WD.of ?_
   refine W.region rfl <| sM (I (listedE w_.length fence)) rfl <| sC (listedE w_.length fence) 0 ((listedE w_.length fence) != 0) rfl rfl rfl <| s_nil ?_
   refine WD.cond ((listedE w_.length fence) != 0) rfl (fun c11z => ?_) (fun c11z => ?_)
   ·replace hM := M.e_t hM c11z
    simp only [qz1, qz2, qz3, qz4, qz5, qz6, ne_eq, qz7] at c11z
    refine WD.seq ?_
    refine WD.of ?_
    refine W.region rfl <| sM (I (listedE w_.length fence)) rfl ?_
    refine t_st (k := 2) (b := b_2) (off := 0) (cs := [B false]) (vs := [B false]) (cs' := [B false]) (v := B false) (L' := [cBlk b_6 (encB (List.replicate 30 false)) 141, cBlk b_3 [I 0] 35, cBlk b_2 [B false] 4, cBlk b_1 [v_fence] 34, cMk ([])]) H rfl rfl rfl Sz4 rfl rfl rfl rfl rfl rfl ?_
    intro w12z H
    refine t_st (k := 1) (b := b_3) (off := 0) (cs := [I 0]) (vs := [I (listedE w_.length fence)]) (cs' := [I (listedE w_.length fence)]) (v := I (listedE w_.length fence)) (L' := [cBlk b_6 (encB (List.replicate 30 false)) 141, cBlk b_3 [I (listedE w_.length fence)] 35, cBlk b_2 [B false] 4, cBlk b_1 [v_fence] 34, cMk ([])]) H rfl rfl rfl Sz35 rfl rfl rfl rfl rfl rfl ?_
    intro w13z H
    refine s_nil ?_
    refine WD.of ?_
    refine W.ret ?_
    refine bodyD_r (H.pick [4, 0, 1, 2, 3] (by decide) rfl) ?_
    intro w14z H
    replace H : St w w14z [cBlk b_6 (encB (List.replicate 30 false)) 141, cBlk b_3 [I (listedE w_.length fence)] 35, cBlk b_2 [B false] 4, cBlk b_1 [v_fence] 34] R := H
    have hb15z := (H.blk (k := 2) rfl)
    have hb16z := (H.blk (k := 1) rfl)
    have hr_ := M.e_pure hM
    exact ⟨_, (resE_ofn (vs := [B false, I (listedE w_.length fence)]) rfl rfl (.cell (v := B false) rfl (run_loadVar_sc Sc4 hb15z rfl) <| .cell (v := I (listedE w_.length fence)) rfl (run_loadVar_sc Sc35 hb16z rfl) <| .nil)), ⟨false, (listedE w_.length fence), hr_, rfl, (H.pick [] (by decide) rfl)⟩⟩
   replace hM := M.e_f hM c11z
   simp only [qz1, qz2, qz3, qz4, qz5, qz6, ne_eq, qz7] at c11z
   refine WD.of ?_
   refine W.skip ?_
   refine WD.seq ?_
   refine WD.of ?_
   refine W.region rfl <| s_val (x_mf (fs := []) (cs := [Pz b_1]) rfl rfl) ?_
   refine t_alloc (cs := [.nilFunc]) H Al75 rfl ?_
   intro b_7 w17z H
   refine t_st (k := 0) (b := b_7) (off := 0) (cs := [.nilFunc]) (vs := [.func (.func 97) #[] #[Pz b_1]]) (cs' := [.func (.func 97) #[] #[Pz b_1]]) (v := .func (.func 97) #[] #[Pz b_1]) (L' := [cBlk b_7 [.func (.func 97) #[] #[Pz b_1]] 75, cBlk b_6 (encB (List.replicate 30 false)) 141, cBlk b_3 [I 0] 35, cBlk b_2 [B false] 4, cBlk b_1 [v_fence] 34, cMk ([])]) H rfl rfl rfl Sz75 rfl rfl rfl rfl rfl rfl ?_
   intro w18z H
   refine s_nil ?_
   refine WD.seq ?_
   refine WD.seq ?_
   refine WD.of ?_
   refine W.region rfl <| s_val (x_ld (p := Pz b_1) (v := v_fence) rfl (ldb_sc Sc34 (H.blk (k := 4) rfl) rfl)) ?_
   have hl19z := (hs_fence).len_le
   refine s_val (x_lenS T34.und rfl hs_fence) <| sM (I 0) rfl <| s_nil ?_
   refine WD.block ?_
   obtain ⟨ex20z, hi21z, hk22z⟩ := M.e_bind hM
   obtain ⟨m0_, hi21z⟩ := M.e_iter hi21z
   refine WD.loop (fun m Ds23z σ W => ∃ (s : Nat) (ρ : Env), σ = upds ρ [(1, v_revised), (6, Pz b_2), (7, Pz b_3), (8, .pointer none), (12, Pz b_7), (33, v_fence), (34, I (fence.length : Int)), (35, I (s : Int))] ∧ M.iterN (m_notes_Fences_b0 fence) m s = some ex20z ∧ St w W [cBlk b_7 [.func (.func 97) #[] #[Pz b_1]] 75, cBlk b_6 (encB (List.replicate 30 false)) 141, cBlk b_3 [I 0] 35, cBlk b_2 [B false] 4, cBlk b_1 [v_fence] 34, cMk Ds23z] R) ?_ ?_
   ·exact ⟨_, 0, _, upds_of _ _ ⟨rfl, rfl, rfl, rfl, rfl, rfl, rfl, rfl, trivial⟩, hi21z, H⟩
   rintro m26z Ds23z σ w24z ⟨s, ρ, rfl, hI25z, H⟩
   obtain ⟨m27z, lt28z, x29z, hM, hN30z⟩ := M.e_iterN hI25z
   simp only [m_notes_Fences_b0] at hM
   clear hI25z
   refine WD.seq ?_
   refine WD.of ?_
   refine W.region rfl <| sC (s : Int) (fence.length : Int) (decide ((s : Int) < (fence.length : Int))) rfl rfl rfl <| s_nil ?_
   refine WD.seq ?_
   refine WD.cond (decide ((s : Int) < (fence.length : Int))) rfl (fun c31z => ?_) (fun c31z => ?_)
   ·replace hM := M.e_t hM c31z
    simp only [qz1, qz2, qz3, qz4, qz5, qz6, ne_eq, qz7] at c31z
    refine WD.of ?_
    refine W.skip ?_
    refine WD.seq ?_
    refine WD.block ?_
    refine WD.seq ?_
    refine WD.of ?_
    refine W.region rfl ?_
    obtain ⟨sd32z, hM⟩ := M.e_grd hM
    simp only [Bool.and_eq_true, decide_eq_true_eq] at sd32z
    refine s_val (x_ix (a := v_fence) (b := I (s : Int)) (v := vat v_fence 1 (Int.toNat (s : Int))) rfl rfl (Sl.ix (α := Int) T34.und T34.size hs_fence (by omega) (by omega))) <| s_val (x_ld (p := vat v_fence 1 (Int.toNat (s : Int))) (v := I (fence.getD s 0)) rfl (ld_sc Sc3 (At.mono (Int_at hs_fence (i := (s : Int)) (by omega) (by omega)) (hC_fence.at H)))) <| sA (I (fence.getD s 0)) rfl <| s_nil ?_
    refine WD.seq ?_
    refine WD.of ?_
    refine W.region rfl <| sM (.pointer none) rfl <| sM (I (fence.getD s 0)) rfl ?_
    exact (M.e_fail hM).elim
   replace hM := M.e_f hM c31z
   simp only [qz1, qz2, qz3, qz4, qz5, qz6, ne_eq, qz7] at c31z
   refine WD.of ?_
   refine W.exit ?_
   have hX33z := M.e_inr hM hN30z
   subst hX33z
   replace hM := hk22z
   try dsimp only at hM
   refine WD.seq ?_
   refine WD.of ?_
   refine W.region rfl <| s_val (x_ld (p := Pz b_7) (v := .func (.func 97) #[] #[Pz b_1]) rfl (ldb_sc Sc75 (H.blk (k := 0) rfl) rfl)) <| sM v_revised rfl ?_
   obtain ⟨r35z, hx34z, hM⟩ := M.e_bind hM
   refine s_call cf87 [.func (.func 97) #[] #[Pz b_1], v_revised] rfl (notes_every_int_ok (fun xqz => m_notes_Fences_1 xqz fence) revised ⟨97, [Pz b_1], rfl, cf97, fun wqz Lqz Cqz vqz xqz bqz hsqz hCqz hAqz hpqz => by obtain rfl := Arg.int hAqz; exact (notes_Fences_1_ok xqz fence (Reads.app (hC_fence.app _) _) hs_fence (Has.app (Has.here (k := 4) rfl) _) hpqz wqz (St.refl hsqz)).mono fun vqz wqz ⟨yqz, hrqz, hvqz, Hqz⟩ => by subst hrqz; exact ⟨hvqz, Hqz⟩⟩ (hC_revised.app _) hs_revised hx34z _ (St.give (T := [cBlk b_7 [.func (.func 97) #[] #[Pz b_1]] 75, cBlk b_6 (encB (List.replicate 30 false)) 141, cBlk b_3 [I 0] 35, cBlk b_2 [B false] 4, cBlk b_1 [v_fence] 34, cMk Ds23z]) H rfl)) ?_
   rintro vq w36z ⟨r2, hr37z, hvq, H2_⟩
   subst hr37z
   subst vq
   try dsimp only at hM
   replace H : St w w36z [cBlk b_7 [.func (.func 97) #[] #[Pz b_1]] 75, cBlk b_6 (encB (List.replicate 30 false)) 141, cBlk b_3 [I 0] 35, cBlk b_2 [B false] 4, cBlk b_1 [v_fence] 34, cMk Ds23z] R := H.back H2_ rfl
   clear H2_
   refine t_st (k := 3) (b := b_2) (off := 0) (cs := [B false]) (vs := [B r2]) (cs' := [B r2]) (v := B r2) (L' := [cBlk b_7 [.func (.func 97) #[] #[Pz b_1]] 75, cBlk b_6 (encB (List.replicate 30 false)) 141, cBlk b_3 [I 0] 35, cBlk b_2 [B r2] 4, cBlk b_1 [v_fence] 34, cMk Ds23z]) H rfl rfl rfl Sz4 rfl rfl rfl rfl rfl rfl ?_
   intro w38z H
   refine t_st (k := 2) (b := b_3) (off := 0) (cs := [I 0]) (vs := [I 0]) (cs' := [I 0]) (v := I 0) (L' := [cBlk b_7 [.func (.func 97) #[] #[Pz b_1]] 75, cBlk b_6 (encB (List.replicate 30 false)) 141, cBlk b_3 [I 0] 35, cBlk b_2 [B r2] 4, cBlk b_1 [v_fence] 34, cMk Ds23z]) H rfl rfl rfl Sz35 rfl rfl rfl rfl rfl rfl ?_
   intro w39z H
   refine s_nil ?_
   refine WD.of ?_
   refine W.ret ?_
   refine bodyD_r (H.pick [5, 0, 1, 2, 3, 4] (by decide) rfl) ?_
   intro w40z H
   replace H : St w w40z [cBlk b_7 [.func (.func 97) #[] #[Pz b_1]] 75, cBlk b_6 (encB (List.replicate 30 false)) 141, cBlk b_3 [I 0] 35, cBlk b_2 [B r2] 4, cBlk b_1 [v_fence] 34] R := H
   have hb41z := (H.blk (k := 3) rfl)
   have hb42z := (H.blk (k := 2) rfl)
   have hr_ := M.e_pure hM
   exact ⟨_, (resE_ofn (vs := [B r2, I 0]) rfl rfl (.cell (v := B r2) rfl (run_loadVar_sc Sc4 hb41z rfl) <| .cell (v := I 0) rfl (run_loadVar_sc Sc35 hb42z rfl) <| .nil)), ⟨r2, 0, hr_, rfl, (H.pick [] (by decide) rfl)⟩⟩
  replace hM := M.e_f hM c9z
  simp only [qz1, qz2, qz3, qz4, qz5, qz6, ne_eq, qz7] at c9z
  refine WD.of ?_
  refine W.skip ?_
  refine WD.seq ?_
  refine WD.seq ?_
  refine WD.of ?_
  refine W.region rfl <| sM (I (askedE w_ revised)) rfl <| sC (askedE w_ revised) 0 ((askedE w_ revised) != 0) rfl rfl rfl <| s_nil ?_
  refine WD.cond ((askedE w_ revised) != 0) rfl (fun c43z => ?_) (fun c43z => ?_)
  ·replace hM := M.e_t hM c43z
   simp only [qz1, qz2, qz3, qz4, qz5, qz6, ne_eq, qz7] at c43z
   refine WD.seq ?_
   refine WD.of ?_
   refine W.region rfl <| sM (I (askedE w_ revised)) rfl ?_
   refine t_st (k := 2) (b := b_2) (off := 0) (cs := [B false]) (vs := [B false]) (cs' := [B false]) (v := B false) (L' := [cBlk b_6 (encB (List.replicate 30 false)) 141, cBlk b_3 [I 0] 35, cBlk b_2 [B false] 4, cBlk b_1 [v_fence] 34, cMk ([])]) H rfl rfl rfl Sz4 rfl rfl rfl rfl rfl rfl ?_
   intro w44z H
   refine t_st (k := 1) (b := b_3) (off := 0) (cs := [I 0]) (vs := [I (askedE w_ revised)]) (cs' := [I (askedE w_ revised)]) (v := I (askedE w_ revised)) (L' := [cBlk b_6 (encB (List.replicate 30 false)) 141, cBlk b_3 [I (askedE w_ revised)] 35, cBlk b_2 [B false] 4, cBlk b_1 [v_fence] 34, cMk ([])]) H rfl rfl rfl Sz35 rfl rfl rfl rfl rfl rfl ?_
   intro w45z H
   refine s_nil ?_
   refine WD.of ?_
   refine W.ret ?_
   refine bodyD_r (H.pick [4, 0, 1, 2, 3] (by decide) rfl) ?_
   intro w46z H
   replace H : St w w46z [cBlk b_6 (encB (List.replicate 30 false)) 141, cBlk b_3 [I (askedE w_ revised)] 35, cBlk b_2 [B false] 4, cBlk b_1 [v_fence] 34] R := H
   have hb47z := (H.blk (k := 2) rfl)
   have hb48z := (H.blk (k := 1) rfl)
   have hr_ := M.e_pure hM
   exact ⟨_, (resE_ofn (vs := [B false, I (askedE w_ revised)]) rfl rfl (.cell (v := B false) rfl (run_loadVar_sc Sc4 hb47z rfl) <| .cell (v := I (askedE w_ revised)) rfl (run_loadVar_sc Sc35 hb48z rfl) <| .nil)), ⟨false, (askedE w_ revised), hr_, rfl, (H.pick [] (by decide) rfl)⟩⟩
  replace hM := M.e_f hM c43z
  simp only [qz1, qz2, qz3, qz4, qz5, qz6, ne_eq, qz7] at c43z
  refine WD.of ?_
  refine W.skip ?_
  refine WD.seq ?_
  refine WD.of ?_
  refine W.region rfl <| s_val (x_mf (fs := []) (cs := [Pz b_1]) rfl rfl) ?_
  refine t_alloc (cs := [.nilFunc]) H Al75 rfl ?_
  intro b_7 w49z H
  refine t_st (k := 0) (b := b_7) (off := 0) (cs := [.nilFunc]) (vs := [.func (.func 97) #[] #[Pz b_1]]) (cs' := [.func (.func 97) #[] #[Pz b_1]]) (v := .func (.func 97) #[] #[Pz b_1]) (L' := [cBlk b_7 [.func (.func 97) #[] #[Pz b_1]] 75, cBlk b_6 (encB (List.replicate 30 false)) 141, cBlk b_3 [I 0] 35, cBlk b_2 [B false] 4, cBlk b_1 [v_fence] 34, cMk ([])]) H rfl rfl rfl Sz75 rfl rfl rfl rfl rfl rfl ?_
  intro w50z H
  refine s_nil ?_
  refine WD.seq ?_
  refine WD.seq ?_
  refine WD.of ?_
  refine W.region rfl <| s_val (x_ld (p := Pz b_1) (v := v_fence) rfl (ldb_sc Sc34 (H.blk (k := 4) rfl) rfl)) ?_
  have hl51z := (hs_fence).len_le
  refine s_val (x_lenS T34.und rfl hs_fence) <| sM (I 0) rfl <| s_nil ?_
  refine WD.block ?_
  obtain ⟨ex52z, hi53z, hk54z⟩ := M.e_bind hM
  obtain ⟨m0_, hi53z⟩ := M.e_iter hi53z
  refine WD.loop (fun m Ds55z σ W => ∃ (s : Nat) (ρ : Env), σ = upds ρ [(1, v_revised), (6, Pz b_2), (7, Pz b_3), (8, .pointer none), (12, Pz b_7), (33, v_fence), (34, I (fence.length : Int)), (35, I (s : Int))] ∧ M.iterN (m_notes_Fences_b1 fence) m s = some ex52z ∧ St w W [cBlk b_7 [.func (.func 97) #[] #[Pz b_1]] 75, cBlk b_6 (encB (List.replicate 30 false)) 141, cBlk b_3 [I 0] 35, cBlk b_2 [B false] 4, cBlk b_1 [v_fence] 34, cMk Ds55z] R) ?_ ?_
  ·exact ⟨_, 0, _, upds_of _ _ ⟨rfl, rfl, rfl, rfl, rfl, rfl, rfl, rfl, trivial⟩, hi53z, H⟩
  rintro m58z Ds55z σ w56z ⟨s, ρ, rfl, hI57z, H⟩
  obtain ⟨m59z, lt60z, x61z, hM, hN62z⟩ := M.e_iterN hI57z
  simp only [m_notes_Fences_b1] at hM
  clear hI57z
  refine WD.seq ?_
  refine WD.of ?_
  refine W.region rfl <| sC (s : Int) (fence.length : Int) (decide ((s : Int) < (fence.length : Int))) rfl rfl rfl <| s_nil ?_
  refine WD.seq ?_
  refine WD.cond (decide ((s : Int) < (fence.length : Int))) rfl (fun c63z => ?_) (fun c63z => ?_)
  ·replace hM := M.e_t hM c63z
   simp only [qz1, qz2, qz3, qz4, qz5, qz6, ne_eq, qz7] at c63z
   refine WD.of ?_
   refine W.skip ?_
   refine WD.seq ?_
   refine WD.block ?_
   refine WD.seq ?_
   refine WD.of ?_
   refine W.region rfl ?_
   obtain ⟨sd64z, hM⟩ := M.e_grd hM
   simp only [Bool.and_eq_true, decide_eq_true_eq] at sd64z
   refine s_val (x_ix (a := v_fence) (b := I (s : Int)) (v := vat v_fence 1 (Int.toNat (s : Int))) rfl rfl (Sl.ix (α := Int) T34.und T34.size hs_fence (by omega) (by omega))) <| s_val (x_ld (p := vat v_fence 1 (Int.toNat (s : Int))) (v := I (fence.getD s 0)) rfl (ld_sc Sc3 (At.mono (Int_at hs_fence (i := (s : Int)) (by omega) (by omega)) (hC_fence.at H)))) <| sA (I (fence.getD s 0)) rfl <| s_nil ?_
   refine WD.seq ?_
   refine WD.of ?_
   refine W.region rfl <| sM (.pointer none) rfl <| sM (I (fence.getD s 0)) rfl ?_
   exact (M.e_fail hM).elim
  replace hM := M.e_f hM c63z
  simp only [qz1, qz2, qz3, qz4, qz5, qz6, ne_eq, qz7] at c63z
  refine WD.of ?_
  refine W.exit ?_
  have hX65z := M.e_inr hM hN62z
  subst hX65z
  replace hM := hk54z
  try dsimp only at hM
  refine WD.seq ?_
  refine WD.of ?_
  refine W.region rfl <| s_val (x_ld (p := Pz b_7) (v := .func (.func 97) #[] #[Pz b_1]) rfl (ldb_sc Sc75 (H.blk (k := 0) rfl) rfl)) <| sM v_revised rfl ?_
  obtain ⟨r67z, hx66z, hM⟩ := M.e_bind hM
  refine s_call cf87 [.func (.func 97) #[] #[Pz b_1], v_revised] rfl (notes_every_int_ok (fun xqz => m_notes_Fences_1 xqz fence) revised ⟨97, [Pz b_1], rfl, cf97, fun wqz Lqz Cqz vqz xqz bqz hsqz hCqz hAqz hpqz => by obtain rfl := Arg.int hAqz; exact (notes_Fences_1_ok xqz fence (Reads.app (hC_fence.app _) _) hs_fence (Has.app (Has.here (k := 4) rfl) _) hpqz wqz (St.refl hsqz)).mono fun vqz wqz ⟨yqz, hrqz, hvqz, Hqz⟩ => by subst hrqz; exact ⟨hvqz, Hqz⟩⟩ (hC_revised.app _) hs_revised hx66z _ (St.give (T := [cBlk b_7 [.func (.func 97) #[] #[Pz b_1]] 75, cBlk b_6 (encB (List.replicate 30 false)) 141, cBlk b_3 [I 0] 35, cBlk b_2 [B false] 4, cBlk b_1 [v_fence] 34, cMk Ds55z]) H rfl)) ?_
  rintro vq w68z ⟨r2, hr69z, hvq, H2_⟩
  subst hr69z
  subst vq
  try dsimp only at hM
  replace H : St w w68z [cBlk b_7 [.func (.func 97) #[] #[Pz b_1]] 75, cBlk b_6 (encB (List.replicate 30 false)) 141, cBlk b_3 [I 0] 35, cBlk b_2 [B false] 4, cBlk b_1 [v_fence] 34, cMk Ds55z] R := H.back H2_ rfl
  clear H2_
  refine t_st (k := 3) (b := b_2) (off := 0) (cs := [B false]) (vs := [B r2]) (cs' := [B r2]) (v := B r2) (L' := [cBlk b_7 [.func (.func 97) #[] #[Pz b_1]] 75, cBlk b_6 (encB (List.replicate 30 false)) 141, cBlk b_3 [I 0] 35, cBlk b_2 [B r2] 4, cBlk b_1 [v_fence] 34, cMk Ds55z]) H rfl rfl rfl Sz4 rfl rfl rfl rfl rfl rfl ?_
  intro w70z H
  refine t_st (k := 2) (b := b_3) (off := 0) (cs := [I 0]) (vs := [I 0]) (cs' := [I 0]) (v := I 0) (L' := [cBlk b_7 [.func (.func 97) #[] #[Pz b_1]] 75, cBlk b_6 (encB (List.replicate 30 false)) 141, cBlk b_3 [I 0] 35, cBlk b_2 [B r2] 4, cBlk b_1 [v_fence] 34, cMk Ds55z]) H rfl rfl rfl Sz35 rfl rfl rfl rfl rfl rfl ?_
  intro w71z H
  refine s_nil ?_
  refine WD.of ?_
  refine W.ret ?_
  refine bodyD_r (H.pick [5, 0, 1, 2, 3, 4] (by decide) rfl) ?_
  intro w72z H
  replace H : St w w72z [cBlk b_7 [.func (.func 97) #[] #[Pz b_1]] 75, cBlk b_6 (encB (List.replicate 30 false)) 141, cBlk b_3 [I 0] 35, cBlk b_2 [B r2] 4, cBlk b_1 [v_fence] 34] R := H
  have hb73z := (H.blk (k := 3) rfl)
  have hb74z := (H.blk (k := 2) rfl)
  have hr_ := M.e_pure hM
  exact ⟨_, (resE_ofn (vs := [B r2, I 0]) rfl rfl (.cell (v := B r2) rfl (run_loadVar_sc Sc4 hb73z rfl) <| .cell (v := I 0) rfl (run_loadVar_sc Sc35 hb74z rfl) <| .nil)), ⟨r2, 0, hr_, rfl, (H.pick [] (by decide) rfl)⟩⟩
 replace hM := M.e_t hM (by simpa using he_)
 obtain ⟨Bs_5, H2_, hs6z, hb_b_4⟩ := H.freshNB hn_ hs6z
 replace H : St w w4z [cRo Bs_5, cBlk b_3 [I 0] 35, cBlk b_2 [B false] 4, cBlk b_1 [v_fence] 34, cMk ([])] R := H2_
 clear H2_ hn_
 have hl_hs6z := hs6z.len_le
 refine sM (.tuple #[Pz b_4, u5z, .agg (encB (staleL w_ revised)).toArray, I 0]) rfl <| s_val (x_ext (vs := [Pz b_4, u5z, .agg (encB (staleL w_ revised)).toArray, I 0]) (v := Pz b_4) rfl rfl) <| s_val (x_ext (vs := [Pz b_4, u5z, .agg (encB (staleL w_ revised)).toArray, I 0]) (v := u5z) rfl rfl) <| s_val (x_ext (vs := [Pz b_4, u5z, .agg (encB (staleL w_ revised)).toArray, I 0]) (v := .agg (encB (staleL w_ revised)).toArray) rfl rfl) <| s_val (x_ext (vs := [Pz b_4, u5z, .agg (encB (staleL w_ revised)).toArray, I 0]) (v := I 0) rfl rfl) ?_
 refine t_alloc (cs := encB (List.replicate 30 false)) H Al141 rfl ?_
 intro b_6 w75z H
 have hl_b_6 : (List.replicate 30 false).length = 30 := by simp
 refine sA (Pz b_4) rfl <| sA u5z rfl ?_
 refine t_stArrA (k := 0) (b := b_6) (l := List.replicate 30 false) (l' := staleL w_ revised) (L' := [cBlk b_6 (encB (staleL w_ revised)) 141, cRo Bs_5, cBlk b_3 [I 0] 35, cBlk b_2 [B false] 4, cBlk b_1 [v_fence] 34, cMk ([])]) H rfl rfl rfl Sz141 hl_b_6 (staleL_len _ _) rfl ?_
 intro w76z H
 refine sA (I 0) rfl <| s_nil ?_
 refine WD.seq ?_
 refine WD.seq ?_
 refine WD.of ?_
 refine W.region rfl <| sM (I 0) rfl <| sC 0 0 ((0 : Int) == 0) rfl rfl rfl <| s_nil ?_
 refine WD.cond ((0 : Int) == 0) rfl (fun c77z => ?_) (fun c77z => ?_)
 ·skip
  replace hM := M.e_t hM c77z
  refine WD.of ?_
  refine W.region rfl <| sM v_w_ rfl <| s_val (x_ld (p := Pz b_1) (v := v_fence) rfl (ldb_sc Sc34 (H.blk (k := 4) rfl) rfl)) ?_
  refine s_call cf96 [v_w_, v_fence] rfl (listed_any _ (hs_w_.mono (hC_w_.at H)) (hs_fence.mono (hC_fence.at H))) ?_
  rintro _ w78z ⟨rfl, hx_⟩
  replace H : St w w78z [cBlk b_6 (encB (staleL w_ revised)) 141, cRo Bs_5, cBlk b_3 [I 0] 35, cBlk b_2 [B false] 4, cBlk b_1 [v_fence] 34, cMk ([])] R := H.ext hx_
  clear hx_
  refine sA (I (listedE w_.length fence)) rfl <| s_nil ?_
  refine WD.seq ?_
  refine WD.seq ?_
  refine WD.of ?_
  refine W.region rfl <| sM (I (listedE w_.length fence)) rfl <| sC (listedE w_.length fence) 0 ((listedE w_.length fence) != 0) rfl rfl rfl <| s_nil ?_
  refine WD.cond ((listedE w_.length fence) != 0) rfl (fun c79z => ?_) (fun c79z => ?_)
  ·replace hM := M.e_t hM c79z
   simp only [qz1, qz2, qz3, qz4, qz5, qz6, ne_eq, qz7] at c79z
   refine WD.seq ?_
   refine WD.of ?_
   refine W.region rfl <| sM (I (listedE w_.length fence)) rfl ?_
   refine t_st (k := 3) (b := b_2) (off := 0) (cs := [B false]) (vs := [B false]) (cs' := [B false]) (v := B false) (L' := [cBlk b_6 (encB (staleL w_ revised)) 141, cRo Bs_5, cBlk b_3 [I 0] 35, cBlk b_2 [B false] 4, cBlk b_1 [v_fence] 34, cMk ([])]) H rfl rfl rfl Sz4 rfl rfl rfl rfl rfl rfl ?_
   intro w80z H
   refine t_st (k := 2) (b := b_3) (off := 0) (cs := [I 0]) (vs := [I (listedE w_.length fence)]) (cs' := [I (listedE w_.length fence)]) (v := I (listedE w_.length fence)) (L' := [cBlk b_6 (encB (staleL w_ revised)) 141, cRo Bs_5, cBlk b_3 [I (listedE w_.length fence)] 35, cBlk b_2 [B false] 4, cBlk b_1 [v_fence] 34, cMk ([])]) H rfl rfl rfl Sz35 rfl rfl rfl rfl rfl rfl ?_
   intro w81z H
   refine s_nil ?_
   refine WD.of ?_
   refine W.ret ?_
   refine bodyD_r (H.pick [5, 0, 1, 2, 3, 4] (by decide) rfl) ?_
   intro w82z H
   replace H : St w w82z [cBlk b_6 (encB (staleL w_ revised)) 141, cRo Bs_5, cBlk b_3 [I (listedE w_.length fence)] 35, cBlk b_2 [B false] 4, cBlk b_1 [v_fence] 34] R := H
   have hb83z := (H.blk (k := 3) rfl)
   have hb84z := (H.blk (k := 2) rfl)
   have hr_ := M.e_pure hM
   exact ⟨_, (resE_ofn (vs := [B false, I (listedE w_.length fence)]) rfl rfl (.cell (v := B false) rfl (run_loadVar_sc Sc4 hb83z rfl) <| .cell (v := I (listedE w_.length fence)) rfl (run_loadVar_sc Sc35 hb84z rfl) <| .nil)), ⟨false, (listedE w_.length fence), hr_, rfl, (H.pick [] (by decide) rfl)⟩⟩
  replace hM := M.e_f hM c79z
  simp only [qz1, qz2, qz3, qz4, qz5, qz6, ne_eq, qz7] at c79z
  refine WD.of ?_
  refine W.skip ?_
  refine WD.seq ?_
  refine WD.of ?_
  refine W.region rfl <| s_val (x_mf (fs := []) (cs := [Pz b_1]) rfl rfl) ?_
  refine t_alloc (cs := [.nilFunc]) H Al75 rfl ?_
  intro b_7 w85z H
  refine t_st (k := 0) (b := b_7) (off := 0) (cs := [.nilFunc]) (vs := [.func (.func 97) #[] #[Pz b_1]]) (cs' := [.func (.func 97) #[] #[Pz b_1]]) (v := .func (.func 97) #[] #[Pz b_1]) (L' := [cBlk b_7 [.func (.func 97) #[] #[Pz b_1]] 75, cBlk b_6 (encB (staleL w_ revised)) 141, cRo Bs_5, cBlk b_3 [I 0] 35, cBlk b_2 [B false] 4, cBlk b_1 [v_fence] 34, cMk ([])]) H rfl rfl rfl Sz75 rfl rfl rfl rfl rfl rfl ?_
  intro w86z H
  refine s_nil ?_
  refine WD.seq ?_
  refine WD.seq ?_
  refine WD.of ?_
  refine W.region rfl <| s_val (x_ld (p := Pz b_1) (v := v_fence) rfl (ldb_sc Sc34 (H.blk (k := 5) rfl) rfl)) ?_
  have hl87z := (hs_fence).len_le
  refine s_val (x_lenS T34.und rfl hs_fence) <| sM (I 0) rfl <| s_nil ?_
  refine WD.block ?_
  obtain ⟨ex88z, hi89z, hk90z⟩ := M.e_bind hM
  obtain ⟨m0_, hi89z⟩ := M.e_iter hi89z
  refine WD.loop (fun m Ds91z σ W => ∃ (s : Nat) (ρ : Env), σ = upds ρ [(1, v_revised), (6, Pz b_2), (7, Pz b_3), (8, Pz b_4), (12, Pz b_7), (33, v_fence), (34, I (fence.length : Int)), (35, I (s : Int))] ∧ M.iterN (m_notes_Fences_b4 w_ fence) m s = some ex88z ∧ St w W [cBlk b_7 [.func (.func 97) #[] #[Pz b_1]] 75, cBlk b_6 (encB (staleL w_ revised)) 141, cRo Bs_5, cBlk b_3 [I 0] 35, cBlk b_2 [B false] 4, cBlk b_1 [v_fence] 34, cMk Ds91z] R) ?_ ?_
  ·exact ⟨_, 0, _, upds_of _ _ ⟨rfl, rfl, rfl, rfl, rfl, rfl, rfl, rfl, trivial⟩, hi89z, H⟩
  rintro m94z Ds91z σ w92z ⟨s, ρ, rfl, hI93z, H⟩
  obtain ⟨m95z, lt96z, x97z, hM, hN98z⟩ := M.e_iterN hI93z
  simp only [m_notes_Fences_b4] at hM
  clear hI93z
  refine WD.seq ?_
  refine WD.of ?_
  refine W.region rfl <| sC (s : Int) (fence.length : Int) (decide ((s : Int) < (fence.length : Int))) rfl rfl rfl <| s_nil ?_
  refine WD.seq ?_
  refine WD.cond (decide ((s : Int) < (fence.length : Int))) rfl (fun c99z => ?_) (fun c99z => ?_)
  ·replace hM := M.e_t hM c99z
   simp only [qz1, qz2, qz3, qz4, qz5, qz6, ne_eq, qz7] at c99z
   refine WD.of ?_
   refine W.skip ?_
   refine WD.seq ?_
   refine WD.block ?_
   refine WD.seq ?_
   refine WD.of ?_
   refine W.region rfl ?_
   obtain ⟨sd100z, hM⟩ := M.e_grd hM
   simp only [Bool.and_eq_true, decide_eq_true_eq] at sd100z
   refine s_val (x_ix (a := v_fence) (b := I (s : Int)) (v := vat v_fence 1 (Int.toNat (s : Int))) rfl rfl (Sl.ix (α := Int) T34.und T34.size hs_fence (by omega) (by omega))) <| s_val (x_ld (p := vat v_fence 1 (Int.toNat (s : Int))) (v := I (fence.getD s 0)) rfl (ld_sc Sc3 (At.mono (Int_at hs_fence (i := (s : Int)) (by omega) (by omega)) (hC_fence.at H)))) <| sA (I (fence.getD s 0)) rfl <| s_nil ?_
   refine WD.seq ?_
   refine WD.of ?_
   refine W.region rfl <| sM (Pz b_4) rfl <| sM (I (fence.getD s 0)) rfl ?_
   obtain ⟨r102z, hx101z, hM⟩ := M.e_bind hM
   refine s_call cf98 [Pz b_4, I (fence.getD s 0)] rfl (notes_web_made_ok w_ (fence.getD s 0) (hC_w_.app _) hs_w_ (Has.ro (k := 2) rfl hb_b_4) hx101z _ (St.give (T := [cBlk b_7 [.func (.func 97) #[] #[Pz b_1]] 75, cBlk b_6 (encB (staleL w_ revised)) 141, cRo Bs_5, cBlk b_3 [I 0] 35, cBlk b_2 [B false] 4, cBlk b_1 [v_fence] 34, cMk Ds91z]) H rfl)) ?_
   rintro vq w103z ⟨r10, nb0_8, nb1_9, hr104z, hvq, H2_⟩
   subst hr104z
   subst vq
   try dsimp only at hM
   replace H : St w w103z [cBlk nb0_8 [Pz b_4] 127, cBlk nb1_9 [I r10] 3, cBlk b_7 [.func (.func 97) #[] #[Pz b_1]] 75, cBlk b_6 (encB (staleL w_ revised)) 141, cRo Bs_5, cBlk b_3 [I 0] 35, cBlk b_2 [B false] 4, cBlk b_1 [v_fence] 34, cMk Ds91z] R := H.back H2_ rfl
   clear H2_
   refine s_nil ?_
   refine WD.block ?_
   obtain ⟨t105z, hx106z, hM⟩ := M.e_bind hM
   refine WD.range (L := [cBlk b_3 [I 0] 35, cBlk b_2 [B false] 4, cBlk nb0_8 [Pz b_4] 127, cBlk nb1_9 [I r10] 3, cBlk b_7 [.func (.func 97) #[] #[Pz b_1]] 75, cBlk b_6 (encB (staleL w_ revised)) 141, cRo Bs_5, cBlk b_1 [v_fence] 34]) [Pz nb0_8, Pz nb1_9] (H.pick [8, 5, 6, 0, 1, 2, 3, 4, 7] (by decide) rfl) rfl cf148 ?_
   intro l107z D108z r109z w110z hr111z H
   have hYC : YieldC Try.prog ([cMk (D108z :: Ds91z), cBlk nb0_8 [Pz b_4] 127, cBlk nb1_9 [I r10] 3, cBlk b_7 [.func (.func 97) #[] #[Pz b_1]] 75, cBlk b_6 (encB (staleL w_ revised)) 141, cRo Bs_5, cBlk b_1 [v_fence] 34] ++ R) arI (yJ l107z r109z (fun _ Ls_ => Ls_ = [cBlk b_3 [I 0] 35, cBlk b_2 [B false] 4]) (fun _ Ls_ => Ls_ = [cBlk b_3 [I 0] 35, cBlk b_2 [B false] 4]) (fun _ => .ret)) (.func (.yield l107z) #[] #[]) (M.yl (m_notes_Fences_b3 fence)) := by
    refine YieldC.mk hr111z (fun _ Ls_ => Ls_ = [cBlk b_3 [I 0] 35, cBlk b_2 [B false] 4]) (fun _ Ls_ => Ls_ = [cBlk b_3 [I 0] 35, cBlk b_2 [B false] 4]) (fun _ => .ret) (m_notes_Fences_b3 fence) (by rintro _ _ h_; obtain ⟨rfl⟩ := h_; rfl) (by rintro _ _ h_; (obtain ⟨rfl⟩ := h_; rfl)) rfl (arI_len rfl) ?_
    intro C_ vs_ x W_ hA_
    obtain rfl := hA_
    refine W.region rfl <| sA (I x) rfl <| s_nil ?_
    refine ⟨rfl, rfl, ?_⟩
    intro w R hR_ Ls_ s_ r hY_ hM H
    skip
    obtain ⟨rfl⟩ := hY_
    replace hC_w_ := hC_w_.sub hR_
    replace hC_revised := hC_revised.sub hR_
    replace hC_fence := hC_fence.sub hR_
    replace hM : (m_notes_Fences_b3 fence () x).Ends r := hM
    simp only [m_notes_Fences_b3] at hM
    replace H : St w w [cBlk b_3 [I 0] 35, cBlk b_2 [B false] 4, cBlk nb0_8 [Pz b_4] 127, cBlk nb1_9 [I r10] 3, cBlk b_7 [.func (.func 97) #[] #[Pz b_1]] 75, cBlk b_6 (encB (staleL w_ revised)) 141, cRo Bs_5, cBlk b_1 [v_fence] 34, cMk (D108z :: Ds91z)] R := H.pick [0, 1, 3, 4, 5, 6, 7, 8, 2] (by decide) rfl
    refine W.block <| W.seq <| W.region rfl <| s_val (x_ld (p := Pz b_7) (v := .func (.func 97) #[] #[Pz b_1]) rfl (ldb_sc Sc75 (H.blk (k := 4) rfl) rfl)) <| sM (I x) rfl ?_
    obtain ⟨r113z, hx112z, hM⟩ := M.e_bind hM
    refine s_callv (f := 97) rfl cf97 [I x] rfl (notes_Fences_1_ok x fence (hC_fence.app _) hs_fence (Has.here (k := 7) rfl) hx112z _ (St.give (T := [cBlk b_3 [I 0] 35, cBlk b_2 [B false] 4, cBlk nb0_8 [Pz b_4] 127, cBlk nb1_9 [I r10] 3, cBlk b_7 [.func (.func 97) #[] #[Pz b_1]] 75, cBlk b_6 (encB (staleL w_ revised)) 141, cRo Bs_5, cBlk b_1 [v_fence] 34, cMk (D108z :: Ds91z)]) H rfl)) ?_
    rintro vq w114z ⟨r3, hr115z, hvq, H2_⟩
    subst hr115z
    subst vq
    try dsimp only at hM
    replace H : St w w114z [cBlk b_3 [I 0] 35, cBlk b_2 [B false] 4, cBlk nb0_8 [Pz b_4] 127, cBlk nb1_9 [I r10] 3, cBlk b_7 [.func (.func 97) #[] #[Pz b_1]] 75, cBlk b_6 (encB (staleL w_ revised)) 141, cRo Bs_5, cBlk b_1 [v_fence] 34, cMk (D108z :: Ds91z)] R := H.back H2_ rfl
    clear H2_
    refine s_val (x_not (b := r3) rfl) <| s_nil ?_
    refine W.cond (!r3) rfl (fun c116z => ?_) (fun c116z => ?_)
    ·replace hM := M.e_t hM c116z
     refine W.seq <| W.region rfl ?_
     refine t_st (k := 1) (b := b_2) (off := 0) (cs := [B false]) (vs := [B false]) (cs' := [B false]) (v := B false) (L' := [cBlk b_3 [I 0] 35, cBlk b_2 [B false] 4, cBlk nb0_8 [Pz b_4] 127, cBlk nb1_9 [I r10] 3, cBlk b_7 [.func (.func 97) #[] #[Pz b_1]] 75, cBlk b_6 (encB (staleL w_ revised)) 141, cRo Bs_5, cBlk b_1 [v_fence] 34, cMk (D108z :: Ds91z)]) H rfl rfl rfl Sz4 rfl rfl rfl rfl rfl rfl ?_
     intro w117z H
     refine t_st (k := 0) (b := b_3) (off := 0) (cs := [I 0]) (vs := [I 0]) (cs' := [I 0]) (v := I 0) (L' := [cBlk b_3 [I 0] 35, cBlk b_2 [B false] 4, cBlk nb0_8 [Pz b_4] 127, cBlk nb1_9 [I r10] 3, cBlk b_7 [.func (.func 97) #[] #[Pz b_1]] 75, cBlk b_6 (encB (staleL w_ revised)) 141, cRo Bs_5, cBlk b_1 [v_fence] 34, cMk (D108z :: Ds91z)]) H rfl rfl rfl Sz35 rfl rfl rfl rfl rfl rfl ?_
     intro w118z H
     refine s_nil ?_
     refine W.ret ?_
     exact ⟨(), [cBlk b_3 [I 0] 35, cBlk b_2 [B false] 4], (M.e_pure hM).symm, rfl, H.pick [0, 1, 8, 2, 3, 4, 5, 6, 7] (by decide) rfl, rfl⟩
    replace hM := M.e_f hM c116z
    refine W.skip ?_
    exact ⟨(), [cBlk b_3 [I 0] 35, cBlk b_2 [B false] 4], (M.e_pure hM).symm, rfl, H.pick [0, 1, 8, 2, 3, 4, 5, 6, 7] (by decide) rfl⟩
   replace H : St w w110z (cAll (cObj l107z (.loop r109z) :: [cBlk b_3 [I 0] 35, cBlk b_2 [B false] 4]) :: [cMk (D108z :: Ds91z), cBlk nb0_8 [Pz b_4] 127, cBlk nb1_9 [I r10] 3, cBlk b_7 [.func (.func 97) #[] #[Pz b_1]] 75, cBlk b_6 (encB (staleL w_ revised)) 141, cRo Bs_5, cBlk b_1 [v_fence] 34]) R := St.bundleB (A := cObj l107z (.loop r109z) :: [cBlk b_3 [I 0] 35, cBlk b_2 [B false] 4]) (T := [cMk (D108z :: Ds91z), cBlk nb0_8 [Pz b_4] 127, cBlk nb1_9 [I r10] 3, cBlk b_7 [.func (.func 97) #[] #[Pz b_1]] 75, cBlk b_6 (encB (staleL w_ revised)) 141, cRo Bs_5, cBlk b_1 [v_fence] 34]) rfl (H.pick [0, 2, 3, 1, 4, 5, 6, 7, 8, 9] (by decide) rfl)
   refine (notes_web_made_1_ok (M.yl (m_notes_Fences_b3 fence)) (.inl ()) w_ r10 hYC ⟨_, rfl, rfl⟩ (hC_w_.app _) hs_w_ (Has.ro (k := 5) rfl hb_b_4) (Has.here (k := 1) rfl) (Has.here (k := 2) rfl) hx106z _ (St.give (A := [cAll (cObj l107z (.loop r109z) :: [cBlk b_3 [I 0] 35, cBlk b_2 [B false] 4])]) (T := [cMk (D108z :: Ds91z), cBlk nb0_8 [Pz b_4] 127, cBlk nb1_9 [I r10] 3, cBlk b_7 [.func (.func 97) #[] #[Pz b_1]] 75, cBlk b_6 (encB (staleL w_ revised)) 141, cRo Bs_5, cBlk b_1 [v_fence] 34]) H rfl)).mono ?_
   rintro vq w119z ⟨t123z, Ls121z, hq124z, hvq, H2_, hY122z⟩
   subst hq124z
   replace H := H.back H2_ rfl
   clear H2_ hYC
   rcases t123z with _ | _
   ·try dsimp only at hM
    obtain ⟨_, rfl, rfl⟩ := hY122z
    refine ⟨_, [cBlk b_3 [I 0] 35, cBlk b_2 [B false] 4, cBlk nb0_8 [Pz b_4] 127, cBlk nb1_9 [I r10] 3, cBlk b_7 [.func (.func 97) #[] #[Pz b_1]] 75, cBlk b_6 (encB (staleL w_ revised)) 141, cRo Bs_5, cBlk b_1 [v_fence] 34], H.unbundle.pick [0, 3, 1, 2, 4, 5, 6, 7, 8, 9] (by decide) rfl, hr111z.nb, ?_⟩
    intro w120z H
    rw [hr111z.pd]
    replace H : St w w120z [cMk (D108z :: Ds91z), cBlk b_3 [I 0] 35, cBlk b_2 [B false] 4, cBlk nb0_8 [Pz b_4] 127, cBlk nb1_9 [I r10] 3, cBlk b_7 [.func (.func 97) #[] #[Pz b_1]] 75, cBlk b_6 (encB (staleL w_ revised)) 141, cRo Bs_5, cBlk b_1 [v_fence] 34] R := H
    try simp only []
    refine WD.of ?_
    refine W.region rfl <| s_val (x_ari (a := (s : Int)) (b := 1) (r := (s : Int) + 1) rfl rfl rfl (by omega)) <| sM (I ((s : Int) + 1)) rfl <| s_nil ?_
    exact ⟨m95z, lt96z, s + 1, _, upds_of _ _ ⟨rfl, rfl, rfl, rfl, rfl, rfl, rfl, rfl, trivial⟩, M.e_inl hM hN98z, (H.pick [5, 6, 7, 1, 2, 8, 0] (by decide) rfl)⟩
   try dsimp only at hM
   obtain ⟨_, rfl, rfl⟩ := hY122z
   refine ⟨_, [cBlk b_3 [I 0] 35, cBlk b_2 [B false] 4, cBlk nb0_8 [Pz b_4] 127, cBlk nb1_9 [I r10] 3, cBlk b_7 [.func (.func 97) #[] #[Pz b_1]] 75, cBlk b_6 (encB (staleL w_ revised)) 141, cRo Bs_5, cBlk b_1 [v_fence] 34], H.unbundle.pick [0, 3, 1, 2, 4, 5, 6, 7, 8, 9] (by decide) rfl, nofun, ?_⟩
   intro w120z H
   show WD _ _ _ (.ret) _ _ _
   refine WD.of ?_
   refine W.ret ?_
   replace H : St w w120z [cMk (D108z :: Ds91z), cBlk b_3 [I 0] 35, cBlk b_2 [B false] 4, cBlk nb0_8 [Pz b_4] 127, cBlk nb1_9 [I r10] 3, cBlk b_7 [.func (.func 97) #[] #[Pz b_1]] 75, cBlk b_6 (encB (staleL w_ revised)) 141, cRo Bs_5, cBlk b_1 [v_fence] 34] R := H
   have hX125z := M.e_inr hM hN98z
   subst hX125z
   replace hM := hk90z
   try dsimp only at hM
   refine bodyD_r (H.pick [0, 1, 2, 3, 4, 5, 6, 7, 8] (by decide) rfl) ?_
   intro w126z H
   replace H : St w w126z [cBlk b_3 [I 0] 35, cBlk b_2 [B false] 4, cBlk nb0_8 [Pz b_4] 127, cBlk nb1_9 [I r10] 3, cBlk b_7 [.func (.func 97) #[] #[Pz b_1]] 75, cBlk b_6 (encB (staleL w_ revised)) 141, cRo Bs_5, cBlk b_1 [v_fence] 34] R := H
   have hb127z := (H.blk (k := 1) rfl)
   have hb128z := (H.blk (k := 0) rfl)
   have hr_ := M.e_pure hM
   exact ⟨_, (resE_ofn (vs := [B false, I 0]) rfl rfl (.cell (v := B false) rfl (run_loadVar_sc Sc4 hb127z rfl) <| .cell (v := I 0) rfl (run_loadVar_sc Sc35 hb128z rfl) <| .nil)), ⟨false, 0, hr_, rfl, (H.pick [] (by decide) rfl)⟩⟩
  replace hM := M.e_f hM c99z
  simp only [qz1, qz2, qz3, qz4, qz5, qz6, ne_eq, qz7] at c99z
  refine WD.of ?_
  refine W.exit ?_
  have hX129z := M.e_inr hM hN98z
  subst hX129z
  replace hM := hk90z
  try dsimp only at hM
  refine WD.seq ?_
  refine WD.of ?_
  refine W.region rfl <| s_val (x_ld (p := Pz b_7) (v := .func (.func 97) #[] #[Pz b_1]) rfl (ldb_sc Sc75 (H.blk (k := 0) rfl) rfl)) <| sM v_revised rfl ?_
  obtain ⟨r131z, hx130z, hM⟩ := M.e_bind hM
  refine s_call cf87 [.func (.func 97) #[] #[Pz b_1], v_revised] rfl (notes_every_int_ok (fun xqz => m_notes_Fences_1 xqz fence) revised ⟨97, [Pz b_1], rfl, cf97, fun wqz Lqz Cqz vqz xqz bqz hsqz hCqz hAqz hpqz => by obtain rfl := Arg.int hAqz; exact (notes_Fences_1_ok xqz fence (Reads.app (hC_fence.app _) _) hs_fence (Has.app (Has.here (k := 5) rfl) _) hpqz wqz (St.refl hsqz)).mono fun vqz wqz ⟨yqz, hrqz, hvqz, Hqz⟩ => by subst hrqz; exact ⟨hvqz, Hqz⟩⟩ (hC_revised.app _) hs_revised hx130z _ (St.give (T := [cBlk b_7 [.func (.func 97) #[] #[Pz b_1]] 75, cBlk b_6 (encB (staleL w_ revised)) 141, cRo Bs_5, cBlk b_3 [I 0] 35, cBlk b_2 [B false] 4, cBlk b_1 [v_fence] 34, cMk Ds91z]) H rfl)) ?_
  rintro vq w132z ⟨r2, hr133z, hvq, H2_⟩
  subst hr133z
  subst vq
  try dsimp only at hM
  replace H : St w w132z [cBlk b_7 [.func (.func 97) #[] #[Pz b_1]] 75, cBlk b_6 (encB (staleL w_ revised)) 141, cRo Bs_5, cBlk b_3 [I 0] 35, cBlk b_2 [B false] 4, cBlk b_1 [v_fence] 34, cMk Ds91z] R := H.back H2_ rfl
  clear H2_
  refine t_st (k := 4) (b := b_2) (off := 0) (cs := [B false]) (vs := [B r2]) (cs' := [B r2]) (v := B r2) (L' := [cBlk b_7 [.func (.func 97) #[] #[Pz b_1]] 75, cBlk b_6 (encB (staleL w_ revised)) 141, cRo Bs_5, cBlk b_3 [I 0] 35, cBlk b_2 [B r2] 4, cBlk b_1 [v_fence] 34, cMk Ds91z]) H rfl rfl rfl Sz4 rfl rfl rfl rfl rfl rfl ?_
  intro w134z H
  refine t_st (k := 3) (b := b_3) (off := 0) (cs := [I 0]) (vs := [I 0]) (cs' := [I 0]) (v := I 0) (L' := [cBlk b_7 [.func (.func 97) #[] #[Pz b_1]] 75, cBlk b_6 (encB (staleL w_ revised)) 141, cRo Bs_5, cBlk b_3 [I 0] 35, cBlk b_2 [B r2] 4, cBlk b_1 [v_fence] 34, cMk Ds91z]) H rfl rfl rfl Sz35 rfl rfl rfl rfl rfl rfl ?_
  intro w135z H
  refine s_nil ?_
  refine WD.of ?_
  refine W.ret ?_
  refine bodyD_r (H.pick [6, 0, 1, 2, 3, 4, 5] (by decide) rfl) ?_
  intro w136z H
  replace H : St w w136z [cBlk b_7 [.func (.func 97) #[] #[Pz b_1]] 75, cBlk b_6 (encB (staleL w_ revised)) 141, cRo Bs_5, cBlk b_3 [I 0] 35, cBlk b_2 [B r2] 4, cBlk b_1 [v_fence] 34] R := H
  have hb137z := (H.blk (k := 4) rfl)
  have hb138z := (H.blk (k := 3) rfl)
  have hr_ := M.e_pure hM
  exact ⟨_, (resE_ofn (vs := [B r2, I 0]) rfl rfl (.cell (v := B r2) rfl (run_loadVar_sc Sc4 hb137z rfl) <| .cell (v := I 0) rfl (run_loadVar_sc Sc35 hb138z rfl) <| .nil)), ⟨r2, 0, hr_, rfl, (H.pick [] (by decide) rfl)⟩⟩
 skip
 exact absurd c77z (by decide)

def m_notes_kept (w_ : List Work) (revised : List Int) (work : Int) : M (Int ⊕ Int) :=
  bif (askedE w_ revised == 0) then (
  bif (0 : Int) != 0 then (M.fail) else (bif !(inB work 0 ((w_.length : Int) - 1)) then (
  M.pure (.inl 2))
  else (
  bif revised.contains work then (
  M.pure (.inl 8))
  else (
  M.pure (.inr 0)))))
  else (
  bif (askedE w_ revised) != 0 then (
  M.pure (.inl (askedE w_ revised)))
  else (
  bif !(inB work 0 ((w_.length : Int) - 1)) then (
  M.pure (.inl 2))
  else (
  bif revised.contains work then (
  M.pure (.inl 8))
  else (
  M.pure (.inl 0)))))
theorem notes_kept_ok {R : List Chunk} {C_w_ : Cells} {v_w_ : Value} {C_revised : Cells} {v_revised : Value} (w_ : List Work) (revised : List Int) (work : Int) (hC_w_ : Reads R C_w_) (hs_w_ : Sl C_w_ v_w_ w_) (hC_revised : Reads R C_revised) (hs_revised : Sl C_revised v_revised revised) {r : (Int ⊕ Int)} (hM : (m_notes_kept w_ revised work).Ends r) (w : World) (H : St w w [] R) : Ret Try.prog 116 #[v_w_, v_revised, I work] w fun v w' => (∃ (y0 : Int), (.inl y0) = r ∧ v = .tuple #[.pointer none, I y0] ∧ St w w' [] R) ∨ (∃ (y0 : Int) (nb0 : Nat) (Bs1 : Base), (.inr y0) = r ∧ v = .tuple #[Pz nb0, I y0] ∧ St w w' [cRo Bs1] R ∧ (∀ W, (cRo Bs1).ok W → W.heap[nb0]? = some (.cells [v_w_].toArray 187 (0, 0)))) := by
 refine ret_of_W Try.func116 rfl rfl rfl ?_
 refine W.seq <| W.region rfl <| sA (.pointer none) rfl <| sA (I 0) rfl <| s_nil <| W.seq <| W.region rfl <| sM v_w_ rfl <| sM v_revised rfl ?_
 refine s_call cf92 [v_w_, v_revised] rfl (asked_any _ (hs_w_.mono (hC_w_.at H)) (hs_revised.mono (hC_revised.at H))) ?_
 rintro _ w1z (⟨he_, rfl, hx_⟩ | ⟨he_, b_1, u2z, rfl, hn_, hs3z⟩)
 ·replace hM := M.e_f hM (by simpa using he_)
  replace H : St w w1z [] R := H.ext hx_
  clear hx_
  refine sM (.tuple #[.pointer none, .slice none 0 0, .agg (encB (List.replicate 30 false)).toArray, I (askedE w_ revised)]) rfl <| s_val (x_ext (vs := [.pointer none, .slice none 0 0, .agg (encB (List.replicate 30 false)).toArray, I (askedE w_ revised)]) (v := .pointer none) rfl rfl) <| s_val (x_ext (vs := [.pointer none, .slice none 0 0, .agg (encB (List.replicate 30 false)).toArray, I (askedE w_ revised)]) (v := .slice none 0 0) rfl rfl) <| s_val (x_ext (vs := [.pointer none, .slice none 0 0, .agg (encB (List.replicate 30 false)).toArray, I (askedE w_ revised)]) (v := .agg (encB (List.replicate 30 false)).toArray) rfl rfl) <| s_val (x_ext (vs := [.pointer none, .slice none 0 0, .agg (encB (List.replicate 30 false)).toArray, I (askedE w_ revised)]) (v := I (askedE w_ revised)) rfl rfl) ?_
  refine t_alloc (cs := encB (List.replicate 30 false)) H Al141 rfl ?_
  intro b_3 w4z H
  have hl_b_3 : (List.replicate 30 false).length = 30 := by simp
  refine sA (.pointer none) rfl <| sA (.slice none 0 0) rfl ?_
  refine t_stArrA (k := 0) (b := b_3) (l := List.replicate 30 false) (l' := List.replicate 30 false) (L' := [cBlk b_3 (encB (List.replicate 30 false)) 141]) H rfl rfl rfl Sz141 hl_b_3 (List.length_replicate) rfl ?_
  intro w5z H
  refine sA (I (askedE w_ revised)) rfl <| s_nil <| W.seq <| W.block <| W.seq <| W.region rfl <| sM (I (askedE w_ revised)) rfl <| sC (askedE w_ revised) 0 ((askedE w_ revised) != 0) rfl rfl rfl <| sA (B ((askedE w_ revised) != 0)) rfl <| s_nil ?_
  refine W.cond ((askedE w_ revised) != 0) rfl (fun c6z => ?_) (fun c6z => ?_)
  ·replace hM := M.e_t hM c6z
   simp only [qz1, qz2, qz3, qz4, qz5, qz6, ne_eq, qz7] at c6z
   refine W.seq <| W.region rfl <| sM (I (askedE w_ revised)) rfl <| sA (.pointer none) rfl <| sA (I (askedE w_ revised)) rfl <| s_nil ?_
   refine W.ret ?_
   have hr_ := M.e_pure hM
   exact ⟨_, resE_tmp2 rfl, .inl (⟨(askedE w_ revised), hr_, rfl, (H.pick [] (by decide) rfl)⟩)⟩
  replace hM := M.e_f hM c6z
  simp only [qz1, qz2, qz3, qz4, qz5, qz6, ne_eq, qz7] at c6z
  refine W.seq <| W.region rfl <| sM (I work) rfl <| sM v_w_ rfl ?_
  have hl7z := (hs_w_).len_le
  refine s_val (x_lenS T22.und rfl hs_w_) <| s_val (x_ari (a := (w_.length : Int)) (b := 1) (r := (w_.length : Int) - 1) rfl rfl rfl (by omega)) ?_
  refine s_call cf84 [I work, I 0, I ((w_.length : Int) - 1)] rfl (in_any work 0 ((w_.length : Int) - 1) _) ?_
  rintro _ w8z ⟨rfl, hx_⟩
  replace H : St w w8z [cBlk b_3 (encB (List.replicate 30 false)) 141] R := H.ext hx_
  clear hx_
  refine s_val (x_not (b := inB work 0 ((w_.length : Int) - 1)) rfl) <| sA (B (!(inB work 0 ((w_.length : Int) - 1)))) rfl <| s_nil ?_
  refine W.cond (!(inB work 0 ((w_.length : Int) - 1))) rfl (fun c9z => ?_) (fun c9z => ?_)
  ·replace hM := M.e_t hM c9z
   refine W.seq <| W.region rfl <| sA (.pointer none) rfl <| sA (I 2) rfl <| s_nil ?_
   refine W.ret ?_
   have hr_ := M.e_pure hM
   exact ⟨_, resE_tmp2 rfl, .inl (⟨2, hr_, rfl, (H.pick [] (by decide) rfl)⟩)⟩
  replace hM := M.e_f hM c9z
  refine W.seq <| W.region rfl <| sM v_revised rfl <| sM (I work) rfl ?_
  refine s_call cf45 [v_revised, I work] rfl (contains_int work _ (hs_revised.mono (hC_revised.at H))) ?_
  rintro _ w10z ⟨rfl, hx_⟩
  replace H : St w w10z [cBlk b_3 (encB (List.replicate 30 false)) 141] R := H.ext hx_
  clear hx_
  refine sA (B (revised.contains work)) rfl <| s_nil ?_
  refine W.cond (revised.contains work) rfl (fun c11z => ?_) (fun c11z => ?_)
  ·replace hM := M.e_t hM c11z
   refine W.seq <| W.region rfl <| sA (.pointer none) rfl <| sA (I 8) rfl <| s_nil ?_
   refine W.ret ?_
   have hr_ := M.e_pure hM
   exact ⟨_, resE_tmp2 rfl, .inl (⟨8, hr_, rfl, (H.pick [] (by decide) rfl)⟩)⟩
  replace hM := M.e_f hM c11z
  refine W.skip <| W.seq <| W.region rfl <| sM (.pointer none) rfl <| sA (.pointer none) rfl <| sA (I 0) rfl <| s_nil ?_
  refine W.ret ?_
  have hr_ := M.e_pure hM
  exact ⟨_, resE_tmp2 rfl, .inl (⟨0, hr_, rfl, (H.pick [] (by decide) rfl)⟩)⟩
 replace hM := M.e_t hM (by simpa using he_)
 obtain ⟨Bs_2, H2_, hs3z, hb_b_1⟩ := H.freshNB hn_ hs3z
 replace H : St w w1z [cRo Bs_2] R := H2_
 clear H2_ hn_
 have hl_hs3z := hs3z.len_le
 refine sM (.tuple #[Pz b_1, u2z, .agg (encB (staleL w_ revised)).toArray, I 0]) rfl <| s_val (x_ext (vs := [Pz b_1, u2z, .agg (encB (staleL w_ revised)).toArray, I 0]) (v := Pz b_1) rfl rfl) <| s_val (x_ext (vs := [Pz b_1, u2z, .agg (encB (staleL w_ revised)).toArray, I 0]) (v := u2z) rfl rfl) <| s_val (x_ext (vs := [Pz b_1, u2z, .agg (encB (staleL w_ revised)).toArray, I 0]) (v := .agg (encB (staleL w_ revised)).toArray) rfl rfl) <| s_val (x_ext (vs := [Pz b_1, u2z, .agg (encB (staleL w_ revised)).toArray, I 0]) (v := I 0) rfl rfl) ?_
 refine t_alloc (cs := encB (List.replicate 30 false)) H Al141 rfl ?_
 intro b_3 w12z H
 have hl_b_3 : (List.replicate 30 false).length = 30 := by simp
 refine sA (Pz b_1) rfl <| sA u2z rfl ?_
 refine t_stArrA (k := 0) (b := b_3) (l := List.replicate 30 false) (l' := staleL w_ revised) (L' := [cBlk b_3 (encB (staleL w_ revised)) 141, cRo Bs_2]) H rfl rfl rfl Sz141 hl_b_3 (staleL_len _ _) rfl ?_
 intro w13z H
 refine sA (I 0) rfl <| s_nil <| W.seq <| W.block <| W.seq <| W.region rfl <| sM (I 0) rfl <| sC 0 0 ((0 : Int) != 0) rfl rfl rfl <| sA (B ((0 : Int) != 0)) rfl <| s_nil ?_
 refine W.cond ((0 : Int) != 0) rfl (fun c14z => ?_) (fun c14z => ?_)
 ·skip
  exact absurd c14z (by decide)
 skip
 replace hM := M.e_f hM c14z
 refine W.seq <| W.region rfl <| sM (I work) rfl <| sM v_w_ rfl ?_
 have hl15z := (hs_w_).len_le
 refine s_val (x_lenS T22.und rfl hs_w_) <| s_val (x_ari (a := (w_.length : Int)) (b := 1) (r := (w_.length : Int) - 1) rfl rfl rfl (by omega)) ?_
 refine s_call cf84 [I work, I 0, I ((w_.length : Int) - 1)] rfl (in_any work 0 ((w_.length : Int) - 1) _) ?_
 rintro _ w16z ⟨rfl, hx_⟩
 replace H : St w w16z [cBlk b_3 (encB (staleL w_ revised)) 141, cRo Bs_2] R := H.ext hx_
 clear hx_
 refine s_val (x_not (b := inB work 0 ((w_.length : Int) - 1)) rfl) <| sA (B (!(inB work 0 ((w_.length : Int) - 1)))) rfl <| s_nil ?_
 refine W.cond (!(inB work 0 ((w_.length : Int) - 1))) rfl (fun c17z => ?_) (fun c17z => ?_)
 ·replace hM := M.e_t hM c17z
  refine W.seq <| W.region rfl <| sA (.pointer none) rfl <| sA (I 2) rfl <| s_nil ?_
  refine W.ret ?_
  have hr_ := M.e_pure hM
  exact ⟨_, resE_tmp2 rfl, .inl (⟨2, hr_, rfl, (H.pick [] (by decide) rfl)⟩)⟩
 replace hM := M.e_f hM c17z
 refine W.seq <| W.region rfl <| sM v_revised rfl <| sM (I work) rfl ?_
 refine s_call cf45 [v_revised, I work] rfl (contains_int work _ (hs_revised.mono (hC_revised.at H))) ?_
 rintro _ w18z ⟨rfl, hx_⟩
 replace H : St w w18z [cBlk b_3 (encB (staleL w_ revised)) 141, cRo Bs_2] R := H.ext hx_
 clear hx_
 refine sA (B (revised.contains work)) rfl <| s_nil ?_
 refine W.cond (revised.contains work) rfl (fun c19z => ?_) (fun c19z => ?_)
 ·replace hM := M.e_t hM c19z
  refine W.seq <| W.region rfl <| sA (.pointer none) rfl <| sA (I 8) rfl <| s_nil ?_
  refine W.ret ?_
  have hr_ := M.e_pure hM
  exact ⟨_, resE_tmp2 rfl, .inl (⟨8, hr_, rfl, (H.pick [] (by decide) rfl)⟩)⟩
 replace hM := M.e_f hM c19z
 refine W.skip <| W.seq <| W.region rfl <| sM (Pz b_1) rfl <| sA (Pz b_1) rfl <| sA (I 0) rfl <| s_nil ?_
 refine W.ret ?_
 have hr_ := M.e_pure hM
 exact ⟨_, resE_tmp2 rfl, .inr (⟨0, b_1, Bs_2, hr_, rfl, (H.pick [1] (by decide) rfl), hb_b_1⟩)⟩

def m_notes_full_1 (i : Int) (k022 : List Work) (k12 : Int) : M Bool :=
  M.bind (m_notes_web_of k022 k12 i) fun r2 =>
  M.pure r2
theorem notes_full_1_ok {R : List Chunk} {b_k0 : Nat} {b_k02 : Nat} {C_k022 : Cells} {v_k022 : Value} {b_k1 : Nat} (i : Int) (k022 : List Work) (k12 : Int) (hC_k022 : Reads R C_k022) (hs_k022 : Sl C_k022 v_k022 k022) (h_b_k02 : Has R (cBlk b_k02 [v_k022] 187)) (h_b_k0 : Has R (cBlk b_k0 [Pz b_k02] 127)) (h_b_k1 : Has R (cBlk b_k1 [I k12] 3)) {r : Bool} (hM : (m_notes_full_1 i k022 k12).Ends r) (w : World) (H : St w w [] R) : Ret Try.prog 159 #[I i, Pz b_k0, Pz b_k1] w fun v w' => ∃ (y0 : Bool), y0 = r ∧ v = B y0 ∧ St w w' [] R := by
 refine ret_of_W Try.func159 rfl rfl rfl ?_
 refine W.seq <| W.region rfl <| sA (B false) rfl <| s_nil <| W.seq <| W.region rfl <| s_val (x_ld (p := Pz b_k0) (v := Pz b_k02) rfl (ldb_sc Sc127 (h_b_k0.blk H) rfl)) <| s_val (x_ld (p := Pz b_k1) (v := I k12) rfl (ldb_sc Sc3 (h_b_k1.blk H) rfl)) <| sM (I i) rfl ?_
 obtain ⟨r2z, hx1z, hM⟩ := M.e_bind hM
 refine s_call cf149 [Pz b_k02, I k12, I i] rfl (notes_web_of_ok k022 k12 i (hC_k022.app _) hs_k022 (h_b_k02.app _) hx1z _ (St.give (T := []) H rfl)) ?_
 rintro vq w3z ⟨r2, hr4z, hvq, H2_⟩
 subst hr4z
 subst vq
 try dsimp only at hM
 replace H : St w w3z [] R := H.back H2_ rfl
 clear H2_
 refine sA (B r2) rfl <| s_nil ?_
 refine W.ret ?_
 have hr_ := M.e_pure hM
 exact ⟨_, resE_tmp rfl, ⟨r2, hr_, rfl, H⟩⟩

def m_notes_lanes_inner (n_web_list_works : List Work) (n_revised : List Int) (n_work : Int) (n_room : Gate → Option Int) (n_met : Int → Option Bool) (i : Int) : M Bool :=
  M.pure ((i != n_work) && (!(n_revised.contains i)))
theorem notes_lanes_inner_ok {R : List Chunk} {b_n : Nat} {b_n_web : Nat} {C_n_web_list_works : Cells} {v_n_web_list_works : Value} {C_n_revised : Cells} {v_n_revised : Value} {b_n_room : Nat} {b_n_met : Nat} (n_web_list_works : List Work) (n_revised : List Int) (n_work : Int) (n_room : Gate → Option Int) (n_met : Int → Option Bool) (i : Int) (hC_n_web_list_works : Reads R C_n_web_list_works) (hs_n_web_list_works : Sl C_n_web_list_works v_n_web_list_works n_web_list_works) (h_b_n_web : Has R (cBlk b_n_web [v_n_web_list_works] 187)) (hC_n_revised : Reads R C_n_revised) (hs_n_revised : Sl C_n_revised v_n_revised n_revised) (h_b_n_room : Has R (cMap encG I b_n_room n_room)) (h_b_n_met : Has R (cMap I B b_n_met n_met)) (h_b_n : Has R (cBlk b_n [Pz b_n_web, v_n_revised, I n_work, .map (some b_n_room), .map (some b_n_met)] 180)) {r : Bool} (hM : (m_notes_lanes_inner n_web_list_works n_revised n_work n_room n_met i).Ends r) (w : World) (H : St w w [] R) : Ret Try.prog 127 #[Pz b_n, I i] w fun v w' => ∃ (y0 : Bool), y0 = r ∧ v = B y0 ∧ St w w' [] R := by
 refine ret_of_W Try.func127 rfl rfl rfl ?_
 refine W.seq <| W.region rfl <| sA (B false) rfl <| s_nil <| W.seq <| W.region rfl <| sM (I i) rfl <| sM (Pz b_n) rfl <| s_val (x_nc (a := ⟨b_n, 0, none⟩) rfl) <| s_val (x_fa (a := Pz b_n) (v := Oz b_n 2) rfl (fa_blk (o := 0) Fd180_2 Sz3)) <| s_val (x_ld (p := Oz b_n 2) (v := I n_work) rfl (ldb_sc Sc3 (h_b_n.blk H) rfl)) <| sC i n_work (i != n_work) rfl rfl rfl ?_
 refine sM (B (i != n_work)) rfl <| g_val (i != n_work) (gy_t rfl) (fun hg => x_mv (v := Pz b_n) rfl) <| g_val (i != n_work) (gy_t rfl) (fun hg => x_nc (a := ⟨b_n, 0, none⟩) (gd_of (c := i != n_work) hg (Pz b_n))) <| g_val (i != n_work) (gy_t rfl) (fun hg => x_fa (a := Pz b_n) (v := Oz b_n 1) (gd_of (c := i != n_work) hg (Pz b_n)) (fa_blk (o := 0) Fd180_1 Sz34)) <| g_val (i != n_work) (gy_t rfl) (fun hg => x_ld (p := Oz b_n 1) (v := v_n_revised) (gd_of (c := i != n_work) hg (Oz b_n 1)) (ldb_sc Sc34 (h_b_n.blk H) rfl)) <| g_val (i != n_work) (gy_t rfl) (fun hg => x_mv (v := I i) rfl) ?_
 refine t_gcall (i != n_work) (gy_t rfl) cf45 (B (n_revised.contains i)) (fun _ => [v_n_revised, I i]) (fun hg => lst2 (gd_of (c := i != n_work) hg (v_n_revised)) (gd_of (c := i != n_work) hg (I i))) H (fun hg => Ret.mono (contains_int i _ (hs_n_revised.mono (hC_n_revised.at H))) fun v_ w_ ⟨hv_, hx_⟩ => ⟨hv_, H.ext hx_⟩) ?_
 intro w1z H
 refine g_val (i != n_work) (gy_t rfl) (fun hg => x_not (b := n_revised.contains i) (gd_of (c := i != n_work) hg (B (n_revised.contains i)))) <| s_val (x_pand (b := i != n_work) (r := !(n_revised.contains i)) rfl (fun hb => gd_of (c := i != n_work) (by simp_all) (B (!(n_revised.contains i)))) rfl) <| sA (B ((i != n_work) && (!(n_revised.contains i)))) rfl <| s_nil ?_
 refine W.ret ?_
 have hr_ := M.e_pure hM
 exact ⟨_, resE_tmp rfl, ⟨((i != n_work) && (!(n_revised.contains i))), hr_, rfl, H⟩⟩

def m_notes_lanes_goes_b0 (n_web_list_works : List Work) (n_revised : List Int) (n_work : Int) (at_ : Int) (self_ : ((List Work) × (List Int) × Int × (Gate → Option Int) × (Int → Option Bool) × Int) → M (Bool × (Gate → Option Int) × (Int → Option Bool))) : ((Gate → Option Int) × (Int → Option Bool) × Nat) → M (((Gate → Option Int) × (Int → Option Bool) × Nat) ⊕ (((Gate → Option Int) × (Int → Option Bool)) ⊕ ((Gate → Option Int) × (Int → Option Bool)))) := fun (mp, mp2, s) =>
  bif decide ((s : Int) < (2 * (n_web_list_works.length : Int))) then (
  bif ((decide (0 < ((mp (⟨(at_ : Int), (s : Int)⟩ : Gate)).getD 0))) && (!((mp2 (s : Int)).getD false))) then (
  M.bind (self_ (n_web_list_works, n_revised, n_work, mp, mp2, (s : Int))) fun (r8, q_b_n_room6, q_b_n_met7) =>
  bif (((decide (0 < ((mp (⟨(at_ : Int), (s : Int)⟩ : Gate)).getD 0))) && (!((mp2 (s : Int)).getD false))) && r8) then (
  M.grd (decide ((-9223372036854775808 : Int) ≤ (((q_b_n_room6 (⟨(at_ : Int), (s : Int)⟩ : Gate)).getD 0) - 1)) && decide ((((q_b_n_room6 (⟨(at_ : Int), (s : Int)⟩ : Gate)).getD 0) - 1) ≤ (9223372036854775807 : Int))) <|
  M.grd (decide ((-9223372036854775808 : Int) ≤ ((((updF q_b_n_room6 (⟨(at_ : Int), (s : Int)⟩ : Gate) (((q_b_n_room6 (⟨(at_ : Int), (s : Int)⟩ : Gate)).getD 0) - 1 : Int)) (⟨(s : Int), (at_ : Int)⟩ : Gate)).getD 0) + 1)) && decide (((((updF q_b_n_room6 (⟨(at_ : Int), (s : Int)⟩ : Gate) (((q_b_n_room6 (⟨(at_ : Int), (s : Int)⟩ : Gate)).getD 0) - 1 : Int)) (⟨(s : Int), (at_ : Int)⟩ : Gate)).getD 0) + 1) ≤ (9223372036854775807 : Int))) <|
  M.pure (.inr (.inl (updF (updF q_b_n_room6 (⟨(at_ : Int), (s : Int)⟩ : Gate) (((q_b_n_room6 (⟨(at_ : Int), (s : Int)⟩ : Gate)).getD 0) - 1 : Int)) (⟨(s : Int), (at_ : Int)⟩ : Gate) ((((updF q_b_n_room6 (⟨(at_ : Int), (s : Int)⟩ : Gate) (((q_b_n_room6 (⟨(at_ : Int), (s : Int)⟩ : Gate)).getD 0) - 1 : Int)) (⟨(s : Int), (at_ : Int)⟩ : Gate)).getD 0) + 1 : Int), q_b_n_met7))))
  else (
  M.grd (decide ((-9223372036854775808 : Int) ≤ ((s : Int) + 1)) && decide (((s : Int) + 1) ≤ (9223372036854775807 : Int))) <|
  M.pure (.inl (q_b_n_room6, q_b_n_met7, s + 1))))
  else (
  bif (((decide (0 < ((mp (⟨(at_ : Int), (s : Int)⟩ : Gate)).getD 0))) && (!((mp2 (s : Int)).getD false))) && false) then (
  M.grd (decide ((-9223372036854775808 : Int) ≤ (((mp (⟨(at_ : Int), (s : Int)⟩ : Gate)).getD 0) - 1)) && decide ((((mp (⟨(at_ : Int), (s : Int)⟩ : Gate)).getD 0) - 1) ≤ (9223372036854775807 : Int))) <|
  M.grd (decide ((-9223372036854775808 : Int) ≤ ((((updF mp (⟨(at_ : Int), (s : Int)⟩ : Gate) (((mp (⟨(at_ : Int), (s : Int)⟩ : Gate)).getD 0) - 1 : Int)) (⟨(s : Int), (at_ : Int)⟩ : Gate)).getD 0) + 1)) && decide (((((updF mp (⟨(at_ : Int), (s : Int)⟩ : Gate) (((mp (⟨(at_ : Int), (s : Int)⟩ : Gate)).getD 0) - 1 : Int)) (⟨(s : Int), (at_ : Int)⟩ : Gate)).getD 0) + 1) ≤ (9223372036854775807 : Int))) <|
  M.pure (.inr (.inl (updF (updF mp (⟨(at_ : Int), (s : Int)⟩ : Gate) (((mp (⟨(at_ : Int), (s : Int)⟩ : Gate)).getD 0) - 1 : Int)) (⟨(s : Int), (at_ : Int)⟩ : Gate) ((((updF mp (⟨(at_ : Int), (s : Int)⟩ : Gate) (((mp (⟨(at_ : Int), (s : Int)⟩ : Gate)).getD 0) - 1 : Int)) (⟨(s : Int), (at_ : Int)⟩ : Gate)).getD 0) + 1 : Int), mp2))))
  else (
  M.grd (decide ((-9223372036854775808 : Int) ≤ ((s : Int) + 1)) && decide (((s : Int) + 1) ≤ (9223372036854775807 : Int))) <|
  M.pure (.inl (mp, mp2, s + 1)))))
  else (
  M.pure (.inr (.inr (mp, mp2))))
def m_notes_lanes_goes_F (self_ : ((List Work) × (List Int) × Int × (Gate → Option Int) × (Int → Option Bool) × Int) → M (Bool × (Gate → Option Int) × (Int → Option Bool))) : ((List Work) × (List Int) × Int × (Gate → Option Int) × (Int → Option Bool) × Int) → M (Bool × (Gate → Option Int) × (Int → Option Bool)) := fun (n_web_list_works, n_revised, n_work, n_room, n_met, at_) =>
  M.grd (decide ((-9223372036854775808 : Int) ≤ (2 * n_work)) && decide ((2 * n_work) ≤ (9223372036854775807 : Int))) <|
  bif at_ == (2 * n_work) then (
  M.pure (true, n_room, n_met))
  else (
  M.grd (decide ((-9223372036854775808 : Int) ≤ (2 * (n_web_list_works.length : Int))) && decide ((2 * (n_web_list_works.length : Int)) ≤ (9223372036854775807 : Int))) <|
  M.bind (M.iter (m_notes_lanes_goes_b0 n_web_list_works n_revised n_work at_ self_) (n_room, updF n_met (at_ : Int) true, 0)) fun x_ => match x_ with
  | (.inl (mp3, mp4)) => (
  M.pure (true, mp3, mp4))
  | (.inr (mp5, mp6)) => (
  M.pure (false, mp5, mp6)))
theorem m_notes_lanes_goes_mon : M.Mon m_notes_lanes_goes_F := by
  intro n f g h a
  obtain ⟨n_web_list_works, n_revised, n_work, n_room, n_met, at_⟩ := a
  simp only [m_notes_lanes_goes_F, m_notes_lanes_goes_b0]
  repeat' (first | exact M.le_same _ _ | exact h _ | refine M.le_grd ?_ | refine M.le_if ?_ ?_ | refine M.le_bind ?_ (fun x => ?_) | refine M.le_opt ?_ | refine M.le_iter (fun x => ?_) _ | refine m_notes_web_made_1_le (M.le_yl (fun s_ a_ => ?_)) _ _ _ | (rename_i x; cases x) | (rename_i x; obtain ⟨_, _⟩ := x))
def m_notes_lanes_goes (n_web_list_works : List Work) (n_revised : List Int) (n_work : Int) (n_room : Gate → Option Int) (n_met : Int → Option Bool) (at_ : Int) : M (Bool × (Gate → Option Int) × (Int → Option Bool)) := M.fix m_notes_lanes_goes_F m_notes_lanes_goes_mon (n_web_list_works, n_revised, n_work, n_room, n_met, at_)
theorem notes_lanes_goes_okN (n_ : Nat) : ∀ {R : List Chunk} {b_n : Nat} {b_n_web : Nat} {C_n_web_list_works : Cells} {v_n_web_list_works : Value} {C_n_revised : Cells} {v_n_revised : Value} {b_n_room : Nat} {b_n_met : Nat} (n_web_list_works : List Work) (n_revised : List Int) (n_work : Int) (n_room : Gate → Option Int) (n_met : Int → Option Bool) (at_ : Int) (hC_n_web_list_works : Reads R C_n_web_list_works) (hs_n_web_list_works : Sl C_n_web_list_works v_n_web_list_works n_web_list_works) (h_b_n_web : Has R (cBlk b_n_web [v_n_web_list_works] 187)) (hC_n_revised : Reads R C_n_revised) (hs_n_revised : Sl C_n_revised v_n_revised n_revised) (h_b_n : Has R (cBlk b_n [Pz b_n_web, v_n_revised, I n_work, .map (some b_n_room), .map (some b_n_met)] 180)) {r : (Bool × (Gate → Option Int) × (Int → Option Bool))} (hM : (M.fixN m_notes_lanes_goes_F n_ (n_web_list_works, n_revised, n_work, n_room, n_met, at_)).Ends r) (w : World) (H : St w w [cMap encG I b_n_room n_room, cMap I B b_n_met n_met] R), Ret Try.prog 126 #[Pz b_n, I at_] w fun v w' => ∃ (y0 : Bool) (y1 : Gate → Option Int) (y2 : Int → Option Bool), (y0, y1, y2) = r ∧ v = B y0 ∧ St w w' [cMap encG I b_n_room y1, cMap I B b_n_met y2] R := by
  induction n_ with
  | zero => intro R b_n b_n_web C_n_web_list_works v_n_web_list_works C_n_revised v_n_revised b_n_room b_n_met n_web_list_works n_revised n_work n_room n_met at_ hC_n_web_list_works hs_n_web_list_works h_b_n_web hC_n_revised hs_n_revised h_b_n r hM w H; exact (M.e_fail hM).elim
  | succ n_ ih =>
    intro R b_n b_n_web C_n_web_list_works v_n_web_list_works C_n_revised v_n_revised b_n_room b_n_met n_web_list_works n_revised n_work n_room n_met at_ hC_n_web_list_works hs_n_web_list_works h_b_n_web hC_n_revised hs_n_revised h_b_n r hM w H
    refine ret_of_W Try.func126 rfl rfl rfl ?_
    refine W.seq <| W.region rfl <| sA (B false) rfl <| s_nil <| W.seq <| W.seq <| W.region rfl <| sM (I at_) rfl <| sM (Pz b_n) rfl <| s_val (x_nc (a := ⟨b_n, 0, none⟩) rfl) <| s_val (x_fa (a := Pz b_n) (v := Oz b_n 2) rfl (fa_blk (o := 0) Fd180_2 Sz3)) <| s_val (x_ld (p := Oz b_n 2) (v := I n_work) rfl (ldb_sc Sc3 (h_b_n.blk H) rfl)) ?_
    obtain ⟨sd1z, hM⟩ := M.e_grd hM
    simp only [Bool.and_eq_true, decide_eq_true_eq] at sd1z
    refine s_val (x_ari (a := 2) (b := n_work) (r := 2 * n_work) rfl rfl rfl (by omega)) <| sC at_ (2 * n_work) (at_ == (2 * n_work)) rfl rfl rfl <| s_nil ?_
    refine W.cond (at_ == (2 * n_work)) rfl (fun c2z => ?_) (fun c2z => ?_)
    ·replace hM := M.e_t hM c2z
     simp only [qz1, qz2, qz3, qz4, qz5, qz6, ne_eq, qz7] at c2z
     refine W.seq <| W.region rfl <| sA (B true) rfl <| s_nil ?_
     refine W.ret ?_
     have hr_ := M.e_pure hM
     exact ⟨_, resE_tmp rfl, ⟨true, n_room, n_met, hr_, rfl, H⟩⟩
    replace hM := M.e_f hM c2z
    simp only [qz1, qz2, qz3, qz4, qz5, qz6, ne_eq, qz7] at c2z
    refine W.skip <| W.seq <| W.region rfl <| sM (Pz b_n) rfl <| s_val (x_nc (a := ⟨b_n, 0, none⟩) rfl) <| s_val (x_fa (a := Pz b_n) (v := Oz b_n 4) rfl (fa_blk (o := 0) Fd180_4 Sz178)) <| s_val (x_ld (p := Oz b_n 4) (v := .map (some b_n_met)) rfl (ldb_sc Sc178 (h_b_n.blk H) rfl)) <| sM (I at_) rfl ?_
    refine t_mapu (i := 1) (kenc := I) (venc := B) (f := n_met) (k := (at_ : Int)) (v := true) (L' := [cMap encG I b_n_room n_room, cMap I B b_n_met (updF n_met (at_ : Int) true)]) keyIntB Try.underlying178 H rfl rfl rfl rfl rfl ?_
    intro w3z H
    refine s_nil <| W.seq <| W.seq <| W.region rfl <| sM (Pz b_n) rfl <| s_val (x_nc (a := ⟨b_n, 0, none⟩) rfl) <| s_val (x_fa (a := Pz b_n) (v := Pz b_n) rfl (fa_blk (o := 0) Fd180_0 Sz127)) <| s_val (x_ld (p := Pz b_n) (v := Pz b_n_web) rfl (ldb_sc Sc127 (h_b_n.blk H) rfl)) <| s_val (x_nc (a := ⟨b_n_web, 0, none⟩) rfl) <| s_val (x_fa (a := Pz b_n_web) (v := Pz b_n_web) rfl (fa_blk (o := 0) Fd187_0 Sz185)) <| s_val (x_fa (a := Pz b_n_web) (v := Pz b_n_web) rfl (fa_blk (o := 0) Fd185_0 Sz22)) <| s_val (x_ld (p := Pz b_n_web) (v := v_n_web_list_works) rfl (ldb_sc Sc22 (h_b_n_web.blk H) rfl)) ?_
    have hl4z := (hs_n_web_list_works).len_le
    refine s_val (x_lenS T22.und rfl hs_n_web_list_works) ?_
    obtain ⟨sd5z, hM⟩ := M.e_grd hM
    simp only [Bool.and_eq_true, decide_eq_true_eq] at sd5z
    refine s_val (x_ari (a := 2) (b := (n_web_list_works.length : Int)) (r := 2 * (n_web_list_works.length : Int)) rfl rfl rfl (by omega)) <| sM (I 0) rfl <| s_nil <| W.block ?_
    obtain ⟨ex6z, hi7z, hk8z⟩ := M.e_bind hM
    obtain ⟨m0_, hi7z⟩ := M.e_iter hi7z
    refine W.loop (fun m σ W => ∃ (mp : Gate → Option Int) (mp2 : Int → Option Bool) (s : Nat) (ρ : Env), σ = upds ρ [(0, Pz b_n), (1, I at_), (27, I (2 * (n_web_list_works.length : Int))), (28, I (s : Int))] ∧ M.iterN (m_notes_lanes_goes_b0 n_web_list_works n_revised n_work at_ (M.fixN m_notes_lanes_goes_F n_)) m (mp, mp2, s) = some ex6z ∧ St w W [cMap encG I b_n_room mp, cMap I B b_n_met mp2] R) ?_ ?_
    ·exact ⟨_, n_room, updF n_met (at_ : Int) true, 0, _, upds_of _ _ ⟨rfl, rfl, rfl, rfl, trivial⟩, hi7z, H⟩
    rintro m11z σ w9z ⟨mp, mp2, s, ρ, rfl, hI10z, H⟩
    obtain ⟨m12z, lt13z, x14z, hM, hN15z⟩ := M.e_iterN hI10z
    simp only [m_notes_lanes_goes_b0] at hM
    clear hI10z
    refine W.seq <| W.region rfl <| sC (s : Int) (2 * (n_web_list_works.length : Int)) (decide ((s : Int) < (2 * (n_web_list_works.length : Int)))) rfl rfl rfl <| s_nil <| W.seq ?_
    refine W.cond (decide ((s : Int) < (2 * (n_web_list_works.length : Int)))) rfl (fun c16z => ?_) (fun c16z => ?_)
    ·replace hM := M.e_t hM c16z
     simp only [qz1, qz2, qz3, qz4, qz5, qz6, ne_eq, qz7] at c16z
     refine W.skip <| W.seq <| W.block <| W.seq <| W.region rfl <| sM (I (s : Int)) rfl <| sA (I (s : Int)) rfl <| s_nil <| W.seq <| W.region rfl <| sM (Pz b_n) rfl <| s_val (x_nc (a := ⟨b_n, 0, none⟩) rfl) ?_
     refine s_val (x_fa (a := Pz b_n) (v := Oz b_n 3) rfl (fa_blk (o := 0) Fd180_3 Sz177)) <| s_val (x_ld (p := Oz b_n 3) (v := .map (some b_n_room)) rfl (ldb_sc Sc177 (h_b_n.blk H) rfl)) <| sM (I at_) rfl <| sM (I (s : Int)) rfl <| s_val (x_bld (ps := [(0, I at_), (1, I (s : Int))]) (zs := [I 0, I 0]) (L' := [I at_, I (s : Int)]) rfl Try.underlying182 Al182 rfl (Bd182 Try.underlying182) (.cons (cs := [I at_]) rfl rfl rfl rfl rfl <| .cons (cs := [I (s : Int)]) rfl rfl rfl rfl rfl <| .nil)) <| s_val (q_look (kenc := encG) (venc := I) (f := mp) (k := (⟨(at_ : Int), (s : Int)⟩ : Gate)) (v := I ((mp (⟨(at_ : Int), (s : Int)⟩ : Gate)).getD 0)) keyGate Try.underlying177 Al3 rfl rfl (H.get (k := 0) rfl) false (by rw [if_neg (by decide), int_val])) <| sC ((mp (⟨(at_ : Int), (s : Int)⟩ : Gate)).getD 0) 0 (decide (0 < ((mp (⟨(at_ : Int), (s : Int)⟩ : Gate)).getD 0))) rfl rfl rfl <| sM (B (decide (0 < ((mp (⟨(at_ : Int), (s : Int)⟩ : Gate)).getD 0)))) rfl <| g_val (decide (0 < ((mp (⟨(at_ : Int), (s : Int)⟩ : Gate)).getD 0))) (gy_t rfl) (fun hg => x_mv (v := Pz b_n) rfl) <| g_val (decide (0 < ((mp (⟨(at_ : Int), (s : Int)⟩ : Gate)).getD 0))) (gy_t rfl) (fun hg => x_nc (a := ⟨b_n, 0, none⟩) (gd_of (c := decide (0 < ((mp (⟨(at_ : Int), (s : Int)⟩ : Gate)).getD 0))) hg (Pz b_n))) <| g_val (decide (0 < ((mp (⟨(at_ : Int), (s : Int)⟩ : Gate)).getD 0))) (gy_t rfl) (fun hg => x_fa (a := Pz b_n) (v := Oz b_n 4) (gd_of (c := decide (0 < ((mp (⟨(at_ : Int), (s : Int)⟩ : Gate)).getD 0))) hg (Pz b_n)) (fa_blk (o := 0) Fd180_4 Sz178)) <| g_val (decide (0 < ((mp (⟨(at_ : Int), (s : Int)⟩ : Gate)).getD 0))) (gy_t rfl) (fun hg => x_ld (p := Oz b_n 4) (v := .map (some b_n_met)) (gd_of (c := decide (0 < ((mp (⟨(at_ : Int), (s : Int)⟩ : Gate)).getD 0))) hg (Oz b_n 4)) (ldb_sc Sc178 (h_b_n.blk H) rfl)) ?_
     refine g_val (decide (0 < ((mp (⟨(at_ : Int), (s : Int)⟩ : Gate)).getD 0))) (gy_t rfl) (fun hg => x_mv (v := I (s : Int)) rfl) <| g_val (decide (0 < ((mp (⟨(at_ : Int), (s : Int)⟩ : Gate)).getD 0))) (gy_t rfl) (fun hg => q_look (kenc := I) (venc := B) (f := mp2) (k := (s : Int)) (v := B ((mp2 (s : Int)).getD false)) keyIntB Try.underlying178 Al4 (by exact (gd_of (c := decide (0 < ((mp (⟨(at_ : Int), (s : Int)⟩ : Gate)).getD 0))) hg (.map (some b_n_met)))) (by exact (gd_of (c := decide (0 < ((mp (⟨(at_ : Int), (s : Int)⟩ : Gate)).getD 0))) hg (I (s : Int)))) (H.get (k := 1) rfl) false (by rw [if_neg (by decide), bool_val])) <| g_val (decide (0 < ((mp (⟨(at_ : Int), (s : Int)⟩ : Gate)).getD 0))) (gy_t rfl) (fun hg => x_not (b := (mp2 (s : Int)).getD false) (gd_of (c := decide (0 < ((mp (⟨(at_ : Int), (s : Int)⟩ : Gate)).getD 0))) hg (B ((mp2 (s : Int)).getD false)))) <| s_val (x_pand (b := decide (0 < ((mp (⟨(at_ : Int), (s : Int)⟩ : Gate)).getD 0))) (r := !((mp2 (s : Int)).getD false)) rfl (fun hb => gd_of (c := decide (0 < ((mp (⟨(at_ : Int), (s : Int)⟩ : Gate)).getD 0))) (by simp_all) (B (!((mp2 (s : Int)).getD false)))) rfl) <| sM (B ((decide (0 < ((mp (⟨(at_ : Int), (s : Int)⟩ : Gate)).getD 0))) && (!((mp2 (s : Int)).getD false)))) rfl <| g_val ((decide (0 < ((mp (⟨(at_ : Int), (s : Int)⟩ : Gate)).getD 0))) && (!((mp2 (s : Int)).getD false))) (gy_t rfl) (fun hg => x_mv (v := Pz b_n) rfl) <| g_val ((decide (0 < ((mp (⟨(at_ : Int), (s : Int)⟩ : Gate)).getD 0))) && (!((mp2 (s : Int)).getD false))) (gy_t rfl) (fun hg => x_mv (v := I (s : Int)) rfl) ?_
     refine g_splitV ((decide (0 < ((mp (⟨(at_ : Int), (s : Int)⟩ : Gate)).getD 0))) && (!((mp2 (s : Int)).getD false))) (B false) (gy_t rfl) (fun hg_ => ?_) (fun hg_ => ?_)
     ·replace hM := M.e_t hM hg_
      obtain ⟨r18z, hx17z, hM⟩ := M.e_bind hM
      refine s_call cf126 [Pz b_n, I (s : Int)] (lst2 (gd_of (c := ((decide (0 < ((mp (⟨(at_ : Int), (s : Int)⟩ : Gate)).getD 0))) && (!((mp2 (s : Int)).getD false)))) hg_ (Pz b_n)) (gd_of (c := ((decide (0 < ((mp (⟨(at_ : Int), (s : Int)⟩ : Gate)).getD 0))) && (!((mp2 (s : Int)).getD false)))) hg_ (I (s : Int)))) (ih n_web_list_works n_revised n_work mp mp2 (s : Int) (hC_n_web_list_works.app _) hs_n_web_list_works (h_b_n_web.app _) (hC_n_revised.app _) hs_n_revised (h_b_n.app _) hx17z _ (St.give (T := []) H rfl)) ?_
      rintro vq w19z ⟨r9, q_b_n_room7, q_b_n_met8, hr20z, hvq, H2_⟩
      subst hr20z
      subst vq
      try dsimp only at hM
      replace H : St w w19z [cMap encG I b_n_room q_b_n_room7, cMap I B b_n_met q_b_n_met8] R := H.back H2_ rfl
      clear H2_
      refine s_val (x_pand (b := ((decide (0 < ((mp (⟨(at_ : Int), (s : Int)⟩ : Gate)).getD 0))) && (!((mp2 (s : Int)).getD false)))) (r := r9) rfl (fun _ => rfl) rfl) <| s_nil ?_
      refine W.cond (((decide (0 < ((mp (⟨(at_ : Int), (s : Int)⟩ : Gate)).getD 0))) && (!((mp2 (s : Int)).getD false))) && r9) rfl (fun c21z => ?_) (fun c21z => ?_)
      ·replace hM := M.e_t hM c21z
       refine W.seq ?_
       refine W.drawT (fun W => St w W [cMap I B b_n_met q_b_n_met8] R) (.q 0 (.q 1 (.q 2 (.q 3 (.q 4 (.q 5 (.q 6 (.l2 7 (.q 8 (.l 9 (.q 10 (.l 11 .nil)))) 9 (.q 10 (.l 7 (.q 8 (.l 11 .nil)))))))))))) mixed (by decide +kernel) rfl ?_
       intro w22z hx_
       replace H : St w w22z [cMap encG I b_n_room q_b_n_room7, cMap I B b_n_met q_b_n_met8] R := H.ext hx_
       clear hx_
       refine ⟨(H.pick [1] (by decide) rfl), ?_⟩
       refine t_q rfl (fun w' H => x_mv (v := Pz b_n) rfl) ?_
       refine t_q rfl (fun w' H => x_nc (a := ⟨b_n, 0, none⟩) rfl) ?_
       refine t_q rfl (fun w' H => x_fa (a := Pz b_n) (v := Oz b_n 3) rfl (fa_blk (o := 0) Fd180_3 Sz177)) ?_
       refine t_q rfl (fun w' H => x_ld (p := Oz b_n 3) (v := .map (some b_n_room)) rfl (ldb_sc Sc177 (h_b_n.blk H) rfl)) ?_
       refine t_q rfl (fun w' H => x_mv (v := I at_) rfl) ?_
       refine t_q rfl (fun w' H => x_mv (v := I (s : Int)) rfl) ?_
       refine t_q rfl (fun w' H => x_bld (ps := [(0, I at_), (1, I (s : Int))]) (zs := [I 0, I 0]) (L' := [I at_, I (s : Int)]) rfl Try.underlying182 Al182 rfl (Bd182 Try.underlying182) (.cons (cs := [I at_]) rfl rfl rfl rfl rfl <| .cons (cs := [I (s : Int)]) rfl rfl rfl rfl rfl <| .nil)) ?_
       obtain ⟨sd23z, hM⟩ := M.e_grd hM
       simp only [Bool.and_eq_true, decide_eq_true_eq] at sd23z
       refine t_l2 rfl rfl ?_ ?_
       ·skip
        refine s_val (q_look (kenc := encG) (venc := I) (f := q_b_n_room7) (k := (⟨(at_ : Int), (s : Int)⟩ : Gate)) (v := I ((q_b_n_room7 (⟨(at_ : Int), (s : Int)⟩ : Gate)).getD 0)) keyGate Try.underlying177 Al3 rfl rfl (H.get (k := 0) rfl) false (by rw [if_neg (by decide), int_val])) ?_
        refine s_nil ⟨(H.pick [1] (by decide) rfl), ?_⟩
        refine t_q rfl (fun w' H => x_ari (a := (q_b_n_room7 (⟨(at_ : Int), (s : Int)⟩ : Gate)).getD 0) (b := 1) (r := ((q_b_n_room7 (⟨(at_ : Int), (s : Int)⟩ : Gate)).getD 0) - 1) rfl rfl rfl (by omega)) ?_
        refine t_l rfl ?_
        refine t_ment (i := 0) (kenc := encG) (venc := I) (f := q_b_n_room7) (k := (⟨(at_ : Int), (s : Int)⟩ : Gate)) (z := 0) keyGate Try.underlying177 Al3 H rfl rfl rfl ?_
        intro st28z w27z H
        replace H : St w w27z [cEnt encG I b_n_room (updF q_b_n_room7 (⟨(at_ : Int), (s : Int)⟩ : Gate) ((q_b_n_room7 (⟨(at_ : Int), (s : Int)⟩ : Gate)).getD 0)) (⟨(at_ : Int), (s : Int)⟩ : Gate) st28z, cMap I B b_n_met q_b_n_met8] R := H
        refine s_nil ⟨(H.pick [1] (by decide) rfl), ?_⟩
        refine t_q rfl (fun w' H => x_ext (vs := [I ((q_b_n_room7 (⟨(at_ : Int), (s : Int)⟩ : Gate)).getD 0), .int .i64 st28z]) (v := .int .i64 st28z) rfl rfl) ?_
        refine t_l rfl ?_
        refine t_enst (i := 0) (kenc := encG) (venc := I) (f0 := q_b_n_room7) (k := (⟨(at_ : Int), (s : Int)⟩ : Gate)) (v := (((q_b_n_room7 (⟨(at_ : Int), (s : Int)⟩ : Gate)).getD 0) - 1 : Int)) (L' := [cMap encG I b_n_room (updF q_b_n_room7 (⟨(at_ : Int), (s : Int)⟩ : Gate) (((q_b_n_room7 (⟨(at_ : Int), (s : Int)⟩ : Gate)).getD 0) - 1 : Int)), cMap I B b_n_met q_b_n_met8]) H rfl rfl rfl rfl rfl ?_
        intro w29z H
        refine s_nil ⟨(H.pick [1] (by decide) rfl), ?_⟩
        refine t_nil ?_
        refine W.seq ?_
        refine W.drawT (fun W => St w W [cMap I B b_n_met q_b_n_met8] R) (.q 0 (.q 1 (.q 2 (.q 3 (.q 4 (.q 5 (.q 6 (.l2 7 (.q 8 (.l 9 (.q 10 (.l 11 .nil)))) 9 (.q 10 (.l 7 (.q 8 (.l 11 .nil)))))))))))) mixed (by decide +kernel) rfl ?_
        intro w30z hx_
        replace H : St w w30z [cMap encG I b_n_room (updF q_b_n_room7 (⟨(at_ : Int), (s : Int)⟩ : Gate) (((q_b_n_room7 (⟨(at_ : Int), (s : Int)⟩ : Gate)).getD 0) - 1 : Int)), cMap I B b_n_met q_b_n_met8] R := H.ext hx_
        clear hx_
        refine ⟨(H.pick [1] (by decide) rfl), ?_⟩
        refine t_q rfl (fun w' H => x_mv (v := Pz b_n) rfl) ?_
        refine t_q rfl (fun w' H => x_nc (a := ⟨b_n, 0, none⟩) rfl) ?_
        refine t_q rfl (fun w' H => x_fa (a := Pz b_n) (v := Oz b_n 3) rfl (fa_blk (o := 0) Fd180_3 Sz177)) ?_
        refine t_q rfl (fun w' H => x_ld (p := Oz b_n 3) (v := .map (some b_n_room)) rfl (ldb_sc Sc177 (h_b_n.blk H) rfl)) ?_
        refine t_q rfl (fun w' H => x_mv (v := I (s : Int)) rfl) ?_
        refine t_q rfl (fun w' H => x_mv (v := I at_) rfl) ?_
        refine t_q rfl (fun w' H => x_bld (ps := [(0, I (s : Int)), (1, I at_)]) (zs := [I 0, I 0]) (L' := [I (s : Int), I at_]) rfl Try.underlying182 Al182 rfl (Bd182 Try.underlying182) (.cons (cs := [I (s : Int)]) rfl rfl rfl rfl rfl <| .cons (cs := [I at_]) rfl rfl rfl rfl rfl <| .nil)) ?_
        obtain ⟨sd31z, hM⟩ := M.e_grd hM
        simp only [Bool.and_eq_true, decide_eq_true_eq] at sd31z
        refine t_l2 rfl rfl ?_ ?_
        ·skip
         refine s_val (q_look (kenc := encG) (venc := I) (f := updF q_b_n_room7 (⟨(at_ : Int), (s : Int)⟩ : Gate) (((q_b_n_room7 (⟨(at_ : Int), (s : Int)⟩ : Gate)).getD 0) - 1 : Int)) (k := (⟨(s : Int), (at_ : Int)⟩ : Gate)) (v := I (((updF q_b_n_room7 (⟨(at_ : Int), (s : Int)⟩ : Gate) (((q_b_n_room7 (⟨(at_ : Int), (s : Int)⟩ : Gate)).getD 0) - 1 : Int)) (⟨(s : Int), (at_ : Int)⟩ : Gate)).getD 0)) keyGate Try.underlying177 Al3 rfl rfl (H.get (k := 0) rfl) false (by rw [if_neg (by decide), int_val])) ?_
         refine s_nil ⟨(H.pick [1] (by decide) rfl), ?_⟩
         refine t_q rfl (fun w' H => x_ari (a := ((updF q_b_n_room7 (⟨(at_ : Int), (s : Int)⟩ : Gate) (((q_b_n_room7 (⟨(at_ : Int), (s : Int)⟩ : Gate)).getD 0) - 1 : Int)) (⟨(s : Int), (at_ : Int)⟩ : Gate)).getD 0) (b := 1) (r := (((updF q_b_n_room7 (⟨(at_ : Int), (s : Int)⟩ : Gate) (((q_b_n_room7 (⟨(at_ : Int), (s : Int)⟩ : Gate)).getD 0) - 1 : Int)) (⟨(s : Int), (at_ : Int)⟩ : Gate)).getD 0) + 1) rfl rfl rfl (by omega)) ?_
         refine t_l rfl ?_
         refine t_ment (i := 0) (kenc := encG) (venc := I) (f := updF q_b_n_room7 (⟨(at_ : Int), (s : Int)⟩ : Gate) (((q_b_n_room7 (⟨(at_ : Int), (s : Int)⟩ : Gate)).getD 0) - 1 : Int)) (k := (⟨(s : Int), (at_ : Int)⟩ : Gate)) (z := 0) keyGate Try.underlying177 Al3 H rfl rfl rfl ?_
         intro st36z w35z H
         replace H : St w w35z [cEnt encG I b_n_room (updF (updF q_b_n_room7 (⟨(at_ : Int), (s : Int)⟩ : Gate) (((q_b_n_room7 (⟨(at_ : Int), (s : Int)⟩ : Gate)).getD 0) - 1 : Int)) (⟨(s : Int), (at_ : Int)⟩ : Gate) (((updF q_b_n_room7 (⟨(at_ : Int), (s : Int)⟩ : Gate) (((q_b_n_room7 (⟨(at_ : Int), (s : Int)⟩ : Gate)).getD 0) - 1 : Int)) (⟨(s : Int), (at_ : Int)⟩ : Gate)).getD 0)) (⟨(s : Int), (at_ : Int)⟩ : Gate) st36z, cMap I B b_n_met q_b_n_met8] R := H
         refine s_nil ⟨(H.pick [1] (by decide) rfl), ?_⟩
         refine t_q rfl (fun w' H => x_ext (vs := [I (((updF q_b_n_room7 (⟨(at_ : Int), (s : Int)⟩ : Gate) (((q_b_n_room7 (⟨(at_ : Int), (s : Int)⟩ : Gate)).getD 0) - 1 : Int)) (⟨(s : Int), (at_ : Int)⟩ : Gate)).getD 0), .int .i64 st36z]) (v := .int .i64 st36z) rfl rfl) ?_
         refine t_l rfl ?_
         refine t_enst (i := 0) (kenc := encG) (venc := I) (f0 := updF q_b_n_room7 (⟨(at_ : Int), (s : Int)⟩ : Gate) (((q_b_n_room7 (⟨(at_ : Int), (s : Int)⟩ : Gate)).getD 0) - 1 : Int)) (k := (⟨(s : Int), (at_ : Int)⟩ : Gate)) (v := ((((updF q_b_n_room7 (⟨(at_ : Int), (s : Int)⟩ : Gate) (((q_b_n_room7 (⟨(at_ : Int), (s : Int)⟩ : Gate)).getD 0) - 1 : Int)) (⟨(s : Int), (at_ : Int)⟩ : Gate)).getD 0) + 1 : Int)) (L' := [cMap encG I b_n_room (updF (updF q_b_n_room7 (⟨(at_ : Int), (s : Int)⟩ : Gate) (((q_b_n_room7 (⟨(at_ : Int), (s : Int)⟩ : Gate)).getD 0) - 1 : Int)) (⟨(s : Int), (at_ : Int)⟩ : Gate) ((((updF q_b_n_room7 (⟨(at_ : Int), (s : Int)⟩ : Gate) (((q_b_n_room7 (⟨(at_ : Int), (s : Int)⟩ : Gate)).getD 0) - 1 : Int)) (⟨(s : Int), (at_ : Int)⟩ : Gate)).getD 0) + 1 : Int)), cMap I B b_n_met q_b_n_met8]) H rfl rfl rfl rfl rfl ?_
         intro w37z H
         refine s_nil ⟨(H.pick [1] (by decide) rfl), ?_⟩
         refine t_nil ?_
         refine W.seq <| W.region rfl <| sA (B true) rfl <| s_nil ?_
         refine W.ret ?_
         have hX38z := M.e_inr hM hN15z
         subst hX38z
         replace hM := hk8z
         try dsimp only at hM
         have hr_ := M.e_pure hM
         exact ⟨_, resE_tmp rfl, ⟨true, (updF (updF q_b_n_room7 (⟨(at_ : Int), (s : Int)⟩ : Gate) (((q_b_n_room7 (⟨(at_ : Int), (s : Int)⟩ : Gate)).getD 0) - 1 : Int)) (⟨(s : Int), (at_ : Int)⟩ : Gate) ((((updF q_b_n_room7 (⟨(at_ : Int), (s : Int)⟩ : Gate) (((q_b_n_room7 (⟨(at_ : Int), (s : Int)⟩ : Gate)).getD 0) - 1 : Int)) (⟨(s : Int), (at_ : Int)⟩ : Gate)).getD 0) + 1 : Int)), q_b_n_met8, hr_, rfl, H⟩⟩
        skip
        refine t_ment (i := 0) (kenc := encG) (venc := I) (f := updF q_b_n_room7 (⟨(at_ : Int), (s : Int)⟩ : Gate) (((q_b_n_room7 (⟨(at_ : Int), (s : Int)⟩ : Gate)).getD 0) - 1 : Int)) (k := (⟨(s : Int), (at_ : Int)⟩ : Gate)) (z := 0) keyGate Try.underlying177 Al3 H rfl rfl rfl ?_
        intro st40z w39z H
        replace H : St w w39z [cEnt encG I b_n_room (updF (updF q_b_n_room7 (⟨(at_ : Int), (s : Int)⟩ : Gate) (((q_b_n_room7 (⟨(at_ : Int), (s : Int)⟩ : Gate)).getD 0) - 1 : Int)) (⟨(s : Int), (at_ : Int)⟩ : Gate) (((updF q_b_n_room7 (⟨(at_ : Int), (s : Int)⟩ : Gate) (((q_b_n_room7 (⟨(at_ : Int), (s : Int)⟩ : Gate)).getD 0) - 1 : Int)) (⟨(s : Int), (at_ : Int)⟩ : Gate)).getD 0)) (⟨(s : Int), (at_ : Int)⟩ : Gate) st40z, cMap I B b_n_met q_b_n_met8] R := H
        refine s_nil ⟨(H.pick [1] (by decide) rfl), ?_⟩
        refine t_q rfl (fun w' H => x_ext (vs := [I (((updF q_b_n_room7 (⟨(at_ : Int), (s : Int)⟩ : Gate) (((q_b_n_room7 (⟨(at_ : Int), (s : Int)⟩ : Gate)).getD 0) - 1 : Int)) (⟨(s : Int), (at_ : Int)⟩ : Gate)).getD 0), .int .i64 st40z]) (v := .int .i64 st40z) rfl rfl) ?_
        refine t_l rfl ?_
        refine s_val (q_look (kenc := encG) (venc := I) (f := updF (updF q_b_n_room7 (⟨(at_ : Int), (s : Int)⟩ : Gate) (((q_b_n_room7 (⟨(at_ : Int), (s : Int)⟩ : Gate)).getD 0) - 1 : Int)) (⟨(s : Int), (at_ : Int)⟩ : Gate) (((updF q_b_n_room7 (⟨(at_ : Int), (s : Int)⟩ : Gate) (((q_b_n_room7 (⟨(at_ : Int), (s : Int)⟩ : Gate)).getD 0) - 1 : Int)) (⟨(s : Int), (at_ : Int)⟩ : Gate)).getD 0)) (k := (⟨(s : Int), (at_ : Int)⟩ : Gate)) (v := I (((updF q_b_n_room7 (⟨(at_ : Int), (s : Int)⟩ : Gate) (((q_b_n_room7 (⟨(at_ : Int), (s : Int)⟩ : Gate)).getD 0) - 1 : Int)) (⟨(s : Int), (at_ : Int)⟩ : Gate)).getD 0)) keyGate Try.underlying177 Al3 rfl rfl (entMap (H.get (k := 0) rfl)) false (by rw [if_neg (by decide), int_val, updF_same])) ?_
        refine s_nil ⟨(H.pick [1] (by decide) rfl), ?_⟩
        refine t_q rfl (fun w' H => x_ari (a := ((updF q_b_n_room7 (⟨(at_ : Int), (s : Int)⟩ : Gate) (((q_b_n_room7 (⟨(at_ : Int), (s : Int)⟩ : Gate)).getD 0) - 1 : Int)) (⟨(s : Int), (at_ : Int)⟩ : Gate)).getD 0) (b := 1) (r := (((updF q_b_n_room7 (⟨(at_ : Int), (s : Int)⟩ : Gate) (((q_b_n_room7 (⟨(at_ : Int), (s : Int)⟩ : Gate)).getD 0) - 1 : Int)) (⟨(s : Int), (at_ : Int)⟩ : Gate)).getD 0) + 1) rfl rfl rfl (by omega)) ?_
        refine t_l rfl ?_
        refine t_enst (i := 0) (kenc := encG) (venc := I) (f0 := updF q_b_n_room7 (⟨(at_ : Int), (s : Int)⟩ : Gate) (((q_b_n_room7 (⟨(at_ : Int), (s : Int)⟩ : Gate)).getD 0) - 1 : Int)) (k := (⟨(s : Int), (at_ : Int)⟩ : Gate)) (v := ((((updF q_b_n_room7 (⟨(at_ : Int), (s : Int)⟩ : Gate) (((q_b_n_room7 (⟨(at_ : Int), (s : Int)⟩ : Gate)).getD 0) - 1 : Int)) (⟨(s : Int), (at_ : Int)⟩ : Gate)).getD 0) + 1 : Int)) (L' := [cMap encG I b_n_room (updF (updF q_b_n_room7 (⟨(at_ : Int), (s : Int)⟩ : Gate) (((q_b_n_room7 (⟨(at_ : Int), (s : Int)⟩ : Gate)).getD 0) - 1 : Int)) (⟨(s : Int), (at_ : Int)⟩ : Gate) ((((updF q_b_n_room7 (⟨(at_ : Int), (s : Int)⟩ : Gate) (((q_b_n_room7 (⟨(at_ : Int), (s : Int)⟩ : Gate)).getD 0) - 1 : Int)) (⟨(s : Int), (at_ : Int)⟩ : Gate)).getD 0) + 1 : Int)), cMap I B b_n_met q_b_n_met8]) H rfl rfl rfl rfl rfl ?_
        intro w41z H
        refine s_nil ⟨(H.pick [1] (by decide) rfl), ?_⟩
        refine t_nil ?_
        refine W.seq <| W.region rfl <| sA (B true) rfl <| s_nil ?_
        refine W.ret ?_
        have hX42z := M.e_inr hM hN15z
        subst hX42z
        replace hM := hk8z
        try dsimp only at hM
        have hr_ := M.e_pure hM
        exact ⟨_, resE_tmp rfl, ⟨true, (updF (updF q_b_n_room7 (⟨(at_ : Int), (s : Int)⟩ : Gate) (((q_b_n_room7 (⟨(at_ : Int), (s : Int)⟩ : Gate)).getD 0) - 1 : Int)) (⟨(s : Int), (at_ : Int)⟩ : Gate) ((((updF q_b_n_room7 (⟨(at_ : Int), (s : Int)⟩ : Gate) (((q_b_n_room7 (⟨(at_ : Int), (s : Int)⟩ : Gate)).getD 0) - 1 : Int)) (⟨(s : Int), (at_ : Int)⟩ : Gate)).getD 0) + 1 : Int)), q_b_n_met8, hr_, rfl, H⟩⟩
       skip
       refine t_ment (i := 0) (kenc := encG) (venc := I) (f := q_b_n_room7) (k := (⟨(at_ : Int), (s : Int)⟩ : Gate)) (z := 0) keyGate Try.underlying177 Al3 H rfl rfl rfl ?_
       intro st44z w43z H
       replace H : St w w43z [cEnt encG I b_n_room (updF q_b_n_room7 (⟨(at_ : Int), (s : Int)⟩ : Gate) ((q_b_n_room7 (⟨(at_ : Int), (s : Int)⟩ : Gate)).getD 0)) (⟨(at_ : Int), (s : Int)⟩ : Gate) st44z, cMap I B b_n_met q_b_n_met8] R := H
       refine s_nil ⟨(H.pick [1] (by decide) rfl), ?_⟩
       refine t_q rfl (fun w' H => x_ext (vs := [I ((q_b_n_room7 (⟨(at_ : Int), (s : Int)⟩ : Gate)).getD 0), .int .i64 st44z]) (v := .int .i64 st44z) rfl rfl) ?_
       refine t_l rfl ?_
       refine s_val (q_look (kenc := encG) (venc := I) (f := updF q_b_n_room7 (⟨(at_ : Int), (s : Int)⟩ : Gate) ((q_b_n_room7 (⟨(at_ : Int), (s : Int)⟩ : Gate)).getD 0)) (k := (⟨(at_ : Int), (s : Int)⟩ : Gate)) (v := I ((q_b_n_room7 (⟨(at_ : Int), (s : Int)⟩ : Gate)).getD 0)) keyGate Try.underlying177 Al3 rfl rfl (entMap (H.get (k := 0) rfl)) false (by rw [if_neg (by decide), int_val, updF_same])) ?_
       refine s_nil ⟨(H.pick [1] (by decide) rfl), ?_⟩
       refine t_q rfl (fun w' H => x_ari (a := (q_b_n_room7 (⟨(at_ : Int), (s : Int)⟩ : Gate)).getD 0) (b := 1) (r := ((q_b_n_room7 (⟨(at_ : Int), (s : Int)⟩ : Gate)).getD 0) - 1) rfl rfl rfl (by omega)) ?_
       refine t_l rfl ?_
       refine t_enst (i := 0) (kenc := encG) (venc := I) (f0 := q_b_n_room7) (k := (⟨(at_ : Int), (s : Int)⟩ : Gate)) (v := (((q_b_n_room7 (⟨(at_ : Int), (s : Int)⟩ : Gate)).getD 0) - 1 : Int)) (L' := [cMap encG I b_n_room (updF q_b_n_room7 (⟨(at_ : Int), (s : Int)⟩ : Gate) (((q_b_n_room7 (⟨(at_ : Int), (s : Int)⟩ : Gate)).getD 0) - 1 : Int)), cMap I B b_n_met q_b_n_met8]) H rfl rfl rfl rfl rfl ?_
       intro w45z H
       refine s_nil ⟨(H.pick [1] (by decide) rfl), ?_⟩
       refine t_nil ?_
       refine W.seq ?_
       refine W.drawT (fun W => St w W [cMap I B b_n_met q_b_n_met8] R) (.q 0 (.q 1 (.q 2 (.q 3 (.q 4 (.q 5 (.q 6 (.l2 7 (.q 8 (.l 9 (.q 10 (.l 11 .nil)))) 9 (.q 10 (.l 7 (.q 8 (.l 11 .nil)))))))))))) mixed (by decide +kernel) rfl ?_
       intro w46z hx_
       replace H : St w w46z [cMap encG I b_n_room (updF q_b_n_room7 (⟨(at_ : Int), (s : Int)⟩ : Gate) (((q_b_n_room7 (⟨(at_ : Int), (s : Int)⟩ : Gate)).getD 0) - 1 : Int)), cMap I B b_n_met q_b_n_met8] R := H.ext hx_
       clear hx_
       refine ⟨(H.pick [1] (by decide) rfl), ?_⟩
       refine t_q rfl (fun w' H => x_mv (v := Pz b_n) rfl) ?_
       refine t_q rfl (fun w' H => x_nc (a := ⟨b_n, 0, none⟩) rfl) ?_
       refine t_q rfl (fun w' H => x_fa (a := Pz b_n) (v := Oz b_n 3) rfl (fa_blk (o := 0) Fd180_3 Sz177)) ?_
       refine t_q rfl (fun w' H => x_ld (p := Oz b_n 3) (v := .map (some b_n_room)) rfl (ldb_sc Sc177 (h_b_n.blk H) rfl)) ?_
       refine t_q rfl (fun w' H => x_mv (v := I (s : Int)) rfl) ?_
       refine t_q rfl (fun w' H => x_mv (v := I at_) rfl) ?_
       refine t_q rfl (fun w' H => x_bld (ps := [(0, I (s : Int)), (1, I at_)]) (zs := [I 0, I 0]) (L' := [I (s : Int), I at_]) rfl Try.underlying182 Al182 rfl (Bd182 Try.underlying182) (.cons (cs := [I (s : Int)]) rfl rfl rfl rfl rfl <| .cons (cs := [I at_]) rfl rfl rfl rfl rfl <| .nil)) ?_
       obtain ⟨sd47z, hM⟩ := M.e_grd hM
       simp only [Bool.and_eq_true, decide_eq_true_eq] at sd47z
       refine t_l2 rfl rfl ?_ ?_
       ·skip
        refine s_val (q_look (kenc := encG) (venc := I) (f := updF q_b_n_room7 (⟨(at_ : Int), (s : Int)⟩ : Gate) (((q_b_n_room7 (⟨(at_ : Int), (s : Int)⟩ : Gate)).getD 0) - 1 : Int)) (k := (⟨(s : Int), (at_ : Int)⟩ : Gate)) (v := I (((updF q_b_n_room7 (⟨(at_ : Int), (s : Int)⟩ : Gate) (((q_b_n_room7 (⟨(at_ : Int), (s : Int)⟩ : Gate)).getD 0) - 1 : Int)) (⟨(s : Int), (at_ : Int)⟩ : Gate)).getD 0)) keyGate Try.underlying177 Al3 rfl rfl (H.get (k := 0) rfl) false (by rw [if_neg (by decide), int_val])) ?_
        refine s_nil ⟨(H.pick [1] (by decide) rfl), ?_⟩
        refine t_q rfl (fun w' H => x_ari (a := ((updF q_b_n_room7 (⟨(at_ : Int), (s : Int)⟩ : Gate) (((q_b_n_room7 (⟨(at_ : Int), (s : Int)⟩ : Gate)).getD 0) - 1 : Int)) (⟨(s : Int), (at_ : Int)⟩ : Gate)).getD 0) (b := 1) (r := (((updF q_b_n_room7 (⟨(at_ : Int), (s : Int)⟩ : Gate) (((q_b_n_room7 (⟨(at_ : Int), (s : Int)⟩ : Gate)).getD 0) - 1 : Int)) (⟨(s : Int), (at_ : Int)⟩ : Gate)).getD 0) + 1) rfl rfl rfl (by omega)) ?_
        refine t_l rfl ?_
        refine t_ment (i := 0) (kenc := encG) (venc := I) (f := updF q_b_n_room7 (⟨(at_ : Int), (s : Int)⟩ : Gate) (((q_b_n_room7 (⟨(at_ : Int), (s : Int)⟩ : Gate)).getD 0) - 1 : Int)) (k := (⟨(s : Int), (at_ : Int)⟩ : Gate)) (z := 0) keyGate Try.underlying177 Al3 H rfl rfl rfl ?_
        intro st52z w51z H
        replace H : St w w51z [cEnt encG I b_n_room (updF (updF q_b_n_room7 (⟨(at_ : Int), (s : Int)⟩ : Gate) (((q_b_n_room7 (⟨(at_ : Int), (s : Int)⟩ : Gate)).getD 0) - 1 : Int)) (⟨(s : Int), (at_ : Int)⟩ : Gate) (((updF q_b_n_room7 (⟨(at_ : Int), (s : Int)⟩ : Gate) (((q_b_n_room7 (⟨(at_ : Int), (s : Int)⟩ : Gate)).getD 0) - 1 : Int)) (⟨(s : Int), (at_ : Int)⟩ : Gate)).getD 0)) (⟨(s : Int), (at_ : Int)⟩ : Gate) st52z, cMap I B b_n_met q_b_n_met8] R := H
        refine s_nil ⟨(H.pick [1] (by decide) rfl), ?_⟩
        refine t_q rfl (fun w' H => x_ext (vs := [I (((updF q_b_n_room7 (⟨(at_ : Int), (s : Int)⟩ : Gate) (((q_b_n_room7 (⟨(at_ : Int), (s : Int)⟩ : Gate)).getD 0) - 1 : Int)) (⟨(s : Int), (at_ : Int)⟩ : Gate)).getD 0), .int .i64 st52z]) (v := .int .i64 st52z) rfl rfl) ?_
        refine t_l rfl ?_
        refine t_enst (i := 0) (kenc := encG) (venc := I) (f0 := updF q_b_n_room7 (⟨(at_ : Int), (s : Int)⟩ : Gate) (((q_b_n_room7 (⟨(at_ : Int), (s : Int)⟩ : Gate)).getD 0) - 1 : Int)) (k := (⟨(s : Int), (at_ : Int)⟩ : Gate)) (v := ((((updF q_b_n_room7 (⟨(at_ : Int), (s : Int)⟩ : Gate) (((q_b_n_room7 (⟨(at_ : Int), (s : Int)⟩ : Gate)).getD 0) - 1 : Int)) (⟨(s : Int), (at_ : Int)⟩ : Gate)).getD 0) + 1 : Int)) (L' := [cMap encG I b_n_room (updF (updF q_b_n_room7 (⟨(at_ : Int), (s : Int)⟩ : Gate) (((q_b_n_room7 (⟨(at_ : Int), (s : Int)⟩ : Gate)).getD 0) - 1 : Int)) (⟨(s : Int), (at_ : Int)⟩ : Gate) ((((updF q_b_n_room7 (⟨(at_ : Int), (s : Int)⟩ : Gate) (((q_b_n_room7 (⟨(at_ : Int), (s : Int)⟩ : Gate)).getD 0) - 1 : Int)) (⟨(s : Int), (at_ : Int)⟩ : Gate)).getD 0) + 1 : Int)), cMap I B b_n_met q_b_n_met8]) H rfl rfl rfl rfl rfl ?_
        intro w53z H
        refine s_nil ⟨(H.pick [1] (by decide) rfl), ?_⟩
        refine t_nil ?_
        refine W.seq <| W.region rfl <| sA (B true) rfl <| s_nil ?_
        refine W.ret ?_
        have hX54z := M.e_inr hM hN15z
        subst hX54z
        replace hM := hk8z
        try dsimp only at hM
        have hr_ := M.e_pure hM
        exact ⟨_, resE_tmp rfl, ⟨true, (updF (updF q_b_n_room7 (⟨(at_ : Int), (s : Int)⟩ : Gate) (((q_b_n_room7 (⟨(at_ : Int), (s : Int)⟩ : Gate)).getD 0) - 1 : Int)) (⟨(s : Int), (at_ : Int)⟩ : Gate) ((((updF q_b_n_room7 (⟨(at_ : Int), (s : Int)⟩ : Gate) (((q_b_n_room7 (⟨(at_ : Int), (s : Int)⟩ : Gate)).getD 0) - 1 : Int)) (⟨(s : Int), (at_ : Int)⟩ : Gate)).getD 0) + 1 : Int)), q_b_n_met8, hr_, rfl, H⟩⟩
       skip
       refine t_ment (i := 0) (kenc := encG) (venc := I) (f := updF q_b_n_room7 (⟨(at_ : Int), (s : Int)⟩ : Gate) (((q_b_n_room7 (⟨(at_ : Int), (s : Int)⟩ : Gate)).getD 0) - 1 : Int)) (k := (⟨(s : Int), (at_ : Int)⟩ : Gate)) (z := 0) keyGate Try.underlying177 Al3 H rfl rfl rfl ?_
       intro st56z w55z H
       replace H : St w w55z [cEnt encG I b_n_room (updF (updF q_b_n_room7 (⟨(at_ : Int), (s : Int)⟩ : Gate) (((q_b_n_room7 (⟨(at_ : Int), (s : Int)⟩ : Gate)).getD 0) - 1 : Int)) (⟨(s : Int), (at_ : Int)⟩ : Gate) (((updF q_b_n_room7 (⟨(at_ : Int), (s : Int)⟩ : Gate) (((q_b_n_room7 (⟨(at_ : Int), (s : Int)⟩ : Gate)).getD 0) - 1 : Int)) (⟨(s : Int), (at_ : Int)⟩ : Gate)).getD 0)) (⟨(s : Int), (at_ : Int)⟩ : Gate) st56z, cMap I B b_n_met q_b_n_met8] R := H
       refine s_nil ⟨(H.pick [1] (by decide) rfl), ?_⟩
       refine t_q rfl (fun w' H => x_ext (vs := [I (((updF q_b_n_room7 (⟨(at_ : Int), (s : Int)⟩ : Gate) (((q_b_n_room7 (⟨(at_ : Int), (s : Int)⟩ : Gate)).getD 0) - 1 : Int)) (⟨(s : Int), (at_ : Int)⟩ : Gate)).getD 0), .int .i64 st56z]) (v := .int .i64 st56z) rfl rfl) ?_
       refine t_l rfl ?_
       refine s_val (q_look (kenc := encG) (venc := I) (f := updF (updF q_b_n_room7 (⟨(at_ : Int), (s : Int)⟩ : Gate) (((q_b_n_room7 (⟨(at_ : Int), (s : Int)⟩ : Gate)).getD 0) - 1 : Int)) (⟨(s : Int), (at_ : Int)⟩ : Gate) (((updF q_b_n_room7 (⟨(at_ : Int), (s : Int)⟩ : Gate) (((q_b_n_room7 (⟨(at_ : Int), (s : Int)⟩ : Gate)).getD 0) - 1 : Int)) (⟨(s : Int), (at_ : Int)⟩ : Gate)).getD 0)) (k := (⟨(s : Int), (at_ : Int)⟩ : Gate)) (v := I (((updF q_b_n_room7 (⟨(at_ : Int), (s : Int)⟩ : Gate) (((q_b_n_room7 (⟨(at_ : Int), (s : Int)⟩ : Gate)).getD 0) - 1 : Int)) (⟨(s : Int), (at_ : Int)⟩ : Gate)).getD 0)) keyGate Try.underlying177 Al3 rfl rfl (entMap (H.get (k := 0) rfl)) false (by rw [if_neg (by decide), int_val, updF_same])) ?_
       refine s_nil ⟨(H.pick [1] (by decide) rfl), ?_⟩
       refine t_q rfl (fun w' H => x_ari (a := ((updF q_b_n_room7 (⟨(at_ : Int), (s : Int)⟩ : Gate) (((q_b_n_room7 (⟨(at_ : Int), (s : Int)⟩ : Gate)).getD 0) - 1 : Int)) (⟨(s : Int), (at_ : Int)⟩ : Gate)).getD 0) (b := 1) (r := (((updF q_b_n_room7 (⟨(at_ : Int), (s : Int)⟩ : Gate) (((q_b_n_room7 (⟨(at_ : Int), (s : Int)⟩ : Gate)).getD 0) - 1 : Int)) (⟨(s : Int), (at_ : Int)⟩ : Gate)).getD 0) + 1) rfl rfl rfl (by omega)) ?_
       refine t_l rfl ?_
       refine t_enst (i := 0) (kenc := encG) (venc := I) (f0 := updF q_b_n_room7 (⟨(at_ : Int), (s : Int)⟩ : Gate) (((q_b_n_room7 (⟨(at_ : Int), (s : Int)⟩ : Gate)).getD 0) - 1 : Int)) (k := (⟨(s : Int), (at_ : Int)⟩ : Gate)) (v := ((((updF q_b_n_room7 (⟨(at_ : Int), (s : Int)⟩ : Gate) (((q_b_n_room7 (⟨(at_ : Int), (s : Int)⟩ : Gate)).getD 0) - 1 : Int)) (⟨(s : Int), (at_ : Int)⟩ : Gate)).getD 0) + 1 : Int)) (L' := [cMap encG I b_n_room (updF (updF q_b_n_room7 (⟨(at_ : Int), (s : Int)⟩ : Gate) (((q_b_n_room7 (⟨(at_ : Int), (s : Int)⟩ : Gate)).getD 0) - 1 : Int)) (⟨(s : Int), (at_ : Int)⟩ : Gate) ((((updF q_b_n_room7 (⟨(at_ : Int), (s : Int)⟩ : Gate) (((q_b_n_room7 (⟨(at_ : Int), (s : Int)⟩ : Gate)).getD 0) - 1 : Int)) (⟨(s : Int), (at_ : Int)⟩ : Gate)).getD 0) + 1 : Int)), cMap I B b_n_met q_b_n_met8]) H rfl rfl rfl rfl rfl ?_
       intro w57z H
       refine s_nil ⟨(H.pick [1] (by decide) rfl), ?_⟩
       refine t_nil ?_
       refine W.seq <| W.region rfl <| sA (B true) rfl <| s_nil ?_
       refine W.ret ?_
       have hX58z := M.e_inr hM hN15z
       subst hX58z
       replace hM := hk8z
       try dsimp only at hM
       have hr_ := M.e_pure hM
       exact ⟨_, resE_tmp rfl, ⟨true, (updF (updF q_b_n_room7 (⟨(at_ : Int), (s : Int)⟩ : Gate) (((q_b_n_room7 (⟨(at_ : Int), (s : Int)⟩ : Gate)).getD 0) - 1 : Int)) (⟨(s : Int), (at_ : Int)⟩ : Gate) ((((updF q_b_n_room7 (⟨(at_ : Int), (s : Int)⟩ : Gate) (((q_b_n_room7 (⟨(at_ : Int), (s : Int)⟩ : Gate)).getD 0) - 1 : Int)) (⟨(s : Int), (at_ : Int)⟩ : Gate)).getD 0) + 1 : Int)), q_b_n_met8, hr_, rfl, H⟩⟩
      replace hM := M.e_f hM c21z
      refine W.skip <| W.region rfl ?_
      obtain ⟨sd59z, hM⟩ := M.e_grd hM
      simp only [Bool.and_eq_true, decide_eq_true_eq] at sd59z
      refine s_val (x_ari (a := (s : Int)) (b := 1) (r := (s : Int) + 1) rfl rfl rfl (by omega)) <| sM (I ((s : Int) + 1)) rfl <| s_nil ?_
      exact ⟨m12z, lt13z, q_b_n_room7, q_b_n_met8, s + 1, _, upds_of _ _ ⟨rfl, rfl, rfl, rfl, trivial⟩, M.e_inl hM hN15z, H⟩
     replace hM := M.e_f hM hg_
     refine s_val (x_pand (b := ((decide (0 < ((mp (⟨(at_ : Int), (s : Int)⟩ : Gate)).getD 0))) && (!((mp2 (s : Int)).getD false)))) (r := false) rfl (fun hb => gd_of (c := ((decide (0 < ((mp (⟨(at_ : Int), (s : Int)⟩ : Gate)).getD 0))) && (!((mp2 (s : Int)).getD false)))) (by simp_all) (B false)) rfl) <| s_nil ?_
     refine W.cond (((decide (0 < ((mp (⟨(at_ : Int), (s : Int)⟩ : Gate)).getD 0))) && (!((mp2 (s : Int)).getD false))) && false) rfl (fun c60z => ?_) (fun c60z => ?_)
     ·replace hM := M.e_t hM c60z
      refine W.seq ?_
      refine W.drawT (fun W => St w W [cMap I B b_n_met mp2] R) (.q 0 (.q 1 (.q 2 (.q 3 (.q 4 (.q 5 (.q 6 (.l2 7 (.q 8 (.l 9 (.q 10 (.l 11 .nil)))) 9 (.q 10 (.l 7 (.q 8 (.l 11 .nil)))))))))))) mixed (by decide +kernel) rfl ?_
      intro w61z hx_
      replace H : St w w61z [cMap encG I b_n_room mp, cMap I B b_n_met mp2] R := H.ext hx_
      clear hx_
      refine ⟨(H.pick [1] (by decide) rfl), ?_⟩
      refine t_q rfl (fun w' H => x_mv (v := Pz b_n) rfl) ?_
      refine t_q rfl (fun w' H => x_nc (a := ⟨b_n, 0, none⟩) rfl) ?_
      refine t_q rfl (fun w' H => x_fa (a := Pz b_n) (v := Oz b_n 3) rfl (fa_blk (o := 0) Fd180_3 Sz177)) ?_
      refine t_q rfl (fun w' H => x_ld (p := Oz b_n 3) (v := .map (some b_n_room)) rfl (ldb_sc Sc177 (h_b_n.blk H) rfl)) ?_
      refine t_q rfl (fun w' H => x_mv (v := I at_) rfl) ?_
      refine t_q rfl (fun w' H => x_mv (v := I (s : Int)) rfl) ?_
      refine t_q rfl (fun w' H => x_bld (ps := [(0, I at_), (1, I (s : Int))]) (zs := [I 0, I 0]) (L' := [I at_, I (s : Int)]) rfl Try.underlying182 Al182 rfl (Bd182 Try.underlying182) (.cons (cs := [I at_]) rfl rfl rfl rfl rfl <| .cons (cs := [I (s : Int)]) rfl rfl rfl rfl rfl <| .nil)) ?_
      obtain ⟨sd62z, hM⟩ := M.e_grd hM
      simp only [Bool.and_eq_true, decide_eq_true_eq] at sd62z
      refine t_l2 rfl rfl ?_ ?_
      ·skip
       refine s_val (q_look (kenc := encG) (venc := I) (f := mp) (k := (⟨(at_ : Int), (s : Int)⟩ : Gate)) (v := I ((mp (⟨(at_ : Int), (s : Int)⟩ : Gate)).getD 0)) keyGate Try.underlying177 Al3 rfl rfl (H.get (k := 0) rfl) false (by rw [if_neg (by decide), int_val])) ?_
       refine s_nil ⟨(H.pick [1] (by decide) rfl), ?_⟩
       refine t_q rfl (fun w' H => x_ari (a := (mp (⟨(at_ : Int), (s : Int)⟩ : Gate)).getD 0) (b := 1) (r := ((mp (⟨(at_ : Int), (s : Int)⟩ : Gate)).getD 0) - 1) rfl rfl rfl (by omega)) ?_
       refine t_l rfl ?_
       refine t_ment (i := 0) (kenc := encG) (venc := I) (f := mp) (k := (⟨(at_ : Int), (s : Int)⟩ : Gate)) (z := 0) keyGate Try.underlying177 Al3 H rfl rfl rfl ?_
       intro st67z w66z H
       replace H : St w w66z [cEnt encG I b_n_room (updF mp (⟨(at_ : Int), (s : Int)⟩ : Gate) ((mp (⟨(at_ : Int), (s : Int)⟩ : Gate)).getD 0)) (⟨(at_ : Int), (s : Int)⟩ : Gate) st67z, cMap I B b_n_met mp2] R := H
       refine s_nil ⟨(H.pick [1] (by decide) rfl), ?_⟩
       refine t_q rfl (fun w' H => x_ext (vs := [I ((mp (⟨(at_ : Int), (s : Int)⟩ : Gate)).getD 0), .int .i64 st67z]) (v := .int .i64 st67z) rfl rfl) ?_
       refine t_l rfl ?_
       refine t_enst (i := 0) (kenc := encG) (venc := I) (f0 := mp) (k := (⟨(at_ : Int), (s : Int)⟩ : Gate)) (v := (((mp (⟨(at_ : Int), (s : Int)⟩ : Gate)).getD 0) - 1 : Int)) (L' := [cMap encG I b_n_room (updF mp (⟨(at_ : Int), (s : Int)⟩ : Gate) (((mp (⟨(at_ : Int), (s : Int)⟩ : Gate)).getD 0) - 1 : Int)), cMap I B b_n_met mp2]) H rfl rfl rfl rfl rfl ?_
       intro w68z H
       refine s_nil ⟨(H.pick [1] (by decide) rfl), ?_⟩
       refine t_nil ?_
       refine W.seq ?_
       refine W.drawT (fun W => St w W [cMap I B b_n_met mp2] R) (.q 0 (.q 1 (.q 2 (.q 3 (.q 4 (.q 5 (.q 6 (.l2 7 (.q 8 (.l 9 (.q 10 (.l 11 .nil)))) 9 (.q 10 (.l 7 (.q 8 (.l 11 .nil)))))))))))) mixed (by decide +kernel) rfl ?_
       intro w69z hx_
       replace H : St w w69z [cMap encG I b_n_room (updF mp (⟨(at_ : Int), (s : Int)⟩ : Gate) (((mp (⟨(at_ : Int), (s : Int)⟩ : Gate)).getD 0) - 1 : Int)), cMap I B b_n_met mp2] R := H.ext hx_
       clear hx_
       refine ⟨(H.pick [1] (by decide) rfl), ?_⟩
       refine t_q rfl (fun w' H => x_mv (v := Pz b_n) rfl) ?_
       refine t_q rfl (fun w' H => x_nc (a := ⟨b_n, 0, none⟩) rfl) ?_
       refine t_q rfl (fun w' H => x_fa (a := Pz b_n) (v := Oz b_n 3) rfl (fa_blk (o := 0) Fd180_3 Sz177)) ?_
       refine t_q rfl (fun w' H => x_ld (p := Oz b_n 3) (v := .map (some b_n_room)) rfl (ldb_sc Sc177 (h_b_n.blk H) rfl)) ?_
       refine t_q rfl (fun w' H => x_mv (v := I (s : Int)) rfl) ?_
       refine t_q rfl (fun w' H => x_mv (v := I at_) rfl) ?_
       refine t_q rfl (fun w' H => x_bld (ps := [(0, I (s : Int)), (1, I at_)]) (zs := [I 0, I 0]) (L' := [I (s : Int), I at_]) rfl Try.underlying182 Al182 rfl (Bd182 Try.underlying182) (.cons (cs := [I (s : Int)]) rfl rfl rfl rfl rfl <| .cons (cs := [I at_]) rfl rfl rfl rfl rfl <| .nil)) ?_
       obtain ⟨sd70z, hM⟩ := M.e_grd hM
       simp only [Bool.and_eq_true, decide_eq_true_eq] at sd70z
       refine t_l2 rfl rfl ?_ ?_
       ·skip
        refine s_val (q_look (kenc := encG) (venc := I) (f := updF mp (⟨(at_ : Int), (s : Int)⟩ : Gate) (((mp (⟨(at_ : Int), (s : Int)⟩ : Gate)).getD 0) - 1 : Int)) (k := (⟨(s : Int), (at_ : Int)⟩ : Gate)) (v := I (((updF mp (⟨(at_ : Int), (s : Int)⟩ : Gate) (((mp (⟨(at_ : Int), (s : Int)⟩ : Gate)).getD 0) - 1 : Int)) (⟨(s : Int), (at_ : Int)⟩ : Gate)).getD 0)) keyGate Try.underlying177 Al3 rfl rfl (H.get (k := 0) rfl) false (by rw [if_neg (by decide), int_val])) ?_
        refine s_nil ⟨(H.pick [1] (by decide) rfl), ?_⟩
        refine t_q rfl (fun w' H => x_ari (a := ((updF mp (⟨(at_ : Int), (s : Int)⟩ : Gate) (((mp (⟨(at_ : Int), (s : Int)⟩ : Gate)).getD 0) - 1 : Int)) (⟨(s : Int), (at_ : Int)⟩ : Gate)).getD 0) (b := 1) (r := (((updF mp (⟨(at_ : Int), (s : Int)⟩ : Gate) (((mp (⟨(at_ : Int), (s : Int)⟩ : Gate)).getD 0) - 1 : Int)) (⟨(s : Int), (at_ : Int)⟩ : Gate)).getD 0) + 1) rfl rfl rfl (by omega)) ?_
        refine t_l rfl ?_
        refine t_ment (i := 0) (kenc := encG) (venc := I) (f := updF mp (⟨(at_ : Int), (s : Int)⟩ : Gate) (((mp (⟨(at_ : Int), (s : Int)⟩ : Gate)).getD 0) - 1 : Int)) (k := (⟨(s : Int), (at_ : Int)⟩ : Gate)) (z := 0) keyGate Try.underlying177 Al3 H rfl rfl rfl ?_
        intro st75z w74z H
        replace H : St w w74z [cEnt encG I b_n_room (updF (updF mp (⟨(at_ : Int), (s : Int)⟩ : Gate) (((mp (⟨(at_ : Int), (s : Int)⟩ : Gate)).getD 0) - 1 : Int)) (⟨(s : Int), (at_ : Int)⟩ : Gate) (((updF mp (⟨(at_ : Int), (s : Int)⟩ : Gate) (((mp (⟨(at_ : Int), (s : Int)⟩ : Gate)).getD 0) - 1 : Int)) (⟨(s : Int), (at_ : Int)⟩ : Gate)).getD 0)) (⟨(s : Int), (at_ : Int)⟩ : Gate) st75z, cMap I B b_n_met mp2] R := H
        refine s_nil ⟨(H.pick [1] (by decide) rfl), ?_⟩
        refine t_q rfl (fun w' H => x_ext (vs := [I (((updF mp (⟨(at_ : Int), (s : Int)⟩ : Gate) (((mp (⟨(at_ : Int), (s : Int)⟩ : Gate)).getD 0) - 1 : Int)) (⟨(s : Int), (at_ : Int)⟩ : Gate)).getD 0), .int .i64 st75z]) (v := .int .i64 st75z) rfl rfl) ?_
        refine t_l rfl ?_
        refine t_enst (i := 0) (kenc := encG) (venc := I) (f0 := updF mp (⟨(at_ : Int), (s : Int)⟩ : Gate) (((mp (⟨(at_ : Int), (s : Int)⟩ : Gate)).getD 0) - 1 : Int)) (k := (⟨(s : Int), (at_ : Int)⟩ : Gate)) (v := ((((updF mp (⟨(at_ : Int), (s : Int)⟩ : Gate) (((mp (⟨(at_ : Int), (s : Int)⟩ : Gate)).getD 0) - 1 : Int)) (⟨(s : Int), (at_ : Int)⟩ : Gate)).getD 0) + 1 : Int)) (L' := [cMap encG I b_n_room (updF (updF mp (⟨(at_ : Int), (s : Int)⟩ : Gate) (((mp (⟨(at_ : Int), (s : Int)⟩ : Gate)).getD 0) - 1 : Int)) (⟨(s : Int), (at_ : Int)⟩ : Gate) ((((updF mp (⟨(at_ : Int), (s : Int)⟩ : Gate) (((mp (⟨(at_ : Int), (s : Int)⟩ : Gate)).getD 0) - 1 : Int)) (⟨(s : Int), (at_ : Int)⟩ : Gate)).getD 0) + 1 : Int)), cMap I B b_n_met mp2]) H rfl rfl rfl rfl rfl ?_
        intro w76z H
        refine s_nil ⟨(H.pick [1] (by decide) rfl), ?_⟩
        refine t_nil ?_
        refine W.seq <| W.region rfl <| sA (B true) rfl <| s_nil ?_
        refine W.ret ?_
        have hX77z := M.e_inr hM hN15z
        subst hX77z
        replace hM := hk8z
        try dsimp only at hM
        have hr_ := M.e_pure hM
        exact ⟨_, resE_tmp rfl, ⟨true, (updF (updF mp (⟨(at_ : Int), (s : Int)⟩ : Gate) (((mp (⟨(at_ : Int), (s : Int)⟩ : Gate)).getD 0) - 1 : Int)) (⟨(s : Int), (at_ : Int)⟩ : Gate) ((((updF mp (⟨(at_ : Int), (s : Int)⟩ : Gate) (((mp (⟨(at_ : Int), (s : Int)⟩ : Gate)).getD 0) - 1 : Int)) (⟨(s : Int), (at_ : Int)⟩ : Gate)).getD 0) + 1 : Int)), mp2, hr_, rfl, H⟩⟩
       skip
       refine t_ment (i := 0) (kenc := encG) (venc := I) (f := updF mp (⟨(at_ : Int), (s : Int)⟩ : Gate) (((mp (⟨(at_ : Int), (s : Int)⟩ : Gate)).getD 0) - 1 : Int)) (k := (⟨(s : Int), (at_ : Int)⟩ : Gate)) (z := 0) keyGate Try.underlying177 Al3 H rfl rfl rfl ?_
       intro st79z w78z H
       replace H : St w w78z [cEnt encG I b_n_room (updF (updF mp (⟨(at_ : Int), (s : Int)⟩ : Gate) (((mp (⟨(at_ : Int), (s : Int)⟩ : Gate)).getD 0) - 1 : Int)) (⟨(s : Int), (at_ : Int)⟩ : Gate) (((updF mp (⟨(at_ : Int), (s : Int)⟩ : Gate) (((mp (⟨(at_ : Int), (s : Int)⟩ : Gate)).getD 0) - 1 : Int)) (⟨(s : Int), (at_ : Int)⟩ : Gate)).getD 0)) (⟨(s : Int), (at_ : Int)⟩ : Gate) st79z, cMap I B b_n_met mp2] R := H
       refine s_nil ⟨(H.pick [1] (by decide) rfl), ?_⟩
       refine t_q rfl (fun w' H => x_ext (vs := [I (((updF mp (⟨(at_ : Int), (s : Int)⟩ : Gate) (((mp (⟨(at_ : Int), (s : Int)⟩ : Gate)).getD 0) - 1 : Int)) (⟨(s : Int), (at_ : Int)⟩ : Gate)).getD 0), .int .i64 st79z]) (v := .int .i64 st79z) rfl rfl) ?_
       refine t_l rfl ?_
       refine s_val (q_look (kenc := encG) (venc := I) (f := updF (updF mp (⟨(at_ : Int), (s : Int)⟩ : Gate) (((mp (⟨(at_ : Int), (s : Int)⟩ : Gate)).getD 0) - 1 : Int)) (⟨(s : Int), (at_ : Int)⟩ : Gate) (((updF mp (⟨(at_ : Int), (s : Int)⟩ : Gate) (((mp (⟨(at_ : Int), (s : Int)⟩ : Gate)).getD 0) - 1 : Int)) (⟨(s : Int), (at_ : Int)⟩ : Gate)).getD 0)) (k := (⟨(s : Int), (at_ : Int)⟩ : Gate)) (v := I (((updF mp (⟨(at_ : Int), (s : Int)⟩ : Gate) (((mp (⟨(at_ : Int), (s : Int)⟩ : Gate)).getD 0) - 1 : Int)) (⟨(s : Int), (at_ : Int)⟩ : Gate)).getD 0)) keyGate Try.underlying177 Al3 rfl rfl (entMap (H.get (k := 0) rfl)) false (by rw [if_neg (by decide), int_val, updF_same])) ?_
       refine s_nil ⟨(H.pick [1] (by decide) rfl), ?_⟩
       refine t_q rfl (fun w' H => x_ari (a := ((updF mp (⟨(at_ : Int), (s : Int)⟩ : Gate) (((mp (⟨(at_ : Int), (s : Int)⟩ : Gate)).getD 0) - 1 : Int)) (⟨(s : Int), (at_ : Int)⟩ : Gate)).getD 0) (b := 1) (r := (((updF mp (⟨(at_ : Int), (s : Int)⟩ : Gate) (((mp (⟨(at_ : Int), (s : Int)⟩ : Gate)).getD 0) - 1 : Int)) (⟨(s : Int), (at_ : Int)⟩ : Gate)).getD 0) + 1) rfl rfl rfl (by omega)) ?_
       refine t_l rfl ?_
       refine t_enst (i := 0) (kenc := encG) (venc := I) (f0 := updF mp (⟨(at_ : Int), (s : Int)⟩ : Gate) (((mp (⟨(at_ : Int), (s : Int)⟩ : Gate)).getD 0) - 1 : Int)) (k := (⟨(s : Int), (at_ : Int)⟩ : Gate)) (v := ((((updF mp (⟨(at_ : Int), (s : Int)⟩ : Gate) (((mp (⟨(at_ : Int), (s : Int)⟩ : Gate)).getD 0) - 1 : Int)) (⟨(s : Int), (at_ : Int)⟩ : Gate)).getD 0) + 1 : Int)) (L' := [cMap encG I b_n_room (updF (updF mp (⟨(at_ : Int), (s : Int)⟩ : Gate) (((mp (⟨(at_ : Int), (s : Int)⟩ : Gate)).getD 0) - 1 : Int)) (⟨(s : Int), (at_ : Int)⟩ : Gate) ((((updF mp (⟨(at_ : Int), (s : Int)⟩ : Gate) (((mp (⟨(at_ : Int), (s : Int)⟩ : Gate)).getD 0) - 1 : Int)) (⟨(s : Int), (at_ : Int)⟩ : Gate)).getD 0) + 1 : Int)), cMap I B b_n_met mp2]) H rfl rfl rfl rfl rfl ?_
       intro w80z H
       refine s_nil ⟨(H.pick [1] (by decide) rfl), ?_⟩
       refine t_nil ?_
       refine W.seq <| W.region rfl <| sA (B true) rfl <| s_nil ?_
       refine W.ret ?_
       have hX81z := M.e_inr hM hN15z
       subst hX81z
       replace hM := hk8z
       try dsimp only at hM
       have hr_ := M.e_pure hM
       exact ⟨_, resE_tmp rfl, ⟨true, (updF (updF mp (⟨(at_ : Int), (s : Int)⟩ : Gate) (((mp (⟨(at_ : Int), (s : Int)⟩ : Gate)).getD 0) - 1 : Int)) (⟨(s : Int), (at_ : Int)⟩ : Gate) ((((updF mp (⟨(at_ : Int), (s : Int)⟩ : Gate) (((mp (⟨(at_ : Int), (s : Int)⟩ : Gate)).getD 0) - 1 : Int)) (⟨(s : Int), (at_ : Int)⟩ : Gate)).getD 0) + 1 : Int)), mp2, hr_, rfl, H⟩⟩
      skip
      refine t_ment (i := 0) (kenc := encG) (venc := I) (f := mp) (k := (⟨(at_ : Int), (s : Int)⟩ : Gate)) (z := 0) keyGate Try.underlying177 Al3 H rfl rfl rfl ?_
      intro st83z w82z H
      replace H : St w w82z [cEnt encG I b_n_room (updF mp (⟨(at_ : Int), (s : Int)⟩ : Gate) ((mp (⟨(at_ : Int), (s : Int)⟩ : Gate)).getD 0)) (⟨(at_ : Int), (s : Int)⟩ : Gate) st83z, cMap I B b_n_met mp2] R := H
      refine s_nil ⟨(H.pick [1] (by decide) rfl), ?_⟩
      refine t_q rfl (fun w' H => x_ext (vs := [I ((mp (⟨(at_ : Int), (s : Int)⟩ : Gate)).getD 0), .int .i64 st83z]) (v := .int .i64 st83z) rfl rfl) ?_
      refine t_l rfl ?_
      refine s_val (q_look (kenc := encG) (venc := I) (f := updF mp (⟨(at_ : Int), (s : Int)⟩ : Gate) ((mp (⟨(at_ : Int), (s : Int)⟩ : Gate)).getD 0)) (k := (⟨(at_ : Int), (s : Int)⟩ : Gate)) (v := I ((mp (⟨(at_ : Int), (s : Int)⟩ : Gate)).getD 0)) keyGate Try.underlying177 Al3 rfl rfl (entMap (H.get (k := 0) rfl)) false (by rw [if_neg (by decide), int_val, updF_same])) ?_
      refine s_nil ⟨(H.pick [1] (by decide) rfl), ?_⟩
      refine t_q rfl (fun w' H => x_ari (a := (mp (⟨(at_ : Int), (s : Int)⟩ : Gate)).getD 0) (b := 1) (r := ((mp (⟨(at_ : Int), (s : Int)⟩ : Gate)).getD 0) - 1) rfl rfl rfl (by omega)) ?_
      refine t_l rfl ?_
      refine t_enst (i := 0) (kenc := encG) (venc := I) (f0 := mp) (k := (⟨(at_ : Int), (s : Int)⟩ : Gate)) (v := (((mp (⟨(at_ : Int), (s : Int)⟩ : Gate)).getD 0) - 1 : Int)) (L' := [cMap encG I b_n_room (updF mp (⟨(at_ : Int), (s : Int)⟩ : Gate) (((mp (⟨(at_ : Int), (s : Int)⟩ : Gate)).getD 0) - 1 : Int)), cMap I B b_n_met mp2]) H rfl rfl rfl rfl rfl ?_
      intro w84z H
      refine s_nil ⟨(H.pick [1] (by decide) rfl), ?_⟩
      refine t_nil ?_
      refine W.seq ?_
      refine W.drawT (fun W => St w W [cMap I B b_n_met mp2] R) (.q 0 (.q 1 (.q 2 (.q 3 (.q 4 (.q 5 (.q 6 (.l2 7 (.q 8 (.l 9 (.q 10 (.l 11 .nil)))) 9 (.q 10 (.l 7 (.q 8 (.l 11 .nil)))))))))))) mixed (by decide +kernel) rfl ?_
      intro w85z hx_
      replace H : St w w85z [cMap encG I b_n_room (updF mp (⟨(at_ : Int), (s : Int)⟩ : Gate) (((mp (⟨(at_ : Int), (s : Int)⟩ : Gate)).getD 0) - 1 : Int)), cMap I B b_n_met mp2] R := H.ext hx_
      clear hx_
      refine ⟨(H.pick [1] (by decide) rfl), ?_⟩
      refine t_q rfl (fun w' H => x_mv (v := Pz b_n) rfl) ?_
      refine t_q rfl (fun w' H => x_nc (a := ⟨b_n, 0, none⟩) rfl) ?_
      refine t_q rfl (fun w' H => x_fa (a := Pz b_n) (v := Oz b_n 3) rfl (fa_blk (o := 0) Fd180_3 Sz177)) ?_
      refine t_q rfl (fun w' H => x_ld (p := Oz b_n 3) (v := .map (some b_n_room)) rfl (ldb_sc Sc177 (h_b_n.blk H) rfl)) ?_
      refine t_q rfl (fun w' H => x_mv (v := I (s : Int)) rfl) ?_
      refine t_q rfl (fun w' H => x_mv (v := I at_) rfl) ?_
      refine t_q rfl (fun w' H => x_bld (ps := [(0, I (s : Int)), (1, I at_)]) (zs := [I 0, I 0]) (L' := [I (s : Int), I at_]) rfl Try.underlying182 Al182 rfl (Bd182 Try.underlying182) (.cons (cs := [I (s : Int)]) rfl rfl rfl rfl rfl <| .cons (cs := [I at_]) rfl rfl rfl rfl rfl <| .nil)) ?_
      obtain ⟨sd86z, hM⟩ := M.e_grd hM
      simp only [Bool.and_eq_true, decide_eq_true_eq] at sd86z
      refine t_l2 rfl rfl ?_ ?_
      ·skip
       refine s_val (q_look (kenc := encG) (venc := I) (f := updF mp (⟨(at_ : Int), (s : Int)⟩ : Gate) (((mp (⟨(at_ : Int), (s : Int)⟩ : Gate)).getD 0) - 1 : Int)) (k := (⟨(s : Int), (at_ : Int)⟩ : Gate)) (v := I (((updF mp (⟨(at_ : Int), (s : Int)⟩ : Gate) (((mp (⟨(at_ : Int), (s : Int)⟩ : Gate)).getD 0) - 1 : Int)) (⟨(s : Int), (at_ : Int)⟩ : Gate)).getD 0)) keyGate Try.underlying177 Al3 rfl rfl (H.get (k := 0) rfl) false (by rw [if_neg (by decide), int_val])) ?_
       refine s_nil ⟨(H.pick [1] (by decide) rfl), ?_⟩
       refine t_q rfl (fun w' H => x_ari (a := ((updF mp (⟨(at_ : Int), (s : Int)⟩ : Gate) (((mp (⟨(at_ : Int), (s : Int)⟩ : Gate)).getD 0) - 1 : Int)) (⟨(s : Int), (at_ : Int)⟩ : Gate)).getD 0) (b := 1) (r := (((updF mp (⟨(at_ : Int), (s : Int)⟩ : Gate) (((mp (⟨(at_ : Int), (s : Int)⟩ : Gate)).getD 0) - 1 : Int)) (⟨(s : Int), (at_ : Int)⟩ : Gate)).getD 0) + 1) rfl rfl rfl (by omega)) ?_
       refine t_l rfl ?_
       refine t_ment (i := 0) (kenc := encG) (venc := I) (f := updF mp (⟨(at_ : Int), (s : Int)⟩ : Gate) (((mp (⟨(at_ : Int), (s : Int)⟩ : Gate)).getD 0) - 1 : Int)) (k := (⟨(s : Int), (at_ : Int)⟩ : Gate)) (z := 0) keyGate Try.underlying177 Al3 H rfl rfl rfl ?_
       intro st91z w90z H
       replace H : St w w90z [cEnt encG I b_n_room (updF (updF mp (⟨(at_ : Int), (s : Int)⟩ : Gate) (((mp (⟨(at_ : Int), (s : Int)⟩ : Gate)).getD 0) - 1 : Int)) (⟨(s : Int), (at_ : Int)⟩ : Gate) (((updF mp (⟨(at_ : Int), (s : Int)⟩ : Gate) (((mp (⟨(at_ : Int), (s : Int)⟩ : Gate)).getD 0) - 1 : Int)) (⟨(s : Int), (at_ : Int)⟩ : Gate)).getD 0)) (⟨(s : Int), (at_ : Int)⟩ : Gate) st91z, cMap I B b_n_met mp2] R := H
       refine s_nil ⟨(H.pick [1] (by decide) rfl), ?_⟩
       refine t_q rfl (fun w' H => x_ext (vs := [I (((updF mp (⟨(at_ : Int), (s : Int)⟩ : Gate) (((mp (⟨(at_ : Int), (s : Int)⟩ : Gate)).getD 0) - 1 : Int)) (⟨(s : Int), (at_ : Int)⟩ : Gate)).getD 0), .int .i64 st91z]) (v := .int .i64 st91z) rfl rfl) ?_
       refine t_l rfl ?_
       refine t_enst (i := 0) (kenc := encG) (venc := I) (f0 := updF mp (⟨(at_ : Int), (s : Int)⟩ : Gate) (((mp (⟨(at_ : Int), (s : Int)⟩ : Gate)).getD 0) - 1 : Int)) (k := (⟨(s : Int), (at_ : Int)⟩ : Gate)) (v := ((((updF mp (⟨(at_ : Int), (s : Int)⟩ : Gate) (((mp (⟨(at_ : Int), (s : Int)⟩ : Gate)).getD 0) - 1 : Int)) (⟨(s : Int), (at_ : Int)⟩ : Gate)).getD 0) + 1 : Int)) (L' := [cMap encG I b_n_room (updF (updF mp (⟨(at_ : Int), (s : Int)⟩ : Gate) (((mp (⟨(at_ : Int), (s : Int)⟩ : Gate)).getD 0) - 1 : Int)) (⟨(s : Int), (at_ : Int)⟩ : Gate) ((((updF mp (⟨(at_ : Int), (s : Int)⟩ : Gate) (((mp (⟨(at_ : Int), (s : Int)⟩ : Gate)).getD 0) - 1 : Int)) (⟨(s : Int), (at_ : Int)⟩ : Gate)).getD 0) + 1 : Int)), cMap I B b_n_met mp2]) H rfl rfl rfl rfl rfl ?_
       intro w92z H
       refine s_nil ⟨(H.pick [1] (by decide) rfl), ?_⟩
       refine t_nil ?_
       refine W.seq <| W.region rfl <| sA (B true) rfl <| s_nil ?_
       refine W.ret ?_
       have hX93z := M.e_inr hM hN15z
       subst hX93z
       replace hM := hk8z
       try dsimp only at hM
       have hr_ := M.e_pure hM
       exact ⟨_, resE_tmp rfl, ⟨true, (updF (updF mp (⟨(at_ : Int), (s : Int)⟩ : Gate) (((mp (⟨(at_ : Int), (s : Int)⟩ : Gate)).getD 0) - 1 : Int)) (⟨(s : Int), (at_ : Int)⟩ : Gate) ((((updF mp (⟨(at_ : Int), (s : Int)⟩ : Gate) (((mp (⟨(at_ : Int), (s : Int)⟩ : Gate)).getD 0) - 1 : Int)) (⟨(s : Int), (at_ : Int)⟩ : Gate)).getD 0) + 1 : Int)), mp2, hr_, rfl, H⟩⟩
      skip
      refine t_ment (i := 0) (kenc := encG) (venc := I) (f := updF mp (⟨(at_ : Int), (s : Int)⟩ : Gate) (((mp (⟨(at_ : Int), (s : Int)⟩ : Gate)).getD 0) - 1 : Int)) (k := (⟨(s : Int), (at_ : Int)⟩ : Gate)) (z := 0) keyGate Try.underlying177 Al3 H rfl rfl rfl ?_
      intro st95z w94z H
      replace H : St w w94z [cEnt encG I b_n_room (updF (updF mp (⟨(at_ : Int), (s : Int)⟩ : Gate) (((mp (⟨(at_ : Int), (s : Int)⟩ : Gate)).getD 0) - 1 : Int)) (⟨(s : Int), (at_ : Int)⟩ : Gate) (((updF mp (⟨(at_ : Int), (s : Int)⟩ : Gate) (((mp (⟨(at_ : Int), (s : Int)⟩ : Gate)).getD 0) - 1 : Int)) (⟨(s : Int), (at_ : Int)⟩ : Gate)).getD 0)) (⟨(s : Int), (at_ : Int)⟩ : Gate) st95z, cMap I B b_n_met mp2] R := H
      refine s_nil ⟨(H.pick [1] (by decide) rfl), ?_⟩
      refine t_q rfl (fun w' H => x_ext (vs := [I (((updF mp (⟨(at_ : Int), (s : Int)⟩ : Gate) (((mp (⟨(at_ : Int), (s : Int)⟩ : Gate)).getD 0) - 1 : Int)) (⟨(s : Int), (at_ : Int)⟩ : Gate)).getD 0), .int .i64 st95z]) (v := .int .i64 st95z) rfl rfl) ?_
      refine t_l rfl ?_
      refine s_val (q_look (kenc := encG) (venc := I) (f := updF (updF mp (⟨(at_ : Int), (s : Int)⟩ : Gate) (((mp (⟨(at_ : Int), (s : Int)⟩ : Gate)).getD 0) - 1 : Int)) (⟨(s : Int), (at_ : Int)⟩ : Gate) (((updF mp (⟨(at_ : Int), (s : Int)⟩ : Gate) (((mp (⟨(at_ : Int), (s : Int)⟩ : Gate)).getD 0) - 1 : Int)) (⟨(s : Int), (at_ : Int)⟩ : Gate)).getD 0)) (k := (⟨(s : Int), (at_ : Int)⟩ : Gate)) (v := I (((updF mp (⟨(at_ : Int), (s : Int)⟩ : Gate) (((mp (⟨(at_ : Int), (s : Int)⟩ : Gate)).getD 0) - 1 : Int)) (⟨(s : Int), (at_ : Int)⟩ : Gate)).getD 0)) keyGate Try.underlying177 Al3 rfl rfl (entMap (H.get (k := 0) rfl)) false (by rw [if_neg (by decide), int_val, updF_same])) ?_
      refine s_nil ⟨(H.pick [1] (by decide) rfl), ?_⟩
      refine t_q rfl (fun w' H => x_ari (a := ((updF mp (⟨(at_ : Int), (s : Int)⟩ : Gate) (((mp (⟨(at_ : Int), (s : Int)⟩ : Gate)).getD 0) - 1 : Int)) (⟨(s : Int), (at_ : Int)⟩ : Gate)).getD 0) (b := 1) (r := (((updF mp (⟨(at_ : Int), (s : Int)⟩ : Gate) (((mp (⟨(at_ : Int), (s : Int)⟩ : Gate)).getD 0) - 1 : Int)) (⟨(s : Int), (at_ : Int)⟩ : Gate)).getD 0) + 1) rfl rfl rfl (by omega)) ?_
      refine t_l rfl ?_
      refine t_enst (i := 0) (kenc := encG) (venc := I) (f0 := updF mp (⟨(at_ : Int), (s : Int)⟩ : Gate) (((mp (⟨(at_ : Int), (s : Int)⟩ : Gate)).getD 0) - 1 : Int)) (k := (⟨(s : Int), (at_ : Int)⟩ : Gate)) (v := ((((updF mp (⟨(at_ : Int), (s : Int)⟩ : Gate) (((mp (⟨(at_ : Int), (s : Int)⟩ : Gate)).getD 0) - 1 : Int)) (⟨(s : Int), (at_ : Int)⟩ : Gate)).getD 0) + 1 : Int)) (L' := [cMap encG I b_n_room (updF (updF mp (⟨(at_ : Int), (s : Int)⟩ : Gate) (((mp (⟨(at_ : Int), (s : Int)⟩ : Gate)).getD 0) - 1 : Int)) (⟨(s : Int), (at_ : Int)⟩ : Gate) ((((updF mp (⟨(at_ : Int), (s : Int)⟩ : Gate) (((mp (⟨(at_ : Int), (s : Int)⟩ : Gate)).getD 0) - 1 : Int)) (⟨(s : Int), (at_ : Int)⟩ : Gate)).getD 0) + 1 : Int)), cMap I B b_n_met mp2]) H rfl rfl rfl rfl rfl ?_
      intro w96z H
      refine s_nil ⟨(H.pick [1] (by decide) rfl), ?_⟩
      refine t_nil ?_
      refine W.seq <| W.region rfl <| sA (B true) rfl <| s_nil ?_
      refine W.ret ?_
      have hX97z := M.e_inr hM hN15z
      subst hX97z
      replace hM := hk8z
      try dsimp only at hM
      have hr_ := M.e_pure hM
      exact ⟨_, resE_tmp rfl, ⟨true, (updF (updF mp (⟨(at_ : Int), (s : Int)⟩ : Gate) (((mp (⟨(at_ : Int), (s : Int)⟩ : Gate)).getD 0) - 1 : Int)) (⟨(s : Int), (at_ : Int)⟩ : Gate) ((((updF mp (⟨(at_ : Int), (s : Int)⟩ : Gate) (((mp (⟨(at_ : Int), (s : Int)⟩ : Gate)).getD 0) - 1 : Int)) (⟨(s : Int), (at_ : Int)⟩ : Gate)).getD 0) + 1 : Int)), mp2, hr_, rfl, H⟩⟩
     replace hM := M.e_f hM c60z
     refine W.skip <| W.region rfl ?_
     obtain ⟨sd98z, hM⟩ := M.e_grd hM
     simp only [Bool.and_eq_true, decide_eq_true_eq] at sd98z
     refine s_val (x_ari (a := (s : Int)) (b := 1) (r := (s : Int) + 1) rfl rfl rfl (by omega)) <| sM (I ((s : Int) + 1)) rfl <| s_nil ?_
     exact ⟨m12z, lt13z, mp, mp2, s + 1, _, upds_of _ _ ⟨rfl, rfl, rfl, rfl, trivial⟩, M.e_inl hM hN15z, H⟩
    replace hM := M.e_f hM c16z
    simp only [qz1, qz2, qz3, qz4, qz5, qz6, ne_eq, qz7] at c16z
    refine W.exit ?_
    have hX99z := M.e_inr hM hN15z
    subst hX99z
    replace hM := hk8z
    try dsimp only at hM
    refine W.seq <| W.region rfl <| sA (B false) rfl <| s_nil ?_
    refine W.ret ?_
    have hr_ := M.e_pure hM
    exact ⟨_, resE_tmp rfl, ⟨false, mp, mp2, hr_, rfl, H⟩⟩
theorem notes_lanes_goes_ok {R : List Chunk} {b_n : Nat} {b_n_web : Nat} {C_n_web_list_works : Cells} {v_n_web_list_works : Value} {C_n_revised : Cells} {v_n_revised : Value} {b_n_room : Nat} {b_n_met : Nat} (n_web_list_works : List Work) (n_revised : List Int) (n_work : Int) (n_room : Gate → Option Int) (n_met : Int → Option Bool) (at_ : Int) (hC_n_web_list_works : Reads R C_n_web_list_works) (hs_n_web_list_works : Sl C_n_web_list_works v_n_web_list_works n_web_list_works) (h_b_n_web : Has R (cBlk b_n_web [v_n_web_list_works] 187)) (hC_n_revised : Reads R C_n_revised) (hs_n_revised : Sl C_n_revised v_n_revised n_revised) (h_b_n : Has R (cBlk b_n [Pz b_n_web, v_n_revised, I n_work, .map (some b_n_room), .map (some b_n_met)] 180)) {r : (Bool × (Gate → Option Int) × (Int → Option Bool))} (hM : (m_notes_lanes_goes n_web_list_works n_revised n_work n_room n_met at_).Ends r) (w : World) (H : St w w [cMap encG I b_n_room n_room, cMap I B b_n_met n_met] R) : Ret Try.prog 126 #[Pz b_n, I at_] w fun v w' => ∃ (y0 : Bool) (y1 : Gate → Option Int) (y2 : Int → Option Bool), (y0, y1, y2) = r ∧ v = B y0 ∧ St w w' [cMap encG I b_n_room y1, cMap I B b_n_met y2] R := by
  obtain ⟨n_, hM⟩ := M.e_fix hM
  exact notes_lanes_goes_okN n_ n_web_list_works n_revised n_work n_room n_met at_ hC_n_web_list_works hs_n_web_list_works h_b_n_web hC_n_revised hs_n_revised h_b_n hM w H

end Go.Proofs.Ytndobgodeicloaa
end
