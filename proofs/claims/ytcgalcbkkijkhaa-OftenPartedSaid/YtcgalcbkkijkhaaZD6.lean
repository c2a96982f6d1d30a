/- Part 6 of the texts on which the proof rests. Conditions: none. -/
import Derived.Test.YtcgalcbkkijkhaaZD5
set_option linter.unusedVariables false
set_option linter.unusedSimpArgs false
set_option linter.unusedSectionVars false
namespace Go.Nm
open Go
def ivO (r : Raw 3) : Value := r.cs.getD 3 (.bool false)
def OldM (r : Raw 3) (o : Old10) : Prop := r.cs = [I o.src, I o.dst, I o.stage, ivO r]
def psd (dl : List Old10) : List (List Int) := dl.map (·.passed)
theorem psd_len (dl : List Old10) : (psd dl).length = dl.length := List.length_map _
theorem psd_get (dl : List Old10) (i : Nat) : (psd dl).getD i [] = (dl.getD i default).passed := by
  simp only [psd, List.getD, List.getElem?_map]
  cases dl[i]? <;> rfl
def cDO (e1 e2 : TypeId) (v : Value) (us : List (Raw 3)) (dl : List Old10) : Chunk where
  D b := (cDp ivO e1 e2 v us (psd dl)).D b
  ex := true
  ok w := (cDp ivO e1 e2 v us (psd dl)).ok w /\ us.length = dl.length /\ ∀ i, i < dl.length -> OldM (us.getD i default) (dl.getD i default)
  st w w' h hs k := ⟨(cDp ivO e1 e2 v us (psd dl)).st w w' h.1 hs k, h.2⟩
  bd w b h hb := (cDp ivO e1 e2 v us (psd dl)).bd w b h.1 hb
theorem St.reS {w0 w : World} {L L' R : List Chunk} {k : Nat} {c c' : Chunk} (H : St w0 w L R) (hk : L[k]? = some c) (hx : c.ex = true) (hD : ∀ b, c'.D b -> c.D b) (ho : c'.ok w) (hL : L.set k c' = L') : St w0 w L' R :=
  H.set hk hx (.refl w) (fun _ _ _ => rfl) (fun b hb => .inl (hD b hb)) ho hL
theorem setGet {α : Type} {L : List α} {k : Nat} {c : α} (h : k < L.length) : (L.set k c)[k]? = some c := by simp [h]
/-- The cells of the inner rows. -/
def inC : List (Raw 3) -> List (List Int) -> Cells
  | u :: us, t :: T => Cells.sup (rowC (ivO u) (t.flatMap Flat.enc)) (inC us T)
  | _, _ => fun _ => none
def deC (v : Value) (us : List (Raw 3)) (dl : List Old10) : Cells := Cells.sup (rowC v (us.flatMap Flat.enc)) (inC us (psd dl))
section
variable {e1 e2 : TypeId} {v : Value} {us : List (Raw 3)} {dl : List Old10} {w0 w : World} {L L' R : List Chunk}
theorem inLe : ∀ (us : List (Raw 3)) (T : List (List Int)), (∀ p ∈ us.zip T, (cOwn e2 (ivO p.1) p.2).ok w) -> (inC us T).Le w.cell?
  | [], _, _ => fun _ _ h => by simp [inC] at h
  | _ :: _, [], _ => fun _ _ h => by simp [inC] at h
  | u :: us, t :: T, h => Cells.sup_le (ownLe w (h (u, t) (by simp))) (inLe us T fun p hp => h p (by simp [hp]))
theorem inGet : ∀ (us : List (Raw 3)) (T : List (List Int)), (∀ p ∈ us.zip T, (cOwn e2 (ivO p.1) p.2).ok w) -> ∀ i, i < us.length -> i < T.length -> (rowC (ivO (us.getD i default)) ((T.getD i []).flatMap Flat.enc)).Le (inC us T)
  | [], _, _, _, h, _ => by simp at h
  | _ :: _, [], _, _, _, h => by simp at h
  | u :: us, t :: T, h, 0, _, _ => Cells.sup_l _ _
  | u :: us, t :: T, h, i + 1, h1, h2 => by
    have ih := inGet us T (fun p hp => h p (by simp [hp])) i (by simpa using h1) (by simpa using h2)
    exact ih.trans (Cells.sup_r (ownLe w (h (u, t) (by simp))) (inLe us T fun p hp => h p (by simp [hp])))
theorem doRows (h : (cDO e1 e2 v us dl).ok w) : ∀ p ∈ us.zip (psd dl), (cOwn e2 (ivO p.1) p.2).ok w := fun p hp =>
  (show Sep w (dpL ivO e1 e2 v us (psd dl)) from h.1).get (List.mem_cons_of_mem _ (List.mem_map.2 ⟨p, hp, rfl⟩))
theorem doOuter (h : (cDO e1 e2 v us dl).ok w) : (cOwn e1 v us).ok w := dpOuter h.1
theorem doLen (h : (cDO e1 e2 v us dl).ok w) : us.length = dl.length := h.2.1
theorem doRow (h : (cDO e1 e2 v us dl).ok w) {i : Nat} (hi : i < dl.length) : (cOwn e2 (ivO (us.getD i default)) (dl.getD i default).passed).ok w := by
  have := dpRow h.1 (by rw [psd_len]; exact h.2.1) (i := i) (by rw [psd_len]; exact hi)
  rw [psd_get] at this
  exact this
theorem deLe : ∀ w, (cDO e1 e2 v us dl).ok w -> (deC v us dl).Le w.cell? := fun w h => Cells.sup_le (ownLe w (doOuter h)) (inLe us _ (doRows h))
theorem repR_of {C : Cells} : ∀ (us : List (Raw 3)) (dl : List Old10), us.length = dl.length -> (∀ i, i < dl.length -> OldM (us.getD i default) (dl.getD i default) /\ Sl C (ivO (us.getD i default)) (dl.getD i default).passed) -> RepR (α := Old10) C us dl
  | [], [], _, _ => .nil
  | [], _ :: _, h, _ => by simp at h
  | _ :: _, [], h, _ => by simp at h
  | u :: us, o :: dl, h, k => by
    have h0 := k 0 (by simp)
    refine .cons ⟨ivO u, h0.1, h0.2⟩ (repR_of us dl (by simpa using h) fun i hi => ?_)
    have := k (i + 1) (by simpa using hi)
    exact this
theorem deRep (h : (cDO e1 e2 v us dl).ok w) : RepR (α := Old10) (inC us (psd dl)) us dl := repR_of us dl h.2.1 fun i hi => ⟨h.2.2 i hi, by
  have hl := h.2.1
  have := (ownSl (doRow h hi)).mono (inGet (e2 := e2) (w := w) us (psd dl) (doRows h) i (by omega) (by rw [psd_len]; exact hi) |> fun x => by rw [psd_get] at x; exact x)
  exact this⟩
theorem deSl (h : (cDO e1 e2 v us dl).ok w) : Sl (deC v us dl) v dl := rowSl rfl (doOuter h) (inLe us _ (doRows h)) (deRep h)
theorem doAt (h : (cDO e1 e2 v us dl).ok w) {i : Int} (h0 : 0 <= i) (h1 : i < dl.length) : At w.cell? (vat v 4 i.toNat) (us.getD i.toNat default).cs := by
  have hl := doLen h
  obtain ⟨cs, ha, hr⟩ := (ownSl (doOuter h)).atI h0 (by omega) default
  have : cs = (us.getD i.toNat default).cs := hr
  subst this
  exact ha.mono (ownLe w (doOuter h))
theorem at_one {C D : Cells} {X : Cells} (hC : C.Le X) (hD : D.Le X) {p : Value} {xs ys : List Value} (h : At C p xs) (k : At D p ys) {j : Nat} {x y : Value} (hx : xs[j]? = some x) (hy : ys[j]? = some y) : x = y := by
  obtain ⟨b, o, rfl, h⟩ := h
  obtain ⟨b', o', e, k⟩ := k
  cases e
  have h1 := hC _ _ (h j x hx)
  have h2 := hD _ _ (k j y hy)
  rw [h1] at h2
  exact Option.some.inj h2
/-- What was found in the last cell of an element is the row that is its own. -/
theorem doU (h : (cDO e1 e2 v us dl).ok w) {C : Cells} (hC : C.Le w.cell?) {i : Int} (h0 : 0 <= i) (h1 : i < dl.length) {u : Value} (ha : At C (fat (vat v 4 i.toNat) 3) [u]) : u = ivO (us.getD i.toNat default) := by
  have hm := h.2.2 i.toNat (by omega)
  have ht := (doAt h h0 h1).fld 3 1
  unfold OldM at hm
  rw [hm] at ht
  exact at_one hC (fun _ _ h => h) ha ht (j := 0) rfl rfl
theorem doUA (h : (cDO e1 e2 v us dl).ok w) {C : Cells} (hC : C.Le w.cell?) {i : Int} (h0 : 0 <= i) (h1 : i < dl.length) {a b c u : Value} (ha : At C (vat v 4 i.toNat) [a, b, c, u]) : u = ivO (us.getD i.toNat default) := by
  have hm := h.2.2 i.toNat (by omega)
  have ht := doAt h h0 h1
  unfold OldM at hm
  rw [hm] at ht
  exact at_one hC (fun _ _ h => h) ha ht (j := 3) rfl rfl
theorem St.nilDo (H : St w0 w L R) (e1 e2 : TypeId) : St w0 w (cDO e1 e2 (.slice none 0 0) [] [] :: L) R := by
  have H1 := H.nilDp (α := Int) (iv := ivO) e1 e2
  exact H1.reS (k := 0) (c' := cDO e1 e2 (.slice none 0 0) [] []) rfl rfl (fun b hb => hb) ⟨H1.get (k := 0) rfl, rfl, fun i hi => by simp at hi⟩ rfl
variable {P : Program} {all rest : List Oper} {Q : Post} {σ : Env} {d : Nat} {ty : TypeId} {pos : String} {af : Array Edge}
/-- A store into an inner row. -/
theorem t_dost {dst : Option Nat} {t k : Nat} {x y : Operand} {val u : Value} (H : St w0 w L R) (hk : L[k]? = some (cDO e1 e2 v us dl)) (hs : (P.info? t).map (·.size) = some 1) {i j : Int} (hi0 : 0 <= i) (hi : i < dl.length) {C : Cells} (hC : C.Le w.cell?) (ha : At C (fat (vat v 4 i.toNat) 3) [u])
    (h0 : 0 <= j) (h1 : j < (dl.getD i.toNat default).passed.length) (a : Int) (hx : ev σ x = vat u 1 j.toNat) (hy : ev σ y = val) (hv : val = I a) {dl' : List Old10} (hT : dl.set i.toNat { dl.getD i.toNat default with passed := (dl.getD i.toNat default).passed.set j.toNat a } = dl') (hL : L.set k (cDO e1 e2 v us dl') = L')
    (kk : ∀ w', St w0 w' L' R -> SL P all Q rest (updo σ dst undef) w') : SL P all Q (⟨dst, .store t x y, ty, pos, af, none⟩ :: rest) σ w := by
  have hok := H.get hk
  obtain rfl := doU hok hC hi0 hi ha
  have hkl := (List.getElem?_eq_some_iff.1 hk).1
  have H1 : St w0 w (L.set k (cDp ivO e1 e2 v us (psd dl))) R := H.reS (c' := cDp ivO e1 e2 v us (psd dl)) hk rfl (fun b hb => hb) hok.1 rfl
  have hin : i.toNat < dl.length := by omega
  refine t_dpst (α := Int) H1 (setGet hkl) (by rw [psd_len]; exact hok.2.1) hs (i := i.toNat) (by rw [psd_len]; exact hin) h0 (by rw [psd_get]; exact h1) a hx hy (by subst hv; rfl) rfl rfl fun w' H2 => kk w' ?_
  rw [List.set_set] at H2
  have hpe : (psd dl).set i.toNat (((psd dl).getD i.toNat []).set j.toNat a) = psd dl' := by
    subst hT
    rw [psd_get, psd, psd, List.map_set]
  rw [hpe] at H2
  refine H2.reS (k := k) (c := cDp ivO e1 e2 v us (psd dl')) (c' := cDO e1 e2 v us dl') (setGet hkl) rfl (fun b hb => hb) ⟨H2.get (setGet hkl), ?_, ?_⟩ (by rw [List.set_set]; exact hL)
  · subst hT; rw [List.length_set]; exact hok.2.1
  · subst hT
    intro q hq
    rw [List.length_set] at hq
    have := hok.2.2 q hq
    by_cases e : i.toNat = q
    · subst e
      rw [show (dl.set i.toNat { dl.getD i.toNat default with passed := (dl.getD i.toNat default).passed.set j.toNat a }).getD i.toNat default = { dl.getD i.toNat default with passed := (dl.getD i.toNat default).passed.set j.toNat a } from by simp [List.getD, hin]]
      exact this
    · rw [show (dl.set i.toNat { dl.getD i.toNat default with passed := (dl.getD i.toNat default).passed.set j.toNat a }).getD q default = dl.getD q default from by simp [List.getD, List.getElem?_set_ne e]]
      exact this
/-- One element more. -/
theorem t_doapp {t by' : Nat} {z : Value} {x y : Operand} (S : SlT P t e1 4 by' z) (hb : Nat.blt 0 by' = true) {rv vy : Value} {sv : Raw 3} {o : Old10} {C : Cells} (H : St w0 w (cDO e1 e2 v us dl :: cOwn e2 rv o.passed :: L) R) (hrv : sv.cs = [I o.src, I o.dst, I o.stage, rv]) (hx : ev σ x = v) (hy : ev σ y = vy)
    (hs : Sl C vy [sv]) (hle : C.Le w.cell?) (hn : (dl.length + 1) * by' <= 140737488355328)
    (kk : ∀ v' w', St w0 w' (cDO e1 e2 v' (us ++ [sv]) (dl ++ [o]) :: L) R -> SL P all Q rest (upd σ d v') w') :
    SL P all Q (⟨some d, .call ⟨.builtin .append, #[x, y], #[t, t]⟩, ty, pos, af, none⟩ :: rest) σ w := by
  have hok := H.get (k := 0) rfl
  have H1 : St w0 w (cDp ivO e1 e2 v us (psd dl) :: cOwn e2 rv o.passed :: L) R := H.reS (k := 0) (c := cDO e1 e2 v us dl) (c' := cDp ivO e1 e2 v us (psd dl)) rfl rfl (fun b hb => hb) hok.1 rfl
  have hiv : ivO sv = rv := by unfold ivO; rw [hrv]; rfl
  refine t_dpapp (α := Int) (β := Raw 3) S hb H1 (by rw [psd_len]; exact hok.2.1) hiv hx hy hs hle (by rw [psd_len]; exact hn) fun v' w' H2 => kk v' w' ?_
  have hpe : psd dl ++ [o.passed] = psd (dl ++ [o]) := by simp [psd]
  rw [hpe] at H2
  refine H2.reS (k := 0) (c' := cDO e1 e2 v' (us ++ [sv]) (dl ++ [o])) rfl rfl (fun b hb => hb) ⟨H2.get (k := 0) rfl, by simp [hok.2.1], fun i hi => ?_⟩ rfl
  rw [List.length_append, List.length_singleton] at hi
  have hl := hok.2.1
  by_cases e : i < dl.length
  · rw [show (us ++ [sv]).getD i default = us.getD i default from by simp [List.getD, List.getElem?_append_left (show i < us.length by omega)], show (dl ++ [o]).getD i default = dl.getD i default from by simp [List.getD, List.getElem?_append_left e]]
    exact hok.2.2 i e
  · obtain rfl : i = dl.length := by omega
    rw [show (us ++ [sv]).getD dl.length default = sv from by rw [← hl]; simp [List.getD], show (dl ++ [o]).getD dl.length default = o from by simp [List.getD]]
    unfold OldM
    rw [hiv, hrv]
/-- A store into the outer row, the inner ones beside it. -/
theorem t_outst {X : List Chunk} {dst : Option Nat} {t k n off : Nat} {x y : Operand} {val : Value} (H : St w0 w L R) (hk : L[k]? = some (cAll (cOwn (α := Raw 3) e1 v us :: X))) (hs : (P.info? t).map (·.size) = some n) {i : Int} (h0 : 0 <= i) (h1 : i < us.length)
    (a' : Raw 3) (hx : ev σ x = fat (vat v 4 i.toNat) off) (hy : ev σ y = val) (vs : List Value) (hv : val.cells = vs.toArray) (hn : vs.length = n) (hoff : off + n <= 4) (hone : ∀ u ∈ vs, u.oneCell' = true)
    (he : a'.cs = (us.getD i.toNat default).cs.take off ++ vs ++ (us.getD i.toNat default).cs.drop (off + vs.length))
    (kk : ∀ w', St w0 w' (L.set k (cAll (cOwn (α := Raw 3) e1 v (us.set i.toNat a') :: X))) R -> SL P all Q rest (updo σ dst undef) w') : SL P all Q (⟨dst, .store t x y, ty, pos, af, none⟩ :: rest) σ w := by
  have hok : Sep w (cOwn (α := Raw 3) e1 v us :: X) := H.get hk
  obtain ⟨w', hr, ho, hg⟩ := OwnF.fst (P := P) (t := t) (hok.1 : OwnF 0 e1 w v us) hs (k := i.toNat) (by omega) _ a' (getD_some us (k := i.toNat) (by omega) default) vs hv hn hoff hone he
  refine s_skp (w' := w') ?_ (kk w' ?_)
  · have hx' : ev σ x = fat (vat v (Elt.sz (Raw 3)) i.toNat) off := hx
    simp [execOp, hx', hy, hr]
  refine H.set (c' := cAll (cOwn (α := Raw 3) e1 v (us.set i.toNat a') :: X)) hk rfl hg.keep (fun b hb hne => hg.blk b hb (fun hc => hne ⟨cOwn (α := Raw 3) e1 v us, by simp, hc⟩)) (fun b hb => ?_) ?_ rfl
  · obtain ⟨c, hc, hd⟩ := hb
    rcases List.mem_cons.1 hc with rfl | hc
    · exact .inl ⟨cOwn (α := Raw 3) e1 v us, by simp, hd⟩
    · exact .inl ⟨c, List.mem_cons_of_mem _ hc, hd⟩
  · exact Sep.set (c := cOwn (α := Raw 3) e1 v us) (c' := cOwn (α := Raw 3) e1 v (us.set i.toNat a')) rfl hg.size (fun b hb hne => hg.blk b hb hne) (fun b hb => .inl hb) ho 0 _ hok rfl
/-- The chunk as its outer row and the inner ones. -/
theorem St.doOpen {k : Nat} (H : St w0 w L R) (hk : L[k]? = some (cDO e1 e2 v us dl)) : St w0 w (L.set k (cAll (cOwn (α := Raw 3) e1 v us :: dpIn ivO e2 us (psd dl)))) R :=
  H.reS (c' := cAll (cOwn (α := Raw 3) e1 v us :: dpIn ivO e2 us (psd dl))) hk rfl (fun _ hb => hb) (H.get hk).1 rfl
theorem St.doShut {k : Nat} {us' : List (Raw 3)} {dl' : List Old10} (hkl : k < L.length) (H : St w0 w (L.set k (cAll (cOwn (α := Raw 3) e1 v us' :: dpIn ivO e2 us (psd dl)))) R) (hp : (dpIn ivO e2 us' (psd dl')).Perm (dpIn ivO e2 us (psd dl))) (hl : us'.length = dl'.length)
    (hm : ∀ i, i < dl'.length -> OldM (us'.getD i default) (dl'.getD i default)) (hL : L.set k (cDO e1 e2 v us' dl') = L') : St w0 w L' R := by
  refine H.reS (k := k) (c := cAll (cOwn (α := Raw 3) e1 v us' :: dpIn ivO e2 us (psd dl))) (c' := cDO e1 e2 v us' dl') (by simp [hkl]) rfl (fun b hb => ?_) ⟨?_, hl, hm⟩ (by rw [List.set_set]; exact hL)
  · obtain ⟨c, hc, hd⟩ := hb
    refine ⟨c, ?_, hd⟩
    rcases List.mem_cons.1 hc with rfl | hc
    · simp
    · exact List.mem_cons_of_mem _ (hp.mem_iff.1 hc)
  · have := H.get (k := k) (c := cAll (cOwn (α := Raw 3) e1 v us' :: dpIn ivO e2 us (psd dl))) (by simp [hkl])
    exact Sep.perm (show Sep w (cOwn (α := Raw 3) e1 v us' :: dpIn ivO e2 us (psd dl)) from this) (List.Perm.cons _ hp)
/-- A number of an element is stored. -/
theorem t_dofs {dst : Option Nat} {t k off : Nat} {x y : Operand} {val : Value} (H : St w0 w L R) (hk : L[k]? = some (cDO e1 e2 v us dl)) (hs : (P.info? t).map (·.size) = some 1) {i : Int} (h0 : 0 <= i) (h1 : i < dl.length) (hx : ev σ x = fat (vat v 4 i.toNat) off) (hy : ev σ y = val) (hof : off < 3) {n : Int} (hv : val = I n)
    {o' : Old10} (hp : o'.passed = (dl.getD i.toNat default).passed) (he : [I o'.src, I o'.dst, I o'.stage] = [I (dl.getD i.toNat default).src, I (dl.getD i.toNat default).dst, I (dl.getD i.toNat default).stage].set off val)
    (kk : ∀ w' us', us'.length = (dl.set i.toNat o').length -> St w0 w' (L.set k (cDO e1 e2 v us' (dl.set i.toNat o'))) R -> SL P all Q rest (updo σ dst undef) w') : SL P all Q (⟨dst, .store t x y, ty, pos, af, none⟩ :: rest) σ w := by
  subst hv
  have hok := H.get hk
  have hkl := (List.getElem?_eq_some_iff.1 hk).1
  have hl := hok.2.1
  have hin : i.toNat < dl.length := by omega
  have hm := hok.2.2 i.toNat hin
  have hoff : Nat.ble (off + [I n].length) (3 + 1) = true := by simp; omega
  have hpu : (Raw.put (us.getD i.toNat default) off [I n] hoff rfl).cs = [I o'.src, I o'.dst, I o'.stage, ivO (us.getD i.toNat default)] := by
    show (us.getD i.toNat default).cs.take off ++ [I n] ++ (us.getD i.toNat default).cs.drop (off + [I n].length) = _
    unfold OldM at hm
    generalize hu : ivO (us.getD i.toNat default) = u at hm ⊢
    rw [hm]
    rcases (show off = 0 ∨ off = 1 ∨ off = 2 by omega) with rfl | rfl | rfl <;> simp at he ⊢ <;> simp [he]
  have hivp : ivO (Raw.put (us.getD i.toNat default) off [I n] hoff rfl) = ivO (us.getD i.toNat default) := by
    conv => lhs; unfold ivO
    rw [hpu]; rfl
  refine t_outst (H.doOpen hk) (setGet hkl) hs h0 (by omega) (Raw.put (us.getD i.toNat default) off [I n] hoff rfl) hx hy [I n] rfl rfl (by omega) (by simp [Value.oneCell']) rfl fun w' H2 => kk w' (us.set i.toNat (Raw.put (us.getD i.toNat default) off [I n] hoff rfl)) (by simp [hl]) ?_
  rw [List.set_set] at H2
  refine St.doShut hkl H2 ?_ (by simp [hl]) (fun q hq => ?_) rfl
  · rw [show psd (dl.set i.toNat o') = psd dl from by
      rw [psd, List.map_set, hp]
      apply List.ext_getElem?
      intro j
      by_cases e : i.toNat = j
      · subst e
        simp [psd, List.getElem?_set, hin, List.getD]
      · rw [List.getElem?_set_ne e]; rfl]
    rw [dpIn_same (us' := us)]
    rw [List.map_set, hivp]
    apply List.ext_getElem?
    intro j
    by_cases e : i.toNat = j
    · subst e
      simp [List.getElem?_set, List.getD, show i.toNat < us.length by omega]
    · rw [List.getElem?_set_ne e]
  · rw [List.length_set] at hq
    by_cases e : i.toNat = q
    · subst e
      rw [show (us.set i.toNat (Raw.put (us.getD i.toNat default) off [I n] hoff rfl)).getD i.toNat default = Raw.put (us.getD i.toNat default) off [I n] hoff rfl from by simp [List.getD, show i.toNat < us.length by omega], show (dl.set i.toNat o').getD i.toNat default = o' from by simp [List.getD, hin]]
      unfold OldM
      rw [hivp, hpu]
    · rw [show (us.set i.toNat (Raw.put (us.getD i.toNat default) off [I n] hoff rfl)).getD q default = us.getD q default from by simp [List.getD, List.getElem?_set_ne e], show (dl.set i.toNat o').getD q default = dl.getD q default from by simp [List.getD, List.getElem?_set_ne e]]
      exact hok.2.2 q hq
theorem swap_perm {α : Type} (l : List α) {i k : Nat} (hi : i < l.length) (hk : k < l.length) : ((l.set i l[k]).set k l[i]).Perm l := by
  have := Array.swap_perm (xs := l.toArray) (i := i) (j := k) (by simpa using hi) (by simpa using hk)
  have h2 := this.toList
  simpa [Array.swap] using h2
/-- One of two elements that change places is stored, the other one not yet. -/
def cDX (e1 e2 : TypeId) (v : Value) (i j : Nat) (us : List (Raw 3)) (dl : List Old10) : Chunk where
  D b := (cAll (cOwn (α := Raw 3) e1 v (us.set i (us.getD j default)) :: dpIn ivO e2 us (psd dl))).D b
  ex := true
  ok w := (cAll (cOwn (α := Raw 3) e1 v (us.set i (us.getD j default)) :: dpIn ivO e2 us (psd dl))).ok w /\ us.length = dl.length /\ ∀ i, i < dl.length -> OldM (us.getD i default) (dl.getD i default)
  st w w' h hs k := ⟨(cAll (cOwn (α := Raw 3) e1 v (us.set i (us.getD j default)) :: dpIn ivO e2 us (psd dl))).st w w' h.1 hs k, h.2⟩
  bd w b h hb := (cAll (cOwn (α := Raw 3) e1 v (us.set i (us.getD j default)) :: dpIn ivO e2 us (psd dl))).bd w b h.1 hb
theorem dxSl {i j : Nat} (h : (cDX e1 e2 v i j us dl).ok w) : Sl (rowC v ((us.set i (us.getD j default)).flatMap Flat.enc)) v (us.set i (us.getD j default)) := ownSl (e := e1) ((show Sep w (_ :: _) from h.1).1)
theorem t_sw1 {dst : Option Nat} {t k : Nat} {x y : Operand} {u2 : Value} (H : St w0 w L R) (hk : L[k]? = some (cDO e1 e2 v us dl)) (hs : (P.info? t).map (·.size) = some 4) {i j : Int} (h0 : 0 <= i) (h1 : i < dl.length) (h2 : 0 <= j) (h3 : j < dl.length)
    (hu : u2 = ivO (us.getD j.toNat default)) (hx : ev σ x = vat v 4 i.toNat) (hy : ev σ y = .agg #[I (dl.getD j.toNat default).src, I (dl.getD j.toNat default).dst, I (dl.getD j.toNat default).stage, u2])
    (kk : ∀ w', St w0 w' (L.set k (cDX e1 e2 v i.toNat j.toNat us dl)) R -> SL P all Q rest (updo σ dst undef) w') :
    SL P all Q (⟨dst, .store t x y, ty, pos, af, none⟩ :: rest) σ w := by
  subst hu
  have hok := H.get hk
  have hkl := (List.getElem?_eq_some_iff.1 hk).1
  have hl := hok.2.1
  have hmj := hok.2.2 j.toNat (by omega)
  unfold OldM at hmj
  have hfv : fat (vat v 4 i.toNat) 0 = vat v 4 i.toNat := by
    obtain ⟨b, o, e⟩ := (ownSl (doOuter hok)).pl h0 (by omega)
    rw [show (4 : Nat) = Elt.sz (Raw 3) from rfl, e]
    simp [fat, add_lit]
  refine t_outst (off := 0) (H.doOpen hk) (setGet hkl) hs h0 (by omega) (us.getD j.toNat default) (by rw [hfv]; exact hx) hy (us.getD j.toNat default).cs (by rw [hmj]; rfl) (us.getD j.toNat default).len (by omega) (us.getD j.toNat default).one ?_ fun w1 H2 => kk w1 ?_
  · have := (us.getD i.toNat default).len
    rw [List.drop_of_length_le (by rw [(us.getD j.toNat default).len]; omega)]; simp
  rw [List.set_set] at H2
  exact H2.reS (k := k) (c := cAll (cOwn (α := Raw 3) e1 v (us.set i.toNat (us.getD j.toNat default)) :: dpIn ivO e2 us (psd dl))) (c' := cDX e1 e2 v i.toNat j.toNat us dl) (setGet hkl) rfl (fun _ hb => hb) ⟨H2.get (setGet hkl), hok.2⟩ (by rw [List.set_set])
theorem t_sw2 {dst : Option Nat} {t k : Nat} {x y : Operand} {u1 : Value} {i j : Int} (H : St w0 w L R) (hk : L[k]? = some (cDX e1 e2 v i.toNat j.toNat us dl)) (hs : (P.info? t).map (·.size) = some 4) (h0 : 0 <= i) (h1 : i < dl.length) (h2 : 0 <= j) (h3 : j < dl.length)
    (hu : u1 = ivO (us.getD i.toNat default)) (hx' : ev σ x = vat v 4 j.toNat) (hy' : ev σ y = .agg #[I (dl.getD i.toNat default).src, I (dl.getD i.toNat default).dst, I (dl.getD i.toNat default).stage, u1])
    (kk : ∀ w' us', us'.length = ((dl.set i.toNat (dl.getD j.toNat default)).set j.toNat (dl.getD i.toNat default)).length -> St w0 w' (L.set k (cDO e1 e2 v us' ((dl.set i.toNat (dl.getD j.toNat default)).set j.toNat (dl.getD i.toNat default)))) R -> SL P all Q rest (updo σ dst undef) w') :
    SL P all Q (⟨dst, .store t x y, ty, pos, af, none⟩ :: rest) σ w := by
  subst hu
  have hok := H.get hk
  have hkl := (List.getElem?_eq_some_iff.1 hk).1
  have hl := hok.2.1
  have hi : i.toNat < dl.length := by omega
  have hj : j.toNat < dl.length := by omega
  have hmi := hok.2.2 i.toNat hi
  have hmj := hok.2.2 j.toNat hj
  unfold OldM at hmi hmj
  have hout : (cOwn (α := Raw 3) e1 v (us.set i.toNat (us.getD j.toNat default))).ok w := (show Sep w (_ :: _) from hok.1).1
  have hfv : fat (vat v 4 j.toNat) 0 = vat v 4 j.toNat := by
    obtain ⟨b, o, e⟩ := (ownSl hout).pl h2 (by rw [List.length_set]; omega)
    rw [show (4 : Nat) = Elt.sz (Raw 3) from rfl, e]
    simp [fat, add_lit]
  have H2 : St w0 w (L.set k (cAll (cOwn (α := Raw 3) e1 v (us.set i.toNat (us.getD j.toNat default)) :: dpIn ivO e2 us (psd dl)))) R := H.reS (c' := cAll (cOwn (α := Raw 3) e1 v (us.set i.toNat (us.getD j.toNat default)) :: dpIn ivO e2 us (psd dl))) hk rfl (fun _ hb => hb) hok.1 rfl
  refine t_outst (off := 0) H2 (setGet hkl) hs h2 (by simp; omega) (us.getD i.toNat default) (by rw [hfv]; exact hx') hy' (us.getD i.toNat default).cs (by rw [hmi]; rfl) (us.getD i.toNat default).len (by omega) (us.getD i.toNat default).one ?_ fun w2 H3 => kk w2 ((us.set i.toNat (us.getD j.toNat default)).set j.toNat (us.getD i.toNat default)) (by simp [hl]) ?_
  · have := ((us.set i.toNat (us.getD j.toNat default)).getD j.toNat default).len
    rw [List.drop_of_length_le (by rw [(us.getD i.toNat default).len]; omega)]; simp
  rw [List.set_set] at H3
  have hui : us[i.toNat]'(by omega) = us.getD i.toNat default := by simp [List.getD, show i.toNat < us.length by omega]
  have huj : us[j.toNat]'(by omega) = us.getD j.toNat default := by simp [List.getD, show j.toNat < us.length by omega]
  have hdi : dl[i.toNat] = dl.getD i.toNat default := by simp [List.getD, hi]
  have hdj : dl[j.toNat] = dl.getD j.toNat default := by simp [List.getD, hj]
  refine St.doShut hkl H3 ?_ (by simp [hl]) (fun q hq => ?_) rfl
  · unfold dpIn
    refine List.Perm.map _ ?_
    have hz : ((us.set i.toNat (us.getD j.toNat default)).set j.toNat (us.getD i.toNat default)).zip (psd ((dl.set i.toNat (dl.getD j.toNat default)).set j.toNat (dl.getD i.toNat default))) = (((us.zip (psd dl)).set i.toNat ((us.zip (psd dl))[j.toNat]'(by simp [psd_len]; omega))).set j.toNat ((us.zip (psd dl))[i.toNat]'(by simp [psd_len]; omega))) := by
      apply List.ext_getElem?
      intro q
      rw [← hui, ← huj, ← hdi, ← hdj]
      simp only [List.zip, List.getElem?_zipWith, psd, List.map_set, List.getElem_zipWith, List.getElem_map]
      by_cases e : j.toNat = q
      · subst e
        simp [List.getElem?_set, hj, show j.toNat < us.length by omega, show j.toNat < min us.length dl.length by omega]
      · rw [List.getElem?_set_ne e, List.getElem?_set_ne e, List.getElem?_set_ne e]
        by_cases e' : i.toNat = q
        · subst e'
          simp [List.getElem?_set, hi, show i.toNat < us.length by omega, show i.toNat < min us.length dl.length by omega]
        · rw [List.getElem?_set_ne e', List.getElem?_set_ne e', List.getElem?_set_ne e']
          simp [List.getElem?_zipWith]
    rw [hz]
    exact swap_perm _ _ _
  · simp only [List.length_set] at hq
    by_cases e : j.toNat = q
    · subst e
      rw [show ((us.set i.toNat (us.getD j.toNat default)).set j.toNat (us.getD i.toNat default)).getD j.toNat default = us.getD i.toNat default from by simp [List.getD, show j.toNat < us.length by omega], show ((dl.set i.toNat (dl.getD j.toNat default)).set j.toNat (dl.getD i.toNat default)).getD j.toNat default = dl.getD i.toNat default from by simp [List.getD, hj]]
      exact hmi
    · rw [show ((us.set i.toNat (us.getD j.toNat default)).set j.toNat (us.getD i.toNat default)).getD q default = (us.set i.toNat (us.getD j.toNat default)).getD q default from by simp [List.getD, List.getElem?_set_ne e], show ((dl.set i.toNat (dl.getD j.toNat default)).set j.toNat (dl.getD i.toNat default)).getD q default = (dl.set i.toNat (dl.getD j.toNat default)).getD q default from by simp [List.getD, List.getElem?_set_ne e]]
      by_cases e' : i.toNat = q
      · subst e'
        rw [show (us.set i.toNat (us.getD j.toNat default)).getD i.toNat default = us.getD j.toNat default from by simp [List.getD, show i.toNat < us.length by omega], show (dl.set i.toNat (dl.getD j.toNat default)).getD i.toNat default = dl.getD j.toNat default from by simp [List.getD, hi]]
        exact hmj
      · rw [show (us.set i.toNat (us.getD j.toNat default)).getD q default = us.getD q default from by simp [List.getD, List.getElem?_set_ne e'], show (dl.set i.toNat (dl.getD j.toNat default)).getD q default = dl.getD q default from by simp [List.getD, List.getElem?_set_ne e']]
        exact hok.2.2 q hq
end
end Go.Nm
namespace Go.Nm
open Go
section
variable {P : Program} {ops : Array Oper} {md : Region.Mode} {C : World -> Prop} {z : Nat}
end
section
variable {P : Program} {all : List Oper} {C : World -> Prop} {z : Nat} {Q : Post} {r : List Nat} {σ : Env} {w : World}
end
end Go.Nm
namespace Go.Nm
open Go
section
variable {P : Program} {ops : Array Oper} {md : Region.Mode} {C : World -> Prop} {z : Nat}
end
section
variable {P : Program} {all : List Oper} {C : World -> Prop} {z : Nat} {Q : Post} {r r2 : Ord} {σ : Env} {w : World}
end
end Go.Nm
namespace Go.Proofs.Ytcgalcbkkijkhaa
open Go Go.Nm
end Go.Proofs.Ytcgalcbkkijkhaa
section
set_option maxRecDepth 100000
set_option maxHeartbeats 16000000
namespace Go.Proofs.Ytcgalcbkkijkhaa
open Go Go.Nm
def zaK (b_Olds : List Old10) : (Nat × (List Old10)) -> M ((Nat × (List Old10)) ⊕ ((List Old10) × (List Old10))) := fun (i, l) =>
  bif decide ((i : Int) < (b_Olds.length : Int)) then (
  M.grd (decide ((i : Int) < (b_Olds.length : Int))) <|
  M.bind (za2 ((b_Olds.getD i default).passed)) fun r3 =>
  M.grd (decide ((l.length + ([(⟨((b_Olds.getD i default).src : Int), ((b_Olds.getD i default).dst : Int), ((b_Olds.getD i default).stage : Int), r3⟩ : Old10)]).length) * 48 <= 140737488355328)) <|
  M.pure (.inl (i + 1, l ++ [(⟨((b_Olds.getD i default).src : Int), ((b_Olds.getD i default).dst : Int), ((b_Olds.getD i default).stage : Int), r3⟩ : Old10)])))
  else (
  M.pure (.inr (l, l)))
def zbk (b_Years : List Yr) (b_Olds : List Old10) (b_First : Int) (b_Last : Int) : M ((List Yr) × (List Old10) × Int × Int) :=
  M.bind (za1 b_Years) fun r2 =>
  M.bind (M.iter (zaK b_Olds) (0, [])) fun (l2, l3) =>
  M.pure (r2, l3, b_First, b_Last)
theorem zcx {R : List Chunk} {C_b_Years : Cells} {v_b_Years : Value} {C_b_Olds : Cells} {v_b_Olds : Value} (b_Years : List Yr) (b_Olds : List Old10) (b_First : Int) (b_Last : Int) (hC_b_Years : Reads R C_b_Years) (hs_b_Years : Sl C_b_Years v_b_Years b_Years) (hC_b_Olds : Reads R C_b_Olds) (hs_b_Olds : Sl C_b_Olds v_b_Olds b_Olds) {r : ((List Yr) × (List Old10) × Int × Int)} (hM : (zbk b_Years b_Olds b_First b_Last).Ends r) (w : World) (H : St w w [] R) : Ret Try.prog 16 #[.agg #[v_b_Years, v_b_Olds, I b_First, I b_Last]] w fun v w' => ∃ (y0 : List Yr) (y1 : List Old10) (y2 : Int) (y3 : Int) (u0 : Value) (u1 : Value) (rr2 : List (Raw 3)) (Bs3 : Base), (y0, y1, y2, y3) = r /\ v = .agg #[u0, u1, I y2, I y3] /\ St w w' [cOwn (α := Yr) 41 u0 y0, cDO 43 3 u1 rr2 y1, cRo Bs3] R /\ rr2.length = y1.length := by
 refine ret_of_W Try.func16 rfl rfl rfl ?_
 refine W.seq ?_
 refine W.region rfl ?_
 refine t_box (v := .agg #[v_b_Years, v_b_Olds, I b_First, I b_Last]) (cs := [v_b_Years, v_b_Olds, I b_First, I b_Last]) H rfl rfl ?_
 intro b_1 w1z H
 refine t_alloc (cs := [.slice none 0 0, .slice none 0 0, I 0, I 0]) H Al26 rfl ?_
 intro b_2 w2z H
 refine s_nil ?_
 refine W.seq ?_
 refine W.drawT (fun W => St w W [cBlk b_2 [.slice none 0 0, .slice none 0 0, I 0, I 0] 26, cBlk b_1 [v_b_Years, v_b_Olds, I b_First, I b_Last] 26] R) (.q 0 (.q 1 (.q 2 (.q 3 (.q 4 (.q 5 (.l2 6 (.q 7 (.l 8 (.l 9 .nil))) 8 (.l 6 (.q 7 (.l 9 .nil)))))))))) mixed (by decide +kernel) rfl ?_
 intro w3z hx_
 replace H : St w w3z [cBlk b_2 [.slice none 0 0, .slice none 0 0, I 0, I 0] 26, cBlk b_1 [v_b_Years, v_b_Olds, I b_First, I b_Last] 26] R := H.ext hx_
 clear hx_
 refine ⟨(H.pick [0, 1] (by decide) rfl), ?_⟩
 refine t_q rfl (fun w' H => x_fa (a := .pointer (some ⟨b_1, 0, none⟩)) (v := .pointer (some ⟨b_1, 2, none⟩)) rfl (fa_blk (o := 0) Fd26_2 Sz3)) ?_
 refine t_q rfl (fun w' H => x_ld (p := .pointer (some ⟨b_1, 2, none⟩)) (v := I b_First) rfl (ldb_sc Sc3 (H.blk (k := 1) rfl) rfl)) ?_
 refine t_q rfl (fun w' H => x_fa (a := .pointer (some ⟨b_1, 0, none⟩)) (v := .pointer (some ⟨b_1, 3, none⟩)) rfl (fa_blk (o := 0) Fd26_3 Sz3)) ?_
 refine t_q rfl (fun w' H => x_ld (p := .pointer (some ⟨b_1, 3, none⟩)) (v := I b_Last) rfl (ldb_sc Sc3 (H.blk (k := 1) rfl) rfl)) ?_
 refine t_q rfl (fun w' H => x_fa (a := .pointer (some ⟨b_1, 0, none⟩)) (v := .pointer (some ⟨b_1, 0, none⟩)) rfl (fa_blk (o := 0) Fd26_0 Sz23)) ?_
 refine t_q rfl (fun w' H => x_ld (p := .pointer (some ⟨b_1, 0, none⟩)) (v := v_b_Years) rfl (ldb_sc Sc23 (H.blk (k := 1) rfl) rfl)) ?_
 refine t_l2 rfl rfl ?_ ?_
 ·skip
  obtain ⟨r16z, hx15z, hM⟩ := M.e_bind hM
  refine s_call cf57 [v_b_Years] rfl (zcc b_Years (hC_b_Years.app _) hs_b_Years hx15z _ (St.give (T := [cBlk b_2 [.slice none 0 0, .slice none 0 0, I 0, I 0] 26, cBlk b_1 [v_b_Years, v_b_Olds, I b_First, I b_Last] 26]) H rfl)) ?_
  rintro vq w17z ⟨r2, u0_3, hr18z, hvq, H2_⟩
  subst hr18z
  subst vq
  try dsimp only at hM
  replace H : St w w17z [cOwn (α := Yr) 41 u0_3 r2, cBlk b_2 [.slice none 0 0, .slice none 0 0, I 0, I 0] 26, cBlk b_1 [v_b_Years, v_b_Olds, I b_First, I b_Last] 26] R := H.back H2_ rfl
  clear H2_
  have hvc_q19z := Sl.cells (ownSl (H.get (k := 0) rfl))
  have hvo_q19z := Sl.oc (ownSl (H.get (k := 0) rfl))
  refine s_nil ⟨(H.pick [1, 2] (by decide) rfl), ?_⟩
  refine t_q rfl (fun w' H => x_bld (ps := [(2, I b_First), (3, I b_Last), (0, u0_3)]) (zs := [.slice none 0 0, .slice none 0 0, I 0, I 0]) (L' := [u0_3, .slice none 0 0, I b_First, I b_Last]) rfl Try.underlying26 Al26 rfl (Bd26 Try.underlying26) (.cons (cs := [I b_First]) rfl rfl rfl rfl rfl <| .cons (cs := [I b_Last]) rfl rfl rfl rfl rfl <| .cons (cs := [u0_3]) hvc_q19z rfl rfl rfl rfl <| .nil)) ?_
  refine t_l rfl ?_
  refine t_alloc (cs := [.slice none 0 0, .slice none 0 0, I 0, I 0]) H Al26 rfl ?_
  intro b_4 w20z H
  refine s_nil ⟨(H.pick [2, 3] (by decide) rfl), ?_⟩
  refine t_l rfl ?_
  refine t_st (k := 0) (b := b_4) (off := 0) (cs := [.slice none 0 0, .slice none 0 0, I 0, I 0]) (vs := [u0_3, .slice none 0 0, I b_First, I b_Last]) (cs' := [u0_3, .slice none 0 0, I b_First, I b_Last]) (v := .agg #[u0_3, .slice none 0 0, I b_First, I b_Last]) (L' := [cBlk b_4 [u0_3, .slice none 0 0, I b_First, I b_Last] 26, cOwn (α := Yr) 41 u0_3 r2, cBlk b_2 [.slice none 0 0, .slice none 0 0, I 0, I 0] 26, cBlk b_1 [v_b_Years, v_b_Olds, I b_First, I b_Last] 26]) H rfl rfl rfl Sz26 rfl rfl rfl (by simp only [List.all_cons, List.all_nil, Bool.true_and, Bool.and_true, Sl.oc (ownSl (H.get (k := 1) rfl))]; try rfl) rfl rfl ?_
  intro w21z H
  refine s_nil ⟨(H.pick [2, 3] (by decide) rfl), ?_⟩
  refine t_nil ?_
  refine W.seq ?_
  refine W.seq ?_
  refine W.region rfl ?_
  refine s_val (x_as (v := I 0) rfl) ?_
  refine s_nil ?_
  refine W.block ?_
  obtain ⟨Bs_10, H⟩ := H.emptyE
  replace H : St w w21z [cDO 43 3 (.slice none 0 0) ([]) ([]), cRo Bs_10, cBlk b_4 [u0_3, .slice none 0 0, I b_First, I b_Last] 26, cOwn (α := Yr) 41 u0_3 r2, cBlk b_2 [.slice none 0 0, .slice none 0 0, I 0, I 0] 26, cBlk b_1 [v_b_Years, v_b_Olds, I b_First, I b_Last] 26] R := H.nilDo 43 3
  have hr22z : ([] : List (Raw 3)).length = ([] : List Old10).length := rfl
  obtain ⟨ex23z, hi24z, hk25z⟩ := M.e_bind hM
  obtain ⟨m0_, hi24z⟩ := M.e_iter hi24z
  refine W.loop (fun m σ W => ∃ (i : Nat) (l : List Old10) (v_l : Value) (rw_l : List (Raw 3)) (B_l : Base) (ρ : Env), σ = upds ρ [(1, .pointer (some ⟨b_1, 0, none⟩)), (2, .pointer (some ⟨b_2, 0, none⟩)), (3, .pointer (some ⟨b_4, 0, none⟩)), (4, I (i : Int))] /\ M.iterN (zaK b_Olds) m (i, l) = some ex23z /\ St w W [cDO 43 3 v_l rw_l l, cRo B_l, cBlk b_4 [u0_3, v_l, I b_First, I b_Last] 26, cOwn (α := Yr) 41 u0_3 r2, cBlk b_2 [.slice none 0 0, .slice none 0 0, I 0, I 0] 26, cBlk b_1 [v_b_Years, v_b_Olds, I b_First, I b_Last] 26] R /\ rw_l.length = l.length) ?_ ?_
  ·exact ⟨_, 0, [], (.slice none 0 0), [], Bs_10, _, upds_of _ _ ⟨rfl, rfl, rfl, rfl, trivial⟩, hi24z, H, hr22z⟩
  rintro m28z σ w26z ⟨i, l, v_l, rw_l, B_l, ρ, rfl, hI27z, H, hr_l⟩
  obtain ⟨m29z, lt30z, x31z, hM, hN32z⟩ := M.e_iterN hI27z
  simp only [zaK] at hM
  clear hI27z
  refine W.seq ?_
  refine W.seq ?_
  refine W.region rfl ?_
  refine s_val (x_mv (v := I (i : Int)) rfl) ?_
  refine s_val (x_fa (a := .pointer (some ⟨b_1, 0, none⟩)) (v := .pointer (some ⟨b_1, 1, none⟩)) rfl (fa_blk (o := 0) Fd26_1 Sz24)) ?_
  refine s_val (x_ld (p := .pointer (some ⟨b_1, 1, none⟩)) (v := v_b_Olds) rfl (ldb_sc Sc24 (H.blk (k := 5) rfl) rfl)) ?_
  have hl33z := (hs_b_Olds).len_le
  refine s_val (x_lenS T24.und rfl hs_b_Olds) ?_
  refine s_val (x_cmp (kd := .i64) (a := (i : Int)) (b := (b_Olds.length : Int)) (r := decide ((i : Int) < (b_Olds.length : Int))) rfl rfl rfl) ?_
  refine s_nil ?_
  refine W.cond (decide ((i : Int) < (b_Olds.length : Int))) rfl (fun c34z => ?_) (fun c34z => ?_)
  ·replace hM := M.e_t hM c34z
   simp only [decide_eq_true_eq, decide_eq_false_iff_not, beq_iff_eq, bne_iff_ne, beq_eq_false_iff_ne, bne_eq_false_iff_eq, ne_eq, Decidable.not_not] at c34z
   refine W.skip ?_
   refine W.seq ?_
   refine W.block ?_
   refine W.seq ?_
   refine W.region rfl ?_
   refine s_val (x_fa (a := .pointer (some ⟨b_1, 0, none⟩)) (v := .pointer (some ⟨b_1, 1, none⟩)) rfl (fa_blk (o := 0) Fd26_1 Sz24)) ?_
   refine s_val (x_ld (p := .pointer (some ⟨b_1, 1, none⟩)) (v := v_b_Olds) rfl (ldb_sc Sc24 (H.blk (k := 5) rfl) rfl)) ?_
   refine s_val (x_mv (v := I (i : Int)) rfl) ?_
   obtain ⟨sd35z, hM⟩ := M.e_grd hM
   simp only [Bool.and_eq_true, decide_eq_true_eq] at sd35z
   refine s_val (x_ix (a := v_b_Olds) (b := I (i : Int)) (v := vat v_b_Olds 4 (Int.toNat (i : Int))) rfl rfl (Sl.ix (α := Old10) T24.und T24.size hs_b_Olds (by omega) (by omega))) ?_
   obtain ⟨u36z, ha38z, hs37z⟩ := Old10_atA hs_b_Olds (i := (i : Int)) (by omega) (by omega)
   replace hs37z : Sl _ u36z (b_Olds.getD i default).passed := hs37z
   have hl_hs37z := hs37z.len_le
   refine s_val (x_ld (p := vat v_b_Olds 4 (Int.toNat (i : Int))) (v := .agg #[I ((b_Olds.getD i default).src), I ((b_Olds.getD i default).dst), I ((b_Olds.getD i default).stage), u36z]) rfl (ld_ag Ag43 Sz43 (At.mono ha38z (hC_b_Olds.at H)))) ?_
   refine t_alloc (cs := [I 0, I 0, I 0, .slice none 0 0]) H Al43 rfl ?_
   intro b_5 w39z H
   refine t_st (k := 0) (b := b_5) (off := 0) (cs := [I 0, I 0, I 0, .slice none 0 0]) (vs := [I ((b_Olds.getD i default).src), I ((b_Olds.getD i default).dst), I ((b_Olds.getD i default).stage), u36z]) (cs' := [I ((b_Olds.getD i default).src), I ((b_Olds.getD i default).dst), I ((b_Olds.getD i default).stage), u36z]) (v := .agg #[I ((b_Olds.getD i default).src), I ((b_Olds.getD i default).dst), I ((b_Olds.getD i default).stage), u36z]) (L' := [cBlk b_5 [I ((b_Olds.getD i default).src), I ((b_Olds.getD i default).dst), I ((b_Olds.getD i default).stage), u36z] 43, cDO 43 3 v_l rw_l l, cRo B_l, cBlk b_4 [u0_3, v_l, I b_First, I b_Last] 26, cOwn (α := Yr) 41 u0_3 r2, cBlk b_2 [.slice none 0 0, .slice none 0 0, I 0, I 0] 26, cBlk b_1 [v_b_Years, v_b_Olds, I b_First, I b_Last] 26]) H rfl rfl rfl Sz43 rfl rfl rfl (by simp only [List.all_cons, List.all_nil, Bool.true_and, Bool.and_true, Sl.oc hs37z]; try rfl) rfl rfl ?_
   intro w40z H
   refine s_nil ?_
   refine W.seq ?_
   refine W.region rfl ?_
   refine s_val (x_fa (a := .pointer (some ⟨b_5, 0, none⟩)) (v := .pointer (some ⟨b_5, 3, none⟩)) rfl (fa_blk (o := 0) Fd43_3 Sz27)) ?_
   refine s_val (x_ld (p := .pointer (some ⟨b_5, 3, none⟩)) (v := u36z) rfl (ldb_sc Sc27 (H.blk (k := 0) rfl) rfl)) ?_
   obtain ⟨r42z, hx41z, hM⟩ := M.e_bind hM
   refine s_call cf31 [u36z] rfl (zbP ((b_Olds.getD i default).passed) (hC_b_Olds.app _) hs37z hx41z _ (St.give (T := [cBlk b_5 [I ((b_Olds.getD i default).src), I ((b_Olds.getD i default).dst), I ((b_Olds.getD i default).stage), u36z] 43, cDO 43 3 v_l rw_l l, cRo B_l, cBlk b_4 [u0_3, v_l, I b_First, I b_Last] 26, cOwn (α := Yr) 41 u0_3 r2, cBlk b_2 [.slice none 0 0, .slice none 0 0, I 0, I 0] 26, cBlk b_1 [v_b_Years, v_b_Olds, I b_First, I b_Last] 26]) H rfl)) ?_
   rintro vq w43z ⟨r3, u0_6, hr44z, hvq, H2_⟩
   subst hr44z
   subst vq
   try dsimp only at hM
   replace H : St w w43z [cOwn (α := Int) 3 u0_6 r3, cBlk b_5 [I ((b_Olds.getD i default).src), I ((b_Olds.getD i default).dst), I ((b_Olds.getD i default).stage), u36z] 43, cDO 43 3 v_l rw_l l, cRo B_l, cBlk b_4 [u0_3, v_l, I b_First, I b_Last] 26, cOwn (α := Yr) 41 u0_3 r2, cBlk b_2 [.slice none 0 0, .slice none 0 0, I 0, I 0] 26, cBlk b_1 [v_b_Years, v_b_Olds, I b_First, I b_Last] 26] R := H.back H2_ rfl
   clear H2_
   refine s_val (x_fa (a := .pointer (some ⟨b_5, 0, none⟩)) (v := .pointer (some ⟨b_5, 3, none⟩)) rfl (fa_blk (o := 0) Fd43_3 Sz27)) ?_
   refine t_st (k := 1) (b := b_5) (off := 3) (cs := [I ((b_Olds.getD i default).src), I ((b_Olds.getD i default).dst), I ((b_Olds.getD i default).stage), u36z]) (vs := [u0_6]) (cs' := [I ((b_Olds.getD i default).src), I ((b_Olds.getD i default).dst), I ((b_Olds.getD i default).stage), u0_6]) (v := u0_6) (L' := [cOwn (α := Int) 3 u0_6 r3, cBlk b_5 [I ((b_Olds.getD i default).src), I ((b_Olds.getD i default).dst), I ((b_Olds.getD i default).stage), u0_6] 43, cDO 43 3 v_l rw_l l, cRo B_l, cBlk b_4 [u0_3, v_l, I b_First, I b_Last] 26, cOwn (α := Yr) 41 u0_3 r2, cBlk b_2 [.slice none 0 0, .slice none 0 0, I 0, I 0] 26, cBlk b_1 [v_b_Years, v_b_Olds, I b_First, I b_Last] 26]) H rfl rfl rfl Sz27 (Sl.cells (ownSl (H.get (k := 0) rfl))) rfl rfl (by simp only [List.all_cons, List.all_nil, Bool.true_and, Bool.and_true, Sl.oc (ownSl (H.get (k := 0) rfl))]; try rfl) rfl rfl ?_
   intro w45z H
   refine s_nil ?_
   refine W.region rfl ?_
   refine s_val (x_fa (a := .pointer (some ⟨b_4, 0, none⟩)) (v := .pointer (some ⟨b_4, 1, none⟩)) rfl (fa_blk (o := 0) Fd26_1 Sz24)) ?_
   refine s_val (x_ld (p := .pointer (some ⟨b_4, 1, none⟩)) (v := v_l) rfl (ldb_sc Sc24 (H.blk (k := 4) rfl) rfl)) ?_
   refine s_val (x_ld (p := .pointer (some ⟨b_5, 0, none⟩)) (v := .agg #[I ((b_Olds.getD i default).src), I ((b_Olds.getD i default).dst), I ((b_Olds.getD i default).stage), u0_6]) rfl (ldb_ag (ds := [I ((b_Olds.getD i default).src), I ((b_Olds.getD i default).dst), I ((b_Olds.getD i default).stage), u0_6]) Ag43 Sz43 (H.blk (k := 1) rfl) rfl rfl)) ?_
   obtain ⟨rw46z, hrw_rw46z⟩ : ∃ r : Raw 3, r.cs = [I ((b_Olds.getD i default).src), I ((b_Olds.getD i default).dst), I ((b_Olds.getD i default).stage), u0_6] := ⟨Raw.of [I ((b_Olds.getD i default).src), I ((b_Olds.getD i default).dst), I ((b_Olds.getD i default).stage), u0_6] rfl (by simp only [List.all_cons, List.all_nil, Bool.true_and, Bool.and_true, Sl.oc (ownSl (H.get (k := 0) rfl))]; try rfl), rfl⟩
   refine t_bs (α := Raw 3) T24 [.agg #[I ((b_Olds.getD i default).src), I ((b_Olds.getD i default).dst), I ((b_Olds.getD i default).stage), u0_6]] [rw46z] H rfl (.cons (by rw [show (Flat.enc rw46z : List Value) = rw46z.cs from rfl, hrw_rw46z]; rfl) (Flat.rep_enc _ _) <| .nil) rfl rfl rfl ?_
   intro v47z w48z H
   replace H : St w w48z [cOwn (α := Raw 3) 43 v47z ([rw46z]), cOwn (α := Int) 3 u0_6 r3, cBlk b_5 [I ((b_Olds.getD i default).src), I ((b_Olds.getD i default).dst), I ((b_Olds.getD i default).stage), u0_6] 43, cDO 43 3 v_l rw_l l, cRo B_l, cBlk b_4 [u0_3, v_l, I b_First, I b_Last] 26, cOwn (α := Yr) 41 u0_3 r2, cBlk b_2 [.slice none 0 0, .slice none 0 0, I 0, I 0] 26, cBlk b_1 [v_b_Years, v_b_Olds, I b_First, I b_Last] 26] R := H
   obtain ⟨sd49z, hM⟩ := M.e_grd hM
   simp only [Bool.and_eq_true, decide_eq_true_eq] at sd49z
   replace H : St w w48z [cDO 43 3 v_l rw_l l, cOwn (α := Int) 3 u0_6 r3, cOwn (α := Raw 3) 43 v47z ([rw46z]), cBlk b_5 [I ((b_Olds.getD i default).src), I ((b_Olds.getD i default).dst), I ((b_Olds.getD i default).stage), u0_6] 43, cRo B_l, cBlk b_4 [u0_3, v_l, I b_First, I b_Last] 26, cOwn (α := Yr) 41 u0_3 r2, cBlk b_2 [.slice none 0 0, .slice none 0 0, I 0, I 0] 26, cBlk b_1 [v_b_Years, v_b_Olds, I b_First, I b_Last] 26] R := H.pick [3, 1, 0, 2, 4, 5, 6, 7, 8] (by decide) rfl
   refine t_doapp (dl := l) (o := (⟨((b_Olds.getD i default).src : Int), ((b_Olds.getD i default).dst : Int), ((b_Olds.getD i default).stage : Int), r3⟩ : Old10)) (sv := rw46z) (rv := u0_6) T24 rfl H hrw_rw46z rfl rfl (ownSl (H.get (k := 2) rfl)) (ownLe _ (H.get (k := 2) rfl)) (by (try simp only [List.length_nil, List.length_cons] at *); omega) ?_
   intro v50z w51z H
   replace H : St w w51z [cDO 43 3 v50z (rw_l ++ [rw46z]) (l ++ [(⟨((b_Olds.getD i default).src : Int), ((b_Olds.getD i default).dst : Int), ((b_Olds.getD i default).stage : Int), r3⟩ : Old10)]), cOwn (α := Raw 3) 43 v47z ([rw46z]), cBlk b_5 [I ((b_Olds.getD i default).src), I ((b_Olds.getD i default).dst), I ((b_Olds.getD i default).stage), u0_6] 43, cRo B_l, cBlk b_4 [u0_3, v_l, I b_First, I b_Last] 26, cOwn (α := Yr) 41 u0_3 r2, cBlk b_2 [.slice none 0 0, .slice none 0 0, I 0, I 0] 26, cBlk b_1 [v_b_Years, v_b_Olds, I b_First, I b_Last] 26] R := H
   have hr52z := doLen (H.get (k := 0) rfl)
   refine s_val (x_fa (a := .pointer (some ⟨b_4, 0, none⟩)) (v := .pointer (some ⟨b_4, 1, none⟩)) rfl (fa_blk (o := 0) Fd26_1 Sz24)) ?_
   refine t_st (k := 4) (b := b_4) (off := 1) (cs := [u0_3, v_l, I b_First, I b_Last]) (vs := [v50z]) (cs' := [u0_3, v50z, I b_First, I b_Last]) (v := v50z) (L' := [cDO 43 3 v50z (rw_l ++ [rw46z]) (l ++ [(⟨((b_Olds.getD i default).src : Int), ((b_Olds.getD i default).dst : Int), ((b_Olds.getD i default).stage : Int), r3⟩ : Old10)]), cOwn (α := Raw 3) 43 v47z ([rw46z]), cBlk b_5 [I ((b_Olds.getD i default).src), I ((b_Olds.getD i default).dst), I ((b_Olds.getD i default).stage), u0_6] 43, cRo B_l, cBlk b_4 [u0_3, v50z, I b_First, I b_Last] 26, cOwn (α := Yr) 41 u0_3 r2, cBlk b_2 [.slice none 0 0, .slice none 0 0, I 0, I 0] 26, cBlk b_1 [v_b_Years, v_b_Olds, I b_First, I b_Last] 26]) H rfl rfl rfl Sz24 (Sl.cells (deSl (H.get (k := 0) rfl))) rfl rfl (by simp only [List.all_cons, List.all_nil, Bool.true_and, Bool.and_true, Sl.oc (deSl (H.get (k := 0) rfl))]; try rfl) rfl rfl ?_
   intro w53z H
   refine s_nil ?_
   refine W.region rfl ?_
   refine s_val (x_mv (v := I (i : Int)) rfl) ?_
   refine s_val (x_ari (a := (i : Int)) (b := 1) (r := (i : Int) + 1) rfl rfl rfl (by omega)) ?_
   refine s_val (x_as (v := I ((i : Int) + 1)) rfl) ?_
   refine s_nil ?_
   exact ⟨m29z, lt30z, i + 1, l ++ [(⟨((b_Olds.getD i default).src : Int), ((b_Olds.getD i default).dst : Int), ((b_Olds.getD i default).stage : Int), r3⟩ : Old10)], v50z, rw_l ++ [rw46z], B_l, _, upds_of _ _ ⟨rfl, rfl, rfl, rfl, trivial⟩, M.e_inl hM hN32z, (H.pick [0, 3, 4, 5, 6, 7] (by decide) rfl), hr52z⟩
  replace hM := M.e_f hM c34z
  simp only [decide_eq_true_eq, decide_eq_false_iff_not, beq_iff_eq, bne_iff_ne, beq_eq_false_iff_ne, bne_eq_false_iff_eq, ne_eq, Decidable.not_not] at c34z
  refine W.exit ?_
  have hX54z := M.e_inr hM hN32z
  subst hX54z
  replace hM := hk25z
  try dsimp only at hM
  refine W.seq ?_
  refine W.region rfl ?_
  refine s_val (x_ld (p := .pointer (some ⟨b_4, 0, none⟩)) (v := .agg #[u0_3, v_l, I b_First, I b_Last]) rfl (ldb_ag (ds := [u0_3, v_l, I b_First, I b_Last]) Ag26 Sz26 (H.blk (k := 2) rfl) rfl rfl)) ?_
  refine t_st (k := 4) (b := b_2) (off := 0) (cs := [.slice none 0 0, .slice none 0 0, I 0, I 0]) (vs := [u0_3, v_l, I b_First, I b_Last]) (cs' := [u0_3, v_l, I b_First, I b_Last]) (v := .agg #[u0_3, v_l, I b_First, I b_Last]) (L' := [cDO 43 3 v_l rw_l l, cRo B_l, cBlk b_4 [u0_3, v_l, I b_First, I b_Last] 26, cOwn (α := Yr) 41 u0_3 r2, cBlk b_2 [u0_3, v_l, I b_First, I b_Last] 26, cBlk b_1 [v_b_Years, v_b_Olds, I b_First, I b_Last] 26]) H rfl rfl rfl Sz26 rfl rfl rfl (by simp only [List.all_cons, List.all_nil, Bool.true_and, Bool.and_true, Sl.oc (ownSl (H.get (k := 3) rfl)), Sl.oc (deSl (H.get (k := 0) rfl))]; try rfl) rfl rfl ?_
  intro w55z H
  refine s_nil ?_
  refine W.ret ?_
  have hb56z := (H.blk (k := 4) rfl)
  have hr_ := M.e_pure hM
  exact ⟨_, (resE_of1 (v := .agg #[u0_3, v_l, I b_First, I b_Last]) rfl (.cell (v := .agg #[u0_3, v_l, I b_First, I b_Last]) rfl (run_loadVar_ag (ds := [u0_3, v_l, I b_First, I b_Last]) Ag26 Sz26 hb56z rfl rfl) <| .nil)), ⟨r2, l, b_First, b_Last, u0_3, v_l, rw_l, B_l, hr_, rfl, (H.pick [3, 0, 1] (by decide) rfl), hr_l⟩⟩
 skip
 refine t_alloc (cs := [.slice none 0 0, .slice none 0 0, I 0, I 0]) H Al26 rfl ?_
 intro b_4 w57z H
 refine s_nil ⟨(H.pick [1, 2] (by decide) rfl), ?_⟩
 refine t_l rfl ?_
 obtain ⟨r59z, hx58z, hM⟩ := M.e_bind hM
 refine s_call cf57 [v_b_Years] rfl (zcc b_Years (hC_b_Years.app _) hs_b_Years hx58z _ (St.give (T := [cBlk b_4 [.slice none 0 0, .slice none 0 0, I 0, I 0] 26, cBlk b_2 [.slice none 0 0, .slice none 0 0, I 0, I 0] 26, cBlk b_1 [v_b_Years, v_b_Olds, I b_First, I b_Last] 26]) H rfl)) ?_
 rintro vq w60z ⟨r2, u0_3, hr61z, hvq, H2_⟩
 subst hr61z
 subst vq
 try dsimp only at hM
 replace H : St w w60z [cOwn (α := Yr) 41 u0_3 r2, cBlk b_4 [.slice none 0 0, .slice none 0 0, I 0, I 0] 26, cBlk b_2 [.slice none 0 0, .slice none 0 0, I 0, I 0] 26, cBlk b_1 [v_b_Years, v_b_Olds, I b_First, I b_Last] 26] R := H.back H2_ rfl
 clear H2_
 have hvc_q62z := Sl.cells (ownSl (H.get (k := 0) rfl))
 have hvo_q62z := Sl.oc (ownSl (H.get (k := 0) rfl))
 refine s_nil ⟨(H.pick [2, 3] (by decide) rfl), ?_⟩
 refine t_q rfl (fun w' H => x_bld (ps := [(2, I b_First), (3, I b_Last), (0, u0_3)]) (zs := [.slice none 0 0, .slice none 0 0, I 0, I 0]) (L' := [u0_3, .slice none 0 0, I b_First, I b_Last]) rfl Try.underlying26 Al26 rfl (Bd26 Try.underlying26) (.cons (cs := [I b_First]) rfl rfl rfl rfl rfl <| .cons (cs := [I b_Last]) rfl rfl rfl rfl rfl <| .cons (cs := [u0_3]) hvc_q62z rfl rfl rfl rfl <| .nil)) ?_
 refine t_l rfl ?_
 refine t_st (k := 1) (b := b_4) (off := 0) (cs := [.slice none 0 0, .slice none 0 0, I 0, I 0]) (vs := [u0_3, .slice none 0 0, I b_First, I b_Last]) (cs' := [u0_3, .slice none 0 0, I b_First, I b_Last]) (v := .agg #[u0_3, .slice none 0 0, I b_First, I b_Last]) (L' := [cOwn (α := Yr) 41 u0_3 r2, cBlk b_4 [u0_3, .slice none 0 0, I b_First, I b_Last] 26, cBlk b_2 [.slice none 0 0, .slice none 0 0, I 0, I 0] 26, cBlk b_1 [v_b_Years, v_b_Olds, I b_First, I b_Last] 26]) H rfl rfl rfl Sz26 rfl rfl rfl (by simp only [List.all_cons, List.all_nil, Bool.true_and, Bool.and_true, Sl.oc (ownSl (H.get (k := 0) rfl))]; try rfl) rfl rfl ?_
 intro w63z H
 refine s_nil ⟨(H.pick [2, 3] (by decide) rfl), ?_⟩
 refine t_nil ?_
 refine W.seq ?_
 refine W.seq ?_
 refine W.region rfl ?_
 refine s_val (x_as (v := I 0) rfl) ?_
 refine s_nil ?_
 refine W.block ?_
 obtain ⟨Bs_10, H⟩ := H.emptyE
 replace H : St w w63z [cDO 43 3 (.slice none 0 0) ([]) ([]), cRo Bs_10, cOwn (α := Yr) 41 u0_3 r2, cBlk b_4 [u0_3, .slice none 0 0, I b_First, I b_Last] 26, cBlk b_2 [.slice none 0 0, .slice none 0 0, I 0, I 0] 26, cBlk b_1 [v_b_Years, v_b_Olds, I b_First, I b_Last] 26] R := H.nilDo 43 3
 have hr64z : ([] : List (Raw 3)).length = ([] : List Old10).length := rfl
 obtain ⟨ex65z, hi66z, hk67z⟩ := M.e_bind hM
 obtain ⟨m0_, hi66z⟩ := M.e_iter hi66z
 refine W.loop (fun m σ W => ∃ (i : Nat) (l : List Old10) (v_l : Value) (rw_l : List (Raw 3)) (B_l : Base) (ρ : Env), σ = upds ρ [(1, .pointer (some ⟨b_1, 0, none⟩)), (2, .pointer (some ⟨b_2, 0, none⟩)), (3, .pointer (some ⟨b_4, 0, none⟩)), (4, I (i : Int))] /\ M.iterN (zaK b_Olds) m (i, l) = some ex65z /\ St w W [cDO 43 3 v_l rw_l l, cRo B_l, cOwn (α := Yr) 41 u0_3 r2, cBlk b_4 [u0_3, v_l, I b_First, I b_Last] 26, cBlk b_2 [.slice none 0 0, .slice none 0 0, I 0, I 0] 26, cBlk b_1 [v_b_Years, v_b_Olds, I b_First, I b_Last] 26] R /\ rw_l.length = l.length) ?_ ?_
 ·exact ⟨_, 0, [], (.slice none 0 0), [], Bs_10, _, upds_of _ _ ⟨rfl, rfl, rfl, rfl, trivial⟩, hi66z, H, hr64z⟩
 rintro m70z σ w68z ⟨i, l, v_l, rw_l, B_l, ρ, rfl, hI69z, H, hr_l⟩
 obtain ⟨m71z, lt72z, x73z, hM, hN74z⟩ := M.e_iterN hI69z
 simp only [zaK] at hM
 clear hI69z
 refine W.seq ?_
 refine W.seq ?_
 refine W.region rfl ?_
 refine s_val (x_mv (v := I (i : Int)) rfl) ?_
 refine s_val (x_fa (a := .pointer (some ⟨b_1, 0, none⟩)) (v := .pointer (some ⟨b_1, 1, none⟩)) rfl (fa_blk (o := 0) Fd26_1 Sz24)) ?_
 refine s_val (x_ld (p := .pointer (some ⟨b_1, 1, none⟩)) (v := v_b_Olds) rfl (ldb_sc Sc24 (H.blk (k := 5) rfl) rfl)) ?_
 have hl75z := (hs_b_Olds).len_le
 refine s_val (x_lenS T24.und rfl hs_b_Olds) ?_
 refine s_val (x_cmp (kd := .i64) (a := (i : Int)) (b := (b_Olds.length : Int)) (r := decide ((i : Int) < (b_Olds.length : Int))) rfl rfl rfl) ?_
 refine s_nil ?_
 refine W.cond (decide ((i : Int) < (b_Olds.length : Int))) rfl (fun c76z => ?_) (fun c76z => ?_)
 ·replace hM := M.e_t hM c76z
  simp only [decide_eq_true_eq, decide_eq_false_iff_not, beq_iff_eq, bne_iff_ne, beq_eq_false_iff_ne, bne_eq_false_iff_eq, ne_eq, Decidable.not_not] at c76z
  refine W.skip ?_
  refine W.seq ?_
  refine W.block ?_
  refine W.seq ?_
  refine W.region rfl ?_
  refine s_val (x_fa (a := .pointer (some ⟨b_1, 0, none⟩)) (v := .pointer (some ⟨b_1, 1, none⟩)) rfl (fa_blk (o := 0) Fd26_1 Sz24)) ?_
  refine s_val (x_ld (p := .pointer (some ⟨b_1, 1, none⟩)) (v := v_b_Olds) rfl (ldb_sc Sc24 (H.blk (k := 5) rfl) rfl)) ?_
  refine s_val (x_mv (v := I (i : Int)) rfl) ?_
  obtain ⟨sd77z, hM⟩ := M.e_grd hM
  simp only [Bool.and_eq_true, decide_eq_true_eq] at sd77z
  refine s_val (x_ix (a := v_b_Olds) (b := I (i : Int)) (v := vat v_b_Olds 4 (Int.toNat (i : Int))) rfl rfl (Sl.ix (α := Old10) T24.und T24.size hs_b_Olds (by omega) (by omega))) ?_
  obtain ⟨u78z, ha80z, hs79z⟩ := Old10_atA hs_b_Olds (i := (i : Int)) (by omega) (by omega)
  replace hs79z : Sl _ u78z (b_Olds.getD i default).passed := hs79z
  have hl_hs79z := hs79z.len_le
  refine s_val (x_ld (p := vat v_b_Olds 4 (Int.toNat (i : Int))) (v := .agg #[I ((b_Olds.getD i default).src), I ((b_Olds.getD i default).dst), I ((b_Olds.getD i default).stage), u78z]) rfl (ld_ag Ag43 Sz43 (At.mono ha80z (hC_b_Olds.at H)))) ?_
  refine t_alloc (cs := [I 0, I 0, I 0, .slice none 0 0]) H Al43 rfl ?_
  intro b_5 w81z H
  refine t_st (k := 0) (b := b_5) (off := 0) (cs := [I 0, I 0, I 0, .slice none 0 0]) (vs := [I ((b_Olds.getD i default).src), I ((b_Olds.getD i default).dst), I ((b_Olds.getD i default).stage), u78z]) (cs' := [I ((b_Olds.getD i default).src), I ((b_Olds.getD i default).dst), I ((b_Olds.getD i default).stage), u78z]) (v := .agg #[I ((b_Olds.getD i default).src), I ((b_Olds.getD i default).dst), I ((b_Olds.getD i default).stage), u78z]) (L' := [cBlk b_5 [I ((b_Olds.getD i default).src), I ((b_Olds.getD i default).dst), I ((b_Olds.getD i default).stage), u78z] 43, cDO 43 3 v_l rw_l l, cRo B_l, cOwn (α := Yr) 41 u0_3 r2, cBlk b_4 [u0_3, v_l, I b_First, I b_Last] 26, cBlk b_2 [.slice none 0 0, .slice none 0 0, I 0, I 0] 26, cBlk b_1 [v_b_Years, v_b_Olds, I b_First, I b_Last] 26]) H rfl rfl rfl Sz43 rfl rfl rfl (by simp only [List.all_cons, List.all_nil, Bool.true_and, Bool.and_true, Sl.oc hs79z]; try rfl) rfl rfl ?_
  intro w82z H
  refine s_nil ?_
  refine W.seq ?_
  refine W.region rfl ?_
  refine s_val (x_fa (a := .pointer (some ⟨b_5, 0, none⟩)) (v := .pointer (some ⟨b_5, 3, none⟩)) rfl (fa_blk (o := 0) Fd43_3 Sz27)) ?_
  refine s_val (x_ld (p := .pointer (some ⟨b_5, 3, none⟩)) (v := u78z) rfl (ldb_sc Sc27 (H.blk (k := 0) rfl) rfl)) ?_
  obtain ⟨r84z, hx83z, hM⟩ := M.e_bind hM
  refine s_call cf31 [u78z] rfl (zbP ((b_Olds.getD i default).passed) (hC_b_Olds.app _) hs79z hx83z _ (St.give (T := [cBlk b_5 [I ((b_Olds.getD i default).src), I ((b_Olds.getD i default).dst), I ((b_Olds.getD i default).stage), u78z] 43, cDO 43 3 v_l rw_l l, cRo B_l, cOwn (α := Yr) 41 u0_3 r2, cBlk b_4 [u0_3, v_l, I b_First, I b_Last] 26, cBlk b_2 [.slice none 0 0, .slice none 0 0, I 0, I 0] 26, cBlk b_1 [v_b_Years, v_b_Olds, I b_First, I b_Last] 26]) H rfl)) ?_
  rintro vq w85z ⟨r3, u0_6, hr86z, hvq, H2_⟩
  subst hr86z
  subst vq
  try dsimp only at hM
  replace H : St w w85z [cOwn (α := Int) 3 u0_6 r3, cBlk b_5 [I ((b_Olds.getD i default).src), I ((b_Olds.getD i default).dst), I ((b_Olds.getD i default).stage), u78z] 43, cDO 43 3 v_l rw_l l, cRo B_l, cOwn (α := Yr) 41 u0_3 r2, cBlk b_4 [u0_3, v_l, I b_First, I b_Last] 26, cBlk b_2 [.slice none 0 0, .slice none 0 0, I 0, I 0] 26, cBlk b_1 [v_b_Years, v_b_Olds, I b_First, I b_Last] 26] R := H.back H2_ rfl
  clear H2_
  refine s_val (x_fa (a := .pointer (some ⟨b_5, 0, none⟩)) (v := .pointer (some ⟨b_5, 3, none⟩)) rfl (fa_blk (o := 0) Fd43_3 Sz27)) ?_
  refine t_st (k := 1) (b := b_5) (off := 3) (cs := [I ((b_Olds.getD i default).src), I ((b_Olds.getD i default).dst), I ((b_Olds.getD i default).stage), u78z]) (vs := [u0_6]) (cs' := [I ((b_Olds.getD i default).src), I ((b_Olds.getD i default).dst), I ((b_Olds.getD i default).stage), u0_6]) (v := u0_6) (L' := [cOwn (α := Int) 3 u0_6 r3, cBlk b_5 [I ((b_Olds.getD i default).src), I ((b_Olds.getD i default).dst), I ((b_Olds.getD i default).stage), u0_6] 43, cDO 43 3 v_l rw_l l, cRo B_l, cOwn (α := Yr) 41 u0_3 r2, cBlk b_4 [u0_3, v_l, I b_First, I b_Last] 26, cBlk b_2 [.slice none 0 0, .slice none 0 0, I 0, I 0] 26, cBlk b_1 [v_b_Years, v_b_Olds, I b_First, I b_Last] 26]) H rfl rfl rfl Sz27 (Sl.cells (ownSl (H.get (k := 0) rfl))) rfl rfl (by simp only [List.all_cons, List.all_nil, Bool.true_and, Bool.and_true, Sl.oc (ownSl (H.get (k := 0) rfl))]; try rfl) rfl rfl ?_
  intro w87z H
  refine s_nil ?_
  refine W.region rfl ?_
  refine s_val (x_fa (a := .pointer (some ⟨b_4, 0, none⟩)) (v := .pointer (some ⟨b_4, 1, none⟩)) rfl (fa_blk (o := 0) Fd26_1 Sz24)) ?_
  refine s_val (x_ld (p := .pointer (some ⟨b_4, 1, none⟩)) (v := v_l) rfl (ldb_sc Sc24 (H.blk (k := 5) rfl) rfl)) ?_
  refine s_val (x_ld (p := .pointer (some ⟨b_5, 0, none⟩)) (v := .agg #[I ((b_Olds.getD i default).src), I ((b_Olds.getD i default).dst), I ((b_Olds.getD i default).stage), u0_6]) rfl (ldb_ag (ds := [I ((b_Olds.getD i default).src), I ((b_Olds.getD i default).dst), I ((b_Olds.getD i default).stage), u0_6]) Ag43 Sz43 (H.blk (k := 1) rfl) rfl rfl)) ?_
  obtain ⟨rw88z, hrw_rw88z⟩ : ∃ r : Raw 3, r.cs = [I ((b_Olds.getD i default).src), I ((b_Olds.getD i default).dst), I ((b_Olds.getD i default).stage), u0_6] := ⟨Raw.of [I ((b_Olds.getD i default).src), I ((b_Olds.getD i default).dst), I ((b_Olds.getD i default).stage), u0_6] rfl (by simp only [List.all_cons, List.all_nil, Bool.true_and, Bool.and_true, Sl.oc (ownSl (H.get (k := 0) rfl))]; try rfl), rfl⟩
  refine t_bs (α := Raw 3) T24 [.agg #[I ((b_Olds.getD i default).src), I ((b_Olds.getD i default).dst), I ((b_Olds.getD i default).stage), u0_6]] [rw88z] H rfl (.cons (by rw [show (Flat.enc rw88z : List Value) = rw88z.cs from rfl, hrw_rw88z]; rfl) (Flat.rep_enc _ _) <| .nil) rfl rfl rfl ?_
  intro v89z w90z H
  replace H : St w w90z [cOwn (α := Raw 3) 43 v89z ([rw88z]), cOwn (α := Int) 3 u0_6 r3, cBlk b_5 [I ((b_Olds.getD i default).src), I ((b_Olds.getD i default).dst), I ((b_Olds.getD i default).stage), u0_6] 43, cDO 43 3 v_l rw_l l, cRo B_l, cOwn (α := Yr) 41 u0_3 r2, cBlk b_4 [u0_3, v_l, I b_First, I b_Last] 26, cBlk b_2 [.slice none 0 0, .slice none 0 0, I 0, I 0] 26, cBlk b_1 [v_b_Years, v_b_Olds, I b_First, I b_Last] 26] R := H
  obtain ⟨sd91z, hM⟩ := M.e_grd hM
  simp only [Bool.and_eq_true, decide_eq_true_eq] at sd91z
  replace H : St w w90z [cDO 43 3 v_l rw_l l, cOwn (α := Int) 3 u0_6 r3, cOwn (α := Raw 3) 43 v89z ([rw88z]), cBlk b_5 [I ((b_Olds.getD i default).src), I ((b_Olds.getD i default).dst), I ((b_Olds.getD i default).stage), u0_6] 43, cRo B_l, cOwn (α := Yr) 41 u0_3 r2, cBlk b_4 [u0_3, v_l, I b_First, I b_Last] 26, cBlk b_2 [.slice none 0 0, .slice none 0 0, I 0, I 0] 26, cBlk b_1 [v_b_Years, v_b_Olds, I b_First, I b_Last] 26] R := H.pick [3, 1, 0, 2, 4, 5, 6, 7, 8] (by decide) rfl
  refine t_doapp (dl := l) (o := (⟨((b_Olds.getD i default).src : Int), ((b_Olds.getD i default).dst : Int), ((b_Olds.getD i default).stage : Int), r3⟩ : Old10)) (sv := rw88z) (rv := u0_6) T24 rfl H hrw_rw88z rfl rfl (ownSl (H.get (k := 2) rfl)) (ownLe _ (H.get (k := 2) rfl)) (by (try simp only [List.length_nil, List.length_cons] at *); omega) ?_
  intro v92z w93z H
  replace H : St w w93z [cDO 43 3 v92z (rw_l ++ [rw88z]) (l ++ [(⟨((b_Olds.getD i default).src : Int), ((b_Olds.getD i default).dst : Int), ((b_Olds.getD i default).stage : Int), r3⟩ : Old10)]), cOwn (α := Raw 3) 43 v89z ([rw88z]), cBlk b_5 [I ((b_Olds.getD i default).src), I ((b_Olds.getD i default).dst), I ((b_Olds.getD i default).stage), u0_6] 43, cRo B_l, cOwn (α := Yr) 41 u0_3 r2, cBlk b_4 [u0_3, v_l, I b_First, I b_Last] 26, cBlk b_2 [.slice none 0 0, .slice none 0 0, I 0, I 0] 26, cBlk b_1 [v_b_Years, v_b_Olds, I b_First, I b_Last] 26] R := H
  have hr94z := doLen (H.get (k := 0) rfl)
  refine s_val (x_fa (a := .pointer (some ⟨b_4, 0, none⟩)) (v := .pointer (some ⟨b_4, 1, none⟩)) rfl (fa_blk (o := 0) Fd26_1 Sz24)) ?_
  refine t_st (k := 5) (b := b_4) (off := 1) (cs := [u0_3, v_l, I b_First, I b_Last]) (vs := [v92z]) (cs' := [u0_3, v92z, I b_First, I b_Last]) (v := v92z) (L' := [cDO 43 3 v92z (rw_l ++ [rw88z]) (l ++ [(⟨((b_Olds.getD i default).src : Int), ((b_Olds.getD i default).dst : Int), ((b_Olds.getD i default).stage : Int), r3⟩ : Old10)]), cOwn (α := Raw 3) 43 v89z ([rw88z]), cBlk b_5 [I ((b_Olds.getD i default).src), I ((b_Olds.getD i default).dst), I ((b_Olds.getD i default).stage), u0_6] 43, cRo B_l, cOwn (α := Yr) 41 u0_3 r2, cBlk b_4 [u0_3, v92z, I b_First, I b_Last] 26, cBlk b_2 [.slice none 0 0, .slice none 0 0, I 0, I 0] 26, cBlk b_1 [v_b_Years, v_b_Olds, I b_First, I b_Last] 26]) H rfl rfl rfl Sz24 (Sl.cells (deSl (H.get (k := 0) rfl))) rfl rfl (by simp only [List.all_cons, List.all_nil, Bool.true_and, Bool.and_true, Sl.oc (deSl (H.get (k := 0) rfl))]; try rfl) rfl rfl ?_
  intro w95z H
  refine s_nil ?_
  refine W.region rfl ?_
  refine s_val (x_mv (v := I (i : Int)) rfl) ?_
  refine s_val (x_ari (a := (i : Int)) (b := 1) (r := (i : Int) + 1) rfl rfl rfl (by omega)) ?_
  refine s_val (x_as (v := I ((i : Int) + 1)) rfl) ?_
  refine s_nil ?_
  exact ⟨m71z, lt72z, i + 1, l ++ [(⟨((b_Olds.getD i default).src : Int), ((b_Olds.getD i default).dst : Int), ((b_Olds.getD i default).stage : Int), r3⟩ : Old10)], v92z, rw_l ++ [rw88z], B_l, _, upds_of _ _ ⟨rfl, rfl, rfl, rfl, trivial⟩, M.e_inl hM hN74z, (H.pick [0, 3, 4, 5, 6, 7] (by decide) rfl), hr94z⟩
 replace hM := M.e_f hM c76z
 simp only [decide_eq_true_eq, decide_eq_false_iff_not, beq_iff_eq, bne_iff_ne, beq_eq_false_iff_ne, bne_eq_false_iff_eq, ne_eq, Decidable.not_not] at c76z
 refine W.exit ?_
 have hX96z := M.e_inr hM hN74z
 subst hX96z
 replace hM := hk67z
 try dsimp only at hM
 refine W.seq ?_
 refine W.region rfl ?_
 refine s_val (x_ld (p := .pointer (some ⟨b_4, 0, none⟩)) (v := .agg #[u0_3, v_l, I b_First, I b_Last]) rfl (ldb_ag (ds := [u0_3, v_l, I b_First, I b_Last]) Ag26 Sz26 (H.blk (k := 3) rfl) rfl rfl)) ?_
 refine t_st (k := 4) (b := b_2) (off := 0) (cs := [.slice none 0 0, .slice none 0 0, I 0, I 0]) (vs := [u0_3, v_l, I b_First, I b_Last]) (cs' := [u0_3, v_l, I b_First, I b_Last]) (v := .agg #[u0_3, v_l, I b_First, I b_Last]) (L' := [cDO 43 3 v_l rw_l l, cRo B_l, cOwn (α := Yr) 41 u0_3 r2, cBlk b_4 [u0_3, v_l, I b_First, I b_Last] 26, cBlk b_2 [u0_3, v_l, I b_First, I b_Last] 26, cBlk b_1 [v_b_Years, v_b_Olds, I b_First, I b_Last] 26]) H rfl rfl rfl Sz26 rfl rfl rfl (by simp only [List.all_cons, List.all_nil, Bool.true_and, Bool.and_true, Sl.oc (ownSl (H.get (k := 2) rfl)), Sl.oc (deSl (H.get (k := 0) rfl))]; try rfl) rfl rfl ?_
 intro w97z H
 refine s_nil ?_
 refine W.ret ?_
 have hb98z := (H.blk (k := 4) rfl)
 have hr_ := M.e_pure hM
 exact ⟨_, (resE_of1 (v := .agg #[u0_3, v_l, I b_First, I b_Last]) rfl (.cell (v := .agg #[u0_3, v_l, I b_First, I b_Last]) rfl (run_loadVar_ag (ds := [u0_3, v_l, I b_First, I b_Last]) Ag26 Sz26 hb98z rfl rfl) <| .nil)), ⟨r2, l, b_First, b_Last, u0_3, v_l, rw_l, B_l, hr_, rfl, (H.pick [2, 0, 1] (by decide) rfl), hr_l⟩⟩

end Go.Proofs.Ytcgalcbkkijkhaa
end
section
set_option maxRecDepth 100000
set_option maxHeartbeats 16000000
namespace Go.Proofs.Ytcgalcbkkijkhaa
open Go Go.Nm
def zaB (r6 : Int) : ((List Yr) × Nat) -> M (((List Yr) × Nat) ⊕ ((List Yr) × (List Yr))) := fun (l, i) =>
  bif decide ((i : Int) < (l.length : Int)) then (
  M.grd (decide ((i : Int) < (l.length : Int))) <|
  M.grd (decide ((-9223372036854775808 : Int) <= (((l.getD i default).year) + r6)) && decide ((((l.getD i default).year) + r6) <= (9223372036854775807 : Int))) <|
  M.pure (.inl (l.set i ({ (l.getD i default) with year := ((l.getD i default).year) + r6 }), i + 1)))
  else (
  M.pure (.inr (l, l)))
def zat (r6 : Int) (i2 : Nat) : ((List Old10) × Nat) -> M (((List Old10) × Nat) ⊕ ((List Old10) × (List Old10))) := fun (l4, k) =>
  M.grd (decide ((i2 : Int) < (l4.length : Int))) <|
  bif decide ((k : Int) < (((l4.getD i2 default).passed).length : Int)) then (
  M.grd (decide ((k : Int) < (((l4.getD i2 default).passed).length : Int))) <|
  M.grd (decide ((-9223372036854775808 : Int) <= ((((l4.getD i2 default).passed).getD k 0) + r6)) && decide (((((l4.getD i2 default).passed).getD k 0) + r6) <= (9223372036854775807 : Int))) <|
  M.pure (.inl (l4.set i2 { (l4.getD i2 default) with passed := (l4.getD i2 default).passed.set k ((((l4.getD i2 default).passed).getD k 0) + r6 : Int) }, k + 1)))
  else (
  M.pure (.inr (l4, l4)))
def zaW (r6 : Int) (l7 : List Old10) (i2 : Nat) : M (((List Old10) × Nat) ⊕ ((List Old10) × (List Old10))) :=
  M.bind (M.iter (zat r6 i2) ((l7.set i2 ({ (l7.getD i2 default) with src := ((l7.getD i2 default).src) + r6 })).set i2 ({ ((l7.set i2 ({ (l7.getD i2 default) with src := ((l7.getD i2 default).src) + r6 })).getD i2 default) with dst := ((l7.getD i2 default).dst) + r6 }), 0)) fun (l5, l6) =>
  M.pure (.inl (l6, i2 + 1))
def zau (r6 : Int) : ((List Old10) × Nat) -> M (((List Old10) × Nat) ⊕ ((List Old10) × (List Old10))) := fun (l7, i2) =>
  bif decide ((i2 : Int) < (l7.length : Int)) then (
  M.grd (decide ((i2 : Int) < (l7.length : Int))) <|
  M.grd (decide ((-9223372036854775808 : Int) <= (((l7.getD i2 default).src) + r6)) && decide ((((l7.getD i2 default).src) + r6) <= (9223372036854775807 : Int))) <|
  M.grd (decide ((-9223372036854775808 : Int) <= (((l7.getD i2 default).dst) + r6)) && decide ((((l7.getD i2 default).dst) + r6) <= (9223372036854775807 : Int))) <|
  M.grd (decide ((i2 : Int) < ((l7.set i2 ({ (l7.getD i2 default) with src := ((l7.getD i2 default).src) + r6 })).length : Int))) <|
  zaW r6 l7 i2)
  else (
  M.pure (.inr (l7, l7)))
def zaS (order : List UInt8) : (Int × Int × (List Old10) × Int) -> M ((Int × Int × (List Old10) × Int) ⊕ ((List Old10) × (List Old10) × Int × Int)) := fun (s3, s4, l10, i3) =>
  bif decide (0 < i3) then (
  M.grd (decide ((-9223372036854775808 : Int) <= (i3 + 1)) && decide ((i3 + 1) <= (9223372036854775807 : Int))) <|
  M.bind (zad order s3 s4 (i3 + 1)) fun (r8, q13, q23) =>
  M.grd (decide ((0 : Int) <= r8) && decide (r8 < (l10.length : Int))) <|
  M.grd (decide ((0 : Int) <= i3) && decide (i3 < (l10.length : Int))) <|
  M.grd (decide ((-9223372036854775808 : Int) <= (i3 - 1)) && decide ((i3 - 1) <= (9223372036854775807 : Int))) <|
  M.pure (.inl (q13, q23, (l10.set (Int.toNat i3) (l10.getD (Int.toNat r8) default)).set (Int.toNat r8) (l10.getD (Int.toNat i3) default), i3 - 1)))
  else (
  M.pure (.inr (l10, l10, s3, s4)))
def zaq (order : List UInt8) (r00 : List Yr) (r01 : List Old10) (r02 : Int) (r03 : Int) (r3 : Int) (r4 : Int) (r5 : Int) (r6 : Int) (q12 : Int) (q22 : Int) (r002 : Int) (r012 : Int) (s : Int) (s2 : Int) : M Bool :=
  bif !(decide ((⟨(s : Int), (s2 : Int)⟩ : Span) = (⟨(r002 : Int), (r012 : Int)⟩ : Span))) then (
  M.pure false)
  else (
  M.bind (zbk r00 r01 r02 r03) fun (r0, r17, r23, r32) =>
  M.grd (decide ((-9223372036854775808 : Int) <= (r02 + r6)) && decide ((r02 + r6) <= (9223372036854775807 : Int))) <|
  M.grd (decide ((-9223372036854775808 : Int) <= (r03 + r6)) && decide ((r03 + r6) <= (9223372036854775807 : Int))) <|
  M.bind (M.iter (zaB r6) (r0, 0)) fun (l2, l3) =>
  M.bind (M.iter (zau r6) (r17, 0)) fun (l8, l9) =>
  M.bind (M.iter (zaS order) (q12, q22, l9, (l9.length : Int) - 1)) fun (l11, l12, s5, s6) =>
  M.grd (decide ((-9223372036854775808 : Int) <= ((r02 + r3) + r6)) && decide (((r02 + r3) + r6) <= (9223372036854775807 : Int))) <|
  M.grd (decide ((-9223372036854775808 : Int) <= (((r02 + r3) + r4) + r6)) && decide ((((r02 + r3) + r4) + r6) <= (9223372036854775807 : Int))) <|
  M.bind (zae l3 l12 (r02 + r6) (r03 + r6) ((r02 + r3) + r6) (((r02 + r3) + r4) + r6) r5) fun (r005, r015, r18) =>
  M.bind (zai r00 r01 r02 r03 (r02 + r3) ((r02 + r3) + r4) 1) fun (r006, r016, r19) =>
  M.bind (zai l3 l12 (r02 + r6) (r03 + r6) ((r02 + r3) + r6) (((r02 + r3) + r4) + r6) 1) fun (r007, r017, r110) =>
  M.bind (M.opt (((((r18 == 0) && (r19 == 0)) && (r110 == 0)) && (decide ((⟨(r005 : Int), (r015 : Int)⟩ : Span) = (⟨(r002 : Int), (r012 : Int)⟩ : Span)))) && (decide ((⟨(r006 : Int), (r016 : Int)⟩ : Span) = (⟨(r007 : Int), (r017 : Int)⟩ : Span)))) (zbt) false) fun r9 =>
  M.pure ((((((r18 == 0) && (r19 == 0)) && (r110 == 0)) && (decide ((⟨(r005 : Int), (r015 : Int)⟩ : Span) = (⟨(r002 : Int), (r012 : Int)⟩ : Span)))) && (decide ((⟨(r006 : Int), (r016 : Int)⟩ : Span) = (⟨(r007 : Int), (r017 : Int)⟩ : Span)))) && r9))
def zbJ (numbers : List UInt8) (order : List UInt8) (at_ : Int) (far : Int) (level : Int) (later : Int) : M Bool :=
  M.bind (za4 numbers) fun (r1, r2) =>
  M.bind (zaX numbers r1 r2 60) fun (r00, r01, r02, r03, r12, q1, q2) =>
  M.bind (za4 order) fun (r13, r22) =>
  M.bind (zan at_ (r12.length : Int)) fun r3 =>
  M.grd (decide ((-9223372036854775808 : Int) <= (r02 + r3)) && decide ((r02 + r3) <= (9223372036854775807 : Int))) <|
  M.grd (decide ((-9223372036854775808 : Int) <= (r03 - (r02 + r3))) && decide ((r03 - (r02 + r3)) <= (9223372036854775807 : Int))) <|
  M.grd (decide ((-9223372036854775808 : Int) <= ((r03 - (r02 + r3)) + 1)) && decide (((r03 - (r02 + r3)) + 1) <= (9223372036854775807 : Int))) <|
  M.bind (zan far ((r03 - (r02 + r3)) + 1)) fun r4 =>
  M.grd (decide ((-9223372036854775808 : Int) <= ((r02 + r3) + r4)) && decide (((r02 + r3) + r4) <= (9223372036854775807 : Int))) <|
  M.bind (zan level 700) fun r5 =>
  M.bind (zan later 900) fun r6 =>
  M.grd (decide ((-9223372036854775808 : Int) <= (((r02 + r3) + r4) - (r02 + r3))) && decide ((((r02 + r3) + r4) - (r02 + r3)) <= (9223372036854775807 : Int))) <|
  M.grd (decide ((-9223372036854775808 : Int) <= ((((r02 + r3) + r4) - (r02 + r3)) + 1)) && decide (((((r02 + r3) + r4) - (r02 + r3)) + 1) <= (9223372036854775807 : Int))) <|
  M.bind (zad order r13 r22 ((((r02 + r3) + r4) - (r02 + r3)) + 1)) fun (r7, q12, q22) =>
  M.grd (decide ((-9223372036854775808 : Int) <= ((r02 + r3) + r7)) && decide (((r02 + r3) + r7) <= (9223372036854775807 : Int))) <|
  M.bind (zae r00 r01 r02 r03 (r02 + r3) ((r02 + r3) + r4) r5) fun (r002, r012, r14) =>
  M.bind (zae r00 r01 r02 r03 (r02 + r3) ((r02 + r3) + r7) r5) fun (r003, r013, r15) =>
  bif ((r14 != 0) || (r15 != 0)) then (
  M.pure false)
  else (
  bif decide (((r02 + r3) + r7) < ((r02 + r3) + r4)) then (
  M.grd (decide ((-9223372036854775808 : Int) <= (((r02 + r3) + r7) + 1)) && decide ((((r02 + r3) + r7) + 1) <= (9223372036854775807 : Int))) <|
  M.bind (zae r00 r01 r02 r03 (((r02 + r3) + r7) + 1) ((r02 + r3) + r4) r5) fun (r004, r014, r16) =>
  bif r16 != 0 then (
  M.pure false)
  else (
  M.grd (decide ((-9223372036854775808 : Int) <= (r003 + r004)) && decide ((r003 + r004) <= (9223372036854775807 : Int))) <|
  M.grd (decide ((-9223372036854775808 : Int) <= (r013 + r014)) && decide ((r013 + r014) <= (9223372036854775807 : Int))) <|
  zaq order r00 r01 r02 r03 r3 r4 r5 r6 q12 q22 r002 r012 (r003 + r004) (r013 + r014)))
  else (
  zaq order r00 r01 r02 r03 r3 r4 r5 r6 q12 q22 r002 r012 r003 r013))
theorem zcz {R : List Chunk} {C_numbers : Cells} {v_numbers : Value} {C_order : Cells} {v_order : Value} (numbers : List UInt8) (order : List UInt8) (at_ : Int) (far : Int) (level : Int) (later : Int) (hC_numbers : Reads R C_numbers) (hs_numbers : Sl C_numbers v_numbers numbers) (hC_order : Reads R C_order) (hs_order : Sl C_order v_order order) {r : Bool} (hM : (zbJ numbers order at_ far level later).Ends r) (w : World) (H : St w w [] R) : Ret Try.prog 3 #[v_numbers, v_order, I at_, I far, I level, I later] w fun v w' => ∃ (y0 : Bool), y0 = r /\ v = B y0 /\ St w w' [] R := by
 refine ret_of_W Try.func3 rfl rfl rfl ?_
 refine W.seq ?_
 refine W.region rfl ?_
 refine s_val (x_as (v := B false) rfl) ?_
 refine s_nil ?_
 refine W.seq ?_
 refine W.region rfl ?_
 refine s_val (x_mv (v := v_numbers) rfl) ?_
 obtain ⟨r2z, hx1z, hM⟩ := M.e_bind hM
 refine s_call cf12 [v_numbers] rfl (zb4 numbers (hC_numbers.app _) hs_numbers hx1z _ (St.give (T := []) H rfl)) ?_
 rintro vq w3z ⟨r1, r2, nb0_1, hr4z, hvq, H2_⟩
 subst hr4z
 subst vq
 try dsimp only at hM
 replace H : St w w3z [cBlk nb0_1 [v_numbers, I r1, I r2] 101] R := H.back H2_ rfl
 clear H2_
 obtain ⟨r6z, hx5z, hM⟩ := M.e_bind hM
 refine s_call cf11 [.pointer (some ⟨nb0_1, 0, none⟩), I 60] rfl (zcA numbers r1 r2 60 (hC_numbers.app _) hs_numbers hx5z _ (St.give (T := []) H rfl)) ?_
 rintro vq w7z ⟨r00, r01, r02, r03, r12, q1, q2, u0_2, u1_3, rr2_4, Bs3_5, u4_6, hr8z, hvq, H2_, hf9z⟩
 subst hr8z
 subst vq
 try dsimp only at hM
 replace H : St w w7z [cOwn (α := Yr) 41 u0_2 r00, cOwn (α := Raw 3) 43 u1_3 rr2_4, cRo Bs3_5, cOwn (α := Int) 3 u4_6 r12, cBlk nb0_1 [v_numbers, I q1, I q2] 101] R := H.back H2_ rfl
 clear H2_
 refine s_val (x_mv (v := .tuple #[.agg #[u0_2, u1_3, I r02, I r03], u4_6]) rfl) ?_
 refine s_val (x_ext (vs := [.agg #[u0_2, u1_3, I r02, I r03], u4_6]) (v := .agg #[u0_2, u1_3, I r02, I r03]) rfl rfl) ?_
 refine s_val (x_ext (vs := [.agg #[u0_2, u1_3, I r02, I r03], u4_6]) (v := u4_6) rfl rfl) ?_
 refine t_alloc (cs := [.slice none 0 0, .slice none 0 0, I 0, I 0]) H Al26 rfl ?_
 intro b_7 w10z H
 refine t_st (k := 0) (b := b_7) (off := 0) (cs := [.slice none 0 0, .slice none 0 0, I 0, I 0]) (vs := [u0_2, u1_3, I r02, I r03]) (cs' := [u0_2, u1_3, I r02, I r03]) (v := .agg #[u0_2, u1_3, I r02, I r03]) (L' := [cBlk b_7 [u0_2, u1_3, I r02, I r03] 26, cOwn (α := Yr) 41 u0_2 r00, cOwn (α := Raw 3) 43 u1_3 rr2_4, cRo Bs3_5, cOwn (α := Int) 3 u4_6 r12, cBlk nb0_1 [v_numbers, I q1, I q2] 101]) H rfl rfl rfl Sz26 rfl rfl rfl (by simp only [List.all_cons, List.all_nil, Bool.true_and, Bool.and_true, Sl.oc (ownSl (H.get (k := 1) rfl)), Sl.oc (rowSl rfl (H.get (k := 2) rfl) (roLe _ (H.get (k := 3) rfl)) hf9z)]; try rfl) rfl rfl ?_
 intro w11z H
 refine s_val (x_as (v := u4_6) rfl) ?_
 refine s_nil ?_
 refine W.seq ?_
 refine W.region rfl ?_
 refine s_val (x_mv (v := v_order) rfl) ?_
 obtain ⟨r13z, hx12z, hM⟩ := M.e_bind hM
 refine s_call cf12 [v_order] rfl (zb4 order (hC_order.app _) hs_order hx12z _ (St.give (T := [cBlk b_7 [u0_2, u1_3, I r02, I r03] 26, cOwn (α := Yr) 41 u0_2 r00, cOwn (α := Raw 3) 43 u1_3 rr2_4, cRo Bs3_5, cOwn (α := Int) 3 u4_6 r12, cBlk nb0_1 [v_numbers, I q1, I q2] 101]) H rfl)) ?_
 rintro vq w14z ⟨r13, r22, nb0_8, hr15z, hvq, H2_⟩
 subst hr15z
 subst vq
 try dsimp only at hM
 replace H : St w w14z [cBlk nb0_8 [v_order, I r13, I r22] 101, cBlk b_7 [u0_2, u1_3, I r02, I r03] 26, cOwn (α := Yr) 41 u0_2 r00, cOwn (α := Raw 3) 43 u1_3 rr2_4, cRo Bs3_5, cOwn (α := Int) 3 u4_6 r12, cBlk nb0_1 [v_numbers, I q1, I q2] 101] R := H.back H2_ rfl
 clear H2_
 refine s_val (x_as (v := .pointer (some ⟨nb0_8, 0, none⟩)) rfl) ?_
 refine s_nil ?_
 refine W.seq ?_
 refine W.draw (fun W => St w W [cBlk nb0_8 [v_order, I r13, I r22] 101, cBlk b_7 [u0_2, u1_3, I r02, I r03] 26, cOwn (α := Yr) 41 u0_2 r00, cOwn (α := Raw 3) 43 u1_3 rr2_4, cRo Bs3_5, cOwn (α := Int) 3 u4_6 r12, cBlk nb0_1 [v_numbers, I q1, I q2] 101] R) [(0, true), (1, true), (2, true), (3, true), (4, true), (5, false), (6, true), (7, true)] mixed (by decide +kernel) rfl ?_
 intro w16z hx_
 replace H : St w w16z [cBlk nb0_8 [v_order, I r13, I r22] 101, cBlk b_7 [u0_2, u1_3, I r02, I r03] 26, cOwn (α := Yr) 41 u0_2 r00, cOwn (α := Raw 3) 43 u1_3 rr2_4, cRo Bs3_5, cOwn (α := Int) 3 u4_6 r12, cBlk nb0_1 [v_numbers, I q1, I q2] 101] R := H.ext hx_
 clear hx_
 refine ⟨(H.pick [0, 1, 2, 3, 4, 5, 6] (by decide) rfl), ?_⟩
 refine d_q rfl (fun w' H => x_fa (a := .pointer (some ⟨b_7, 0, none⟩)) (v := .pointer (some ⟨b_7, 2, none⟩)) rfl (fa_blk (o := 0) Fd26_2 Sz3)) ?_
 refine d_q rfl (fun w' H => x_ld (p := .pointer (some ⟨b_7, 2, none⟩)) (v := I r02) rfl (ldb_sc Sc3 (H.blk (k := 1) rfl) rfl)) ?_
 refine d_q rfl (fun w' H => x_mv (v := I at_) rfl) ?_
 refine d_q rfl (fun w' H => x_mv (v := u4_6) rfl) ?_
 have hl17z := ((ownSl (H.get (k := 5) rfl))).len_le
 refine d_q rfl (fun w' H => x_lenS T27.und rfl (ownSl (H.get (k := 5) rfl))) ?_
 refine d_l rfl ?_
 obtain ⟨r19z, hx18z, hM⟩ := M.e_bind hM
 refine s_call cf13 [I at_, I (r12.length : Int)] rfl (zaT at_ (r12.length : Int) hx18z _ (St.give (T := [cBlk nb0_8 [v_order, I r13, I r22] 101, cBlk b_7 [u0_2, u1_3, I r02, I r03] 26, cOwn (α := Yr) 41 u0_2 r00, cOwn (α := Raw 3) 43 u1_3 rr2_4, cRo Bs3_5, cOwn (α := Int) 3 u4_6 r12, cBlk nb0_1 [v_numbers, I q1, I q2] 101]) H rfl)) ?_
 rintro vq w20z ⟨r3, hr21z, hvq, H2_⟩
 subst hr21z
 subst vq
 try dsimp only at hM
 replace H : St w w20z [cBlk nb0_8 [v_order, I r13, I r22] 101, cBlk b_7 [u0_2, u1_3, I r02, I r03] 26, cOwn (α := Yr) 41 u0_2 r00, cOwn (α := Raw 3) 43 u1_3 rr2_4, cRo Bs3_5, cOwn (α := Int) 3 u4_6 r12, cBlk nb0_1 [v_numbers, I q1, I q2] 101] R := H.back H2_ rfl
 clear H2_
 refine s_nil ⟨(H.pick [0, 1, 2, 3, 4, 5, 6] (by decide) rfl), ?_⟩
 obtain ⟨sd22z, hM⟩ := M.e_grd hM
 simp only [Bool.and_eq_true, decide_eq_true_eq] at sd22z
 refine d_q rfl (fun w' H => x_ari (a := r02) (b := r3) (r := r02 + r3) rfl rfl rfl (by omega)) ?_
 refine d_q rfl (fun w' H => x_as (v := I (r02 + r3)) rfl) ?_
 refine d_nil ?_
 refine W.seq ?_
 refine W.region rfl ?_
 refine s_val (x_mv (v := I (r02 + r3)) rfl) ?_
 refine s_val (x_mv (v := I far) rfl) ?_
 refine s_val (x_fa (a := .pointer (some ⟨b_7, 0, none⟩)) (v := .pointer (some ⟨b_7, 3, none⟩)) rfl (fa_blk (o := 0) Fd26_3 Sz3)) ?_
 refine s_val (x_ld (p := .pointer (some ⟨b_7, 3, none⟩)) (v := I r03) rfl (ldb_sc Sc3 (H.blk (k := 1) rfl) rfl)) ?_
 refine s_val (x_mv (v := I (r02 + r3)) rfl) ?_
 obtain ⟨sd23z, hM⟩ := M.e_grd hM
 simp only [Bool.and_eq_true, decide_eq_true_eq] at sd23z
 refine s_val (x_ari (a := r03) (b := r02 + r3) (r := r03 - (r02 + r3)) rfl rfl rfl (by omega)) ?_
 obtain ⟨sd24z, hM⟩ := M.e_grd hM
 simp only [Bool.and_eq_true, decide_eq_true_eq] at sd24z
 refine s_val (x_ari (a := r03 - (r02 + r3)) (b := 1) (r := (r03 - (r02 + r3)) + 1) rfl rfl rfl (by omega)) ?_
 obtain ⟨r26z, hx25z, hM⟩ := M.e_bind hM
 refine s_call cf13 [I far, I ((r03 - (r02 + r3)) + 1)] rfl (zaT far ((r03 - (r02 + r3)) + 1) hx25z _ (St.give (T := [cBlk nb0_8 [v_order, I r13, I r22] 101, cBlk b_7 [u0_2, u1_3, I r02, I r03] 26, cOwn (α := Yr) 41 u0_2 r00, cOwn (α := Raw 3) 43 u1_3 rr2_4, cRo Bs3_5, cOwn (α := Int) 3 u4_6 r12, cBlk nb0_1 [v_numbers, I q1, I q2] 101]) H rfl)) ?_
 rintro vq w27z ⟨r4, hr28z, hvq, H2_⟩
 subst hr28z
 subst vq
 try dsimp only at hM
 replace H : St w w27z [cBlk nb0_8 [v_order, I r13, I r22] 101, cBlk b_7 [u0_2, u1_3, I r02, I r03] 26, cOwn (α := Yr) 41 u0_2 r00, cOwn (α := Raw 3) 43 u1_3 rr2_4, cRo Bs3_5, cOwn (α := Int) 3 u4_6 r12, cBlk nb0_1 [v_numbers, I q1, I q2] 101] R := H.back H2_ rfl
 clear H2_
 obtain ⟨sd29z, hM⟩ := M.e_grd hM
 simp only [Bool.and_eq_true, decide_eq_true_eq] at sd29z
 refine s_val (x_ari (a := r02 + r3) (b := r4) (r := (r02 + r3) + r4) rfl rfl rfl (by omega)) ?_
 refine s_val (x_as (v := I ((r02 + r3) + r4)) rfl) ?_
 refine s_nil ?_
 refine W.seq ?_
 refine W.region rfl ?_
 refine s_val (x_mv (v := I level) rfl) ?_
 obtain ⟨r31z, hx30z, hM⟩ := M.e_bind hM
 refine s_call cf13 [I level, I 700] rfl (zaT level 700 hx30z _ (St.give (T := [cBlk nb0_8 [v_order, I r13, I r22] 101, cBlk b_7 [u0_2, u1_3, I r02, I r03] 26, cOwn (α := Yr) 41 u0_2 r00, cOwn (α := Raw 3) 43 u1_3 rr2_4, cRo Bs3_5, cOwn (α := Int) 3 u4_6 r12, cBlk nb0_1 [v_numbers, I q1, I q2] 101]) H rfl)) ?_
 rintro vq w32z ⟨r5, hr33z, hvq, H2_⟩
 subst hr33z
 subst vq
 try dsimp only at hM
 replace H : St w w32z [cBlk nb0_8 [v_order, I r13, I r22] 101, cBlk b_7 [u0_2, u1_3, I r02, I r03] 26, cOwn (α := Yr) 41 u0_2 r00, cOwn (α := Raw 3) 43 u1_3 rr2_4, cRo Bs3_5, cOwn (α := Int) 3 u4_6 r12, cBlk nb0_1 [v_numbers, I q1, I q2] 101] R := H.back H2_ rfl
 clear H2_
 refine s_val (x_mv (v := I later) rfl) ?_
 obtain ⟨r35z, hx34z, hM⟩ := M.e_bind hM
 refine s_call cf13 [I later, I 900] rfl (zaT later 900 hx34z _ (St.give (T := [cBlk nb0_8 [v_order, I r13, I r22] 101, cBlk b_7 [u0_2, u1_3, I r02, I r03] 26, cOwn (α := Yr) 41 u0_2 r00, cOwn (α := Raw 3) 43 u1_3 rr2_4, cRo Bs3_5, cOwn (α := Int) 3 u4_6 r12, cBlk nb0_1 [v_numbers, I q1, I q2] 101]) H rfl)) ?_
 rintro vq w36z ⟨r6, hr37z, hvq, H2_⟩
 subst hr37z
 subst vq
 try dsimp only at hM
 replace H : St w w36z [cBlk nb0_8 [v_order, I r13, I r22] 101, cBlk b_7 [u0_2, u1_3, I r02, I r03] 26, cOwn (α := Yr) 41 u0_2 r00, cOwn (α := Raw 3) 43 u1_3 rr2_4, cRo Bs3_5, cOwn (α := Int) 3 u4_6 r12, cBlk nb0_1 [v_numbers, I q1, I q2] 101] R := H.back H2_ rfl
 clear H2_
 refine s_val (x_as (v := I r5) rfl) ?_
 refine s_val (x_as (v := I r6) rfl) ?_
 refine s_nil ?_
 refine W.seq ?_
 refine W.region rfl ?_
 refine s_val (x_mv (v := I (r02 + r3)) rfl) ?_
 refine s_val (x_mv (v := .pointer (some ⟨nb0_8, 0, none⟩)) rfl) ?_
 refine s_val (x_mv (v := I ((r02 + r3) + r4)) rfl) ?_
 refine s_val (x_mv (v := I (r02 + r3)) rfl) ?_
 obtain ⟨sd38z, hM⟩ := M.e_grd hM
 simp only [Bool.and_eq_true, decide_eq_true_eq] at sd38z
 refine s_val (x_ari (a := (r02 + r3) + r4) (b := r02 + r3) (r := ((r02 + r3) + r4) - (r02 + r3)) rfl rfl rfl (by omega)) ?_
 obtain ⟨sd39z, hM⟩ := M.e_grd hM
 simp only [Bool.and_eq_true, decide_eq_true_eq] at sd39z
 refine s_val (x_ari (a := ((r02 + r3) + r4) - (r02 + r3)) (b := 1) (r := (((r02 + r3) + r4) - (r02 + r3)) + 1) rfl rfl rfl (by omega)) ?_
 obtain ⟨r41z, hx40z, hM⟩ := M.e_bind hM
 refine s_call cf14 [.pointer (some ⟨nb0_8, 0, none⟩), I ((((r02 + r3) + r4) - (r02 + r3)) + 1)] rfl (zaa order r13 r22 ((((r02 + r3) + r4) - (r02 + r3)) + 1) (hC_order.app _) hs_order hx40z _ (St.give (T := [cBlk b_7 [u0_2, u1_3, I r02, I r03] 26, cOwn (α := Yr) 41 u0_2 r00, cOwn (α := Raw 3) 43 u1_3 rr2_4, cRo Bs3_5, cOwn (α := Int) 3 u4_6 r12, cBlk nb0_1 [v_numbers, I q1, I q2] 101]) H rfl)) ?_
 rintro vq w42z ⟨r7, q12, q22, hr43z, hvq, H2_⟩
 subst hr43z
 subst vq
 try dsimp only at hM
 replace H : St w w42z [cBlk nb0_8 [v_order, I q12, I q22] 101, cBlk b_7 [u0_2, u1_3, I r02, I r03] 26, cOwn (α := Yr) 41 u0_2 r00, cOwn (α := Raw 3) 43 u1_3 rr2_4, cRo Bs3_5, cOwn (α := Int) 3 u4_6 r12, cBlk nb0_1 [v_numbers, I q1, I q2] 101] R := H.back H2_ rfl
 clear H2_
 obtain ⟨sd44z, hM⟩ := M.e_grd hM
 simp only [Bool.and_eq_true, decide_eq_true_eq] at sd44z
 refine s_val (x_ari (a := r02 + r3) (b := r7) (r := (r02 + r3) + r7) rfl rfl rfl (by omega)) ?_
 refine s_val (x_as (v := I ((r02 + r3) + r7)) rfl) ?_
 refine s_nil ?_
 refine W.seq ?_
 refine W.region rfl ?_
 refine s_val (x_ld (p := .pointer (some ⟨b_7, 0, none⟩)) (v := .agg #[u0_2, u1_3, I r02, I r03]) rfl (ldb_ag (ds := [u0_2, u1_3, I r02, I r03]) Ag26 Sz26 (H.blk (k := 1) rfl) rfl rfl)) ?_
 refine s_val (x_mv (v := I (r02 + r3)) rfl) ?_
 refine s_val (x_mv (v := I ((r02 + r3) + r4)) rfl) ?_
 refine s_val (x_mv (v := I r5) rfl) ?_
 obtain ⟨r46z, hx45z, hM⟩ := M.e_bind hM
 refine s_call cf15 [.agg #[u0_2, u1_3, I r02, I r03], I (r02 + r3), I ((r02 + r3) + r4), I r5] rfl (zao r00 r01 r02 r03 (r02 + r3) ((r02 + r3) + r4) r5 (Reads.of (k := 2) rfl ownLe) (ownSl (H.get (k := 2) rfl)) (Reads.sup (Reads.of (k := 3) rfl ownLe) (Reads.of (k := 4) rfl roLe)) (rowSl rfl (H.get (k := 3) rfl) (roLe _ (H.get (k := 4) rfl)) hf9z) hx45z _ (St.give (T := [cBlk nb0_8 [v_order, I q12, I q22] 101, cBlk b_7 [u0_2, u1_3, I r02, I r03] 26, cOwn (α := Yr) 41 u0_2 r00, cOwn (α := Raw 3) 43 u1_3 rr2_4, cRo Bs3_5, cOwn (α := Int) 3 u4_6 r12, cBlk nb0_1 [v_numbers, I q1, I q2] 101]) H rfl)) ?_
 rintro vq w47z ⟨r002, r012, r14, hr48z, hvq, H2_⟩
 subst hr48z
 subst vq
 try dsimp only at hM
 replace H : St w w47z [cBlk nb0_8 [v_order, I q12, I q22] 101, cBlk b_7 [u0_2, u1_3, I r02, I r03] 26, cOwn (α := Yr) 41 u0_2 r00, cOwn (α := Raw 3) 43 u1_3 rr2_4, cRo Bs3_5, cOwn (α := Int) 3 u4_6 r12, cBlk nb0_1 [v_numbers, I q1, I q2] 101] R := H.back H2_ rfl
 clear H2_
 refine s_val (x_mv (v := .tuple #[.agg #[I r002, I r012], I r14]) rfl) ?_
 refine s_val (x_ext (vs := [.agg #[I r002, I r012], I r14]) (v := .agg #[I r002, I r012]) rfl rfl) ?_
 refine s_val (x_ext (vs := [.agg #[I r002, I r012], I r14]) (v := I r14) rfl rfl) ?_
 refine t_alloc (cs := [I 0, I 0]) H Al35 rfl ?_
 intro b_9 w49z H
 refine t_st (k := 0) (b := b_9) (off := 0) (cs := [I 0, I 0]) (vs := [I r002, I r012]) (cs' := [I r002, I r012]) (v := .agg #[I r002, I r012]) (L' := [cBlk b_9 [I r002, I r012] 35, cBlk nb0_8 [v_order, I q12, I q22] 101, cBlk b_7 [u0_2, u1_3, I r02, I r03] 26, cOwn (α := Yr) 41 u0_2 r00, cOwn (α := Raw 3) 43 u1_3 rr2_4, cRo Bs3_5, cOwn (α := Int) 3 u4_6 r12, cBlk nb0_1 [v_numbers, I q1, I q2] 101]) H rfl rfl rfl Sz35 rfl rfl rfl rfl rfl rfl ?_
 intro w50z H
 refine s_val (x_as (v := I r14) rfl) ?_
 refine s_nil ?_
 refine W.seq ?_
 refine W.region rfl ?_
 refine s_val (x_ld (p := .pointer (some ⟨b_7, 0, none⟩)) (v := .agg #[u0_2, u1_3, I r02, I r03]) rfl (ldb_ag (ds := [u0_2, u1_3, I r02, I r03]) Ag26 Sz26 (H.blk (k := 2) rfl) rfl rfl)) ?_
 refine s_val (x_mv (v := I (r02 + r3)) rfl) ?_
 refine s_val (x_mv (v := I ((r02 + r3) + r7)) rfl) ?_
 refine s_val (x_mv (v := I r5) rfl) ?_
 obtain ⟨r52z, hx51z, hM⟩ := M.e_bind hM
 refine s_call cf15 [.agg #[u0_2, u1_3, I r02, I r03], I (r02 + r3), I ((r02 + r3) + r7), I r5] rfl (zao r00 r01 r02 r03 (r02 + r3) ((r02 + r3) + r7) r5 (Reads.of (k := 3) rfl ownLe) (ownSl (H.get (k := 3) rfl)) (Reads.sup (Reads.of (k := 4) rfl ownLe) (Reads.of (k := 5) rfl roLe)) (rowSl rfl (H.get (k := 4) rfl) (roLe _ (H.get (k := 5) rfl)) hf9z) hx51z _ (St.give (T := [cBlk b_9 [I r002, I r012] 35, cBlk nb0_8 [v_order, I q12, I q22] 101, cBlk b_7 [u0_2, u1_3, I r02, I r03] 26, cOwn (α := Yr) 41 u0_2 r00, cOwn (α := Raw 3) 43 u1_3 rr2_4, cRo Bs3_5, cOwn (α := Int) 3 u4_6 r12, cBlk nb0_1 [v_numbers, I q1, I q2] 101]) H rfl)) ?_
 rintro vq w53z ⟨r003, r013, r15, hr54z, hvq, H2_⟩
 subst hr54z
 subst vq
 try dsimp only at hM
 replace H : St w w53z [cBlk b_9 [I r002, I r012] 35, cBlk nb0_8 [v_order, I q12, I q22] 101, cBlk b_7 [u0_2, u1_3, I r02, I r03] 26, cOwn (α := Yr) 41 u0_2 r00, cOwn (α := Raw 3) 43 u1_3 rr2_4, cRo Bs3_5, cOwn (α := Int) 3 u4_6 r12, cBlk nb0_1 [v_numbers, I q1, I q2] 101] R := H.back H2_ rfl
 clear H2_
 refine s_val (x_mv (v := .tuple #[.agg #[I r003, I r013], I r15]) rfl) ?_
 refine s_val (x_ext (vs := [.agg #[I r003, I r013], I r15]) (v := .agg #[I r003, I r013]) rfl rfl) ?_
 refine s_val (x_ext (vs := [.agg #[I r003, I r013], I r15]) (v := I r15) rfl rfl) ?_
 refine t_alloc (cs := [I 0, I 0]) H Al35 rfl ?_
 intro b_10 w55z H
 refine t_st (k := 0) (b := b_10) (off := 0) (cs := [I 0, I 0]) (vs := [I r003, I r013]) (cs' := [I r003, I r013]) (v := .agg #[I r003, I r013]) (L' := [cBlk b_10 [I r003, I r013] 35, cBlk b_9 [I r002, I r012] 35, cBlk nb0_8 [v_order, I q12, I q22] 101, cBlk b_7 [u0_2, u1_3, I r02, I r03] 26, cOwn (α := Yr) 41 u0_2 r00, cOwn (α := Raw 3) 43 u1_3 rr2_4, cRo Bs3_5, cOwn (α := Int) 3 u4_6 r12, cBlk nb0_1 [v_numbers, I q1, I q2] 101]) H rfl rfl rfl Sz35 rfl rfl rfl rfl rfl rfl ?_
 intro w56z H
 refine s_val (x_as (v := I r15) rfl) ?_
 refine s_nil ?_
 refine W.seq ?_
 refine W.seq ?_
 refine W.region rfl ?_
 refine s_val (x_mv (v := I r14) rfl) ?_
 refine s_val (x_cmp (kd := .i64) (a := r14) (b := 0) (r := r14 != 0) rfl rfl rfl) ?_
 refine s_val (x_mv (v := B (r14 != 0)) rfl) ?_
 refine g_val (!(r14 != 0)) (gy_f rfl) (fun hg => x_mv (v := I r15) rfl) ?_
 refine g_val (!(r14 != 0)) (gy_f rfl) (fun hg => x_cmp (kd := .i64) (a := r15) (b := 0) (r := r15 != 0) (gd_of (c := !(r14 != 0)) hg (I r15)) rfl rfl) ?_
 refine s_val (x_por (b := r14 != 0) (r := r15 != 0) rfl rfl (fun hb => gd_of (c := !(r14 != 0)) (by first | exact hb | (rw [hb]; rfl) | simp_all) (B (r15 != 0)))) ?_
 refine s_nil ?_
 refine W.cond ((r14 != 0) || (r15 != 0)) rfl (fun c57z => ?_) (fun c57z => ?_)
 ·replace hM := M.e_t hM c57z
  refine W.seq ?_
  refine W.region rfl ?_
  refine s_val (x_as (v := B false) rfl) ?_
  refine s_nil ?_
  refine W.ret ?_
  have hr_ := M.e_pure hM
  exact ⟨_, resE_tmp rfl, ⟨false, hr_, rfl, (H.pick [] (by decide) rfl)⟩⟩
 replace hM := M.e_f hM c57z
 refine W.skip ?_
 refine W.seqJ (fun σ W => ∃ (s : Int) (s2 : Int) (ρ : Env), σ = upds ρ [(13, .pointer (some ⟨b_7, 0, none⟩)), (15, .pointer (some ⟨nb0_8, 0, none⟩)), (16, I (r02 + r3)), (17, I ((r02 + r3) + r4)), (18, I r5), (19, I r6), (21, .pointer (some ⟨b_9, 0, none⟩)), (23, .pointer (some ⟨b_10, 0, none⟩))] /\ (zaq order r00 r01 r02 r03 r3 r4 r5 r6 q12 q22 r002 r012 s s2).Ends r /\ St w W [cBlk b_10 [I s, I s2] 35, cBlk b_9 [I r002, I r012] 35, cBlk nb0_8 [v_order, I q12, I q22] 101, cBlk b_7 [u0_2, u1_3, I r02, I r03] 26, cOwn (α := Yr) 41 u0_2 r00, cOwn (α := Raw 3) 43 u1_3 rr2_4, cRo Bs3_5, cOwn (α := Int) 3 u4_6 r12, cBlk nb0_1 [v_numbers, I q1, I q2] 101] R) ?_ ?_
 ·skip
  refine W.seq ?_
  refine W.region rfl ?_
  refine s_val (x_mv (v := I ((r02 + r3) + r7)) rfl) ?_
  refine s_val (x_mv (v := I ((r02 + r3) + r4)) rfl) ?_
  refine s_val (x_cmp (kd := .i64) (a := (r02 + r3) + r7) (b := (r02 + r3) + r4) (r := decide (((r02 + r3) + r7) < ((r02 + r3) + r4))) rfl rfl rfl) ?_
  refine s_nil ?_
  refine W.cond (decide (((r02 + r3) + r7) < ((r02 + r3) + r4))) rfl (fun c58z => ?_) (fun c58z => ?_)
  ·replace hM := M.e_t hM c58z
   simp only [decide_eq_true_eq, decide_eq_false_iff_not, beq_iff_eq, bne_iff_ne, beq_eq_false_iff_ne, bne_eq_false_iff_eq, ne_eq, Decidable.not_not] at c58z
   refine W.seq ?_
   refine W.region rfl ?_
   refine s_val (x_ld (p := .pointer (some ⟨b_7, 0, none⟩)) (v := .agg #[u0_2, u1_3, I r02, I r03]) rfl (ldb_ag (ds := [u0_2, u1_3, I r02, I r03]) Ag26 Sz26 (H.blk (k := 3) rfl) rfl rfl)) ?_
   refine s_val (x_mv (v := I ((r02 + r3) + r7)) rfl) ?_
   obtain ⟨sd59z, hM⟩ := M.e_grd hM
   simp only [Bool.and_eq_true, decide_eq_true_eq] at sd59z
   refine s_val (x_ari (a := (r02 + r3) + r7) (b := 1) (r := ((r02 + r3) + r7) + 1) rfl rfl rfl (by omega)) ?_
   refine s_val (x_mv (v := I ((r02 + r3) + r4)) rfl) ?_
   refine s_val (x_mv (v := I r5) rfl) ?_
   obtain ⟨r61z, hx60z, hM⟩ := M.e_bind hM
   refine s_call cf15 [.agg #[u0_2, u1_3, I r02, I r03], I (((r02 + r3) + r7) + 1), I ((r02 + r3) + r4), I r5] rfl (zao r00 r01 r02 r03 (((r02 + r3) + r7) + 1) ((r02 + r3) + r4) r5 (Reads.of (k := 4) rfl ownLe) (ownSl (H.get (k := 4) rfl)) (Reads.sup (Reads.of (k := 5) rfl ownLe) (Reads.of (k := 6) rfl roLe)) (rowSl rfl (H.get (k := 5) rfl) (roLe _ (H.get (k := 6) rfl)) hf9z) hx60z _ (St.give (T := [cBlk b_10 [I r003, I r013] 35, cBlk b_9 [I r002, I r012] 35, cBlk nb0_8 [v_order, I q12, I q22] 101, cBlk b_7 [u0_2, u1_3, I r02, I r03] 26, cOwn (α := Yr) 41 u0_2 r00, cOwn (α := Raw 3) 43 u1_3 rr2_4, cRo Bs3_5, cOwn (α := Int) 3 u4_6 r12, cBlk nb0_1 [v_numbers, I q1, I q2] 101]) H rfl)) ?_
   rintro vq w62z ⟨r004, r014, r16, hr63z, hvq, H2_⟩
   subst hr63z
   subst vq
   try dsimp only at hM
   replace H : St w w62z [cBlk b_10 [I r003, I r013] 35, cBlk b_9 [I r002, I r012] 35, cBlk nb0_8 [v_order, I q12, I q22] 101, cBlk b_7 [u0_2, u1_3, I r02, I r03] 26, cOwn (α := Yr) 41 u0_2 r00, cOwn (α := Raw 3) 43 u1_3 rr2_4, cRo Bs3_5, cOwn (α := Int) 3 u4_6 r12, cBlk nb0_1 [v_numbers, I q1, I q2] 101] R := H.back H2_ rfl
   clear H2_
   refine s_val (x_mv (v := .tuple #[.agg #[I r004, I r014], I r16]) rfl) ?_
   refine s_val (x_ext (vs := [.agg #[I r004, I r014], I r16]) (v := .agg #[I r004, I r014]) rfl rfl) ?_
   refine s_val (x_ext (vs := [.agg #[I r004, I r014], I r16]) (v := I r16) rfl rfl) ?_
   refine t_alloc (cs := [I 0, I 0]) H Al35 rfl ?_
   intro b_11 w64z H
   refine t_st (k := 0) (b := b_11) (off := 0) (cs := [I 0, I 0]) (vs := [I r004, I r014]) (cs' := [I r004, I r014]) (v := .agg #[I r004, I r014]) (L' := [cBlk b_11 [I r004, I r014] 35, cBlk b_10 [I r003, I r013] 35, cBlk b_9 [I r002, I r012] 35, cBlk nb0_8 [v_order, I q12, I q22] 101, cBlk b_7 [u0_2, u1_3, I r02, I r03] 26, cOwn (α := Yr) 41 u0_2 r00, cOwn (α := Raw 3) 43 u1_3 rr2_4, cRo Bs3_5, cOwn (α := Int) 3 u4_6 r12, cBlk nb0_1 [v_numbers, I q1, I q2] 101]) H rfl rfl rfl Sz35 rfl rfl rfl rfl rfl rfl ?_
   intro w65z H
   refine s_val (x_as (v := I r16) rfl) ?_
   refine s_nil ?_
   refine W.seq ?_
   refine W.seq ?_
   refine W.region rfl ?_
   refine s_val (x_mv (v := I r16) rfl) ?_
   refine s_val (x_cmp (kd := .i64) (a := r16) (b := 0) (r := r16 != 0) rfl rfl rfl) ?_
   refine s_nil ?_
   refine W.cond (r16 != 0) rfl (fun c66z => ?_) (fun c66z => ?_)
   ·replace hM := M.e_t hM c66z
    simp only [decide_eq_true_eq, decide_eq_false_iff_not, beq_iff_eq, bne_iff_ne, beq_eq_false_iff_ne, bne_eq_false_iff_eq, ne_eq, Decidable.not_not] at c66z
    refine W.seq ?_
    refine W.region rfl ?_
    refine s_val (x_as (v := B false) rfl) ?_
    refine s_nil ?_
    refine W.ret ?_
    have hr_ := M.e_pure hM
    exact ⟨_, resE_tmp rfl, ⟨false, hr_, rfl, (H.pick [] (by decide) rfl)⟩⟩
   replace hM := M.e_f hM c66z
   simp only [decide_eq_true_eq, decide_eq_false_iff_not, beq_iff_eq, bne_iff_ne, beq_eq_false_iff_ne, bne_eq_false_iff_eq, ne_eq, Decidable.not_not] at c66z
   refine W.skip ?_
   refine W.region rfl ?_
   refine s_val (x_fa (a := .pointer (some ⟨b_10, 0, none⟩)) (v := .pointer (some ⟨b_10, 0, none⟩)) rfl (fa_blk (o := 0) Fd35_0 Sz3)) ?_
   refine s_val (x_ld (p := .pointer (some ⟨b_10, 0, none⟩)) (v := I r003) rfl (ldb_sc Sc3 (H.blk (k := 1) rfl) rfl)) ?_
   refine s_val (x_fa (a := .pointer (some ⟨b_11, 0, none⟩)) (v := .pointer (some ⟨b_11, 0, none⟩)) rfl (fa_blk (o := 0) Fd35_0 Sz3)) ?_
   refine s_val (x_ld (p := .pointer (some ⟨b_11, 0, none⟩)) (v := I r004) rfl (ldb_sc Sc3 (H.blk (k := 0) rfl) rfl)) ?_
   obtain ⟨sd67z, hM⟩ := M.e_grd hM
   simp only [Bool.and_eq_true, decide_eq_true_eq] at sd67z
   refine s_val (x_ari (a := r003) (b := r004) (r := r003 + r004) rfl rfl rfl (by omega)) ?_
   refine s_val (x_fa (a := .pointer (some ⟨b_10, 0, none⟩)) (v := .pointer (some ⟨b_10, 1, none⟩)) rfl (fa_blk (o := 0) Fd35_1 Sz3)) ?_
   refine s_val (x_ld (p := .pointer (some ⟨b_10, 1, none⟩)) (v := I r013) rfl (ldb_sc Sc3 (H.blk (k := 1) rfl) rfl)) ?_
   refine s_val (x_fa (a := .pointer (some ⟨b_11, 0, none⟩)) (v := .pointer (some ⟨b_11, 1, none⟩)) rfl (fa_blk (o := 0) Fd35_1 Sz3)) ?_
   refine s_val (x_ld (p := .pointer (some ⟨b_11, 1, none⟩)) (v := I r014) rfl (ldb_sc Sc3 (H.blk (k := 0) rfl) rfl)) ?_
   obtain ⟨sd68z, hM⟩ := M.e_grd hM
   simp only [Bool.and_eq_true, decide_eq_true_eq] at sd68z
   refine s_val (x_ari (a := r013) (b := r014) (r := r013 + r014) rfl rfl rfl (by omega)) ?_
   refine s_val (x_bld (ps := [(0, I (r003 + r004)), (1, I (r013 + r014))]) (zs := [I 0, I 0]) (L' := [I (r003 + r004), I (r013 + r014)]) rfl Try.underlying35 Al35 rfl (Bd35 Try.underlying35) (.cons (cs := [I (r003 + r004)]) rfl rfl rfl rfl rfl <| .cons (cs := [I (r013 + r014)]) rfl rfl rfl rfl rfl <| .nil)) ?_
   refine t_st (k := 1) (b := b_10) (off := 0) (cs := [I r003, I r013]) (vs := [I (r003 + r004), I (r013 + r014)]) (cs' := [I (r003 + r004), I (r013 + r014)]) (v := .agg #[I (r003 + r004), I (r013 + r014)]) (L' := [cBlk b_11 [I r004, I r014] 35, cBlk b_10 [I (r003 + r004), I (r013 + r014)] 35, cBlk b_9 [I r002, I r012] 35, cBlk nb0_8 [v_order, I q12, I q22] 101, cBlk b_7 [u0_2, u1_3, I r02, I r03] 26, cOwn (α := Yr) 41 u0_2 r00, cOwn (α := Raw 3) 43 u1_3 rr2_4, cRo Bs3_5, cOwn (α := Int) 3 u4_6 r12, cBlk nb0_1 [v_numbers, I q1, I q2] 101]) H rfl rfl rfl Sz35 rfl rfl rfl rfl rfl rfl ?_
   intro w69z H
   refine s_nil ?_
   exact ⟨r003 + r004, r013 + r014, _, upds_of _ _ ⟨rfl, rfl, rfl, rfl, rfl, rfl, rfl, rfl, trivial⟩, hM, (H.pick [1, 2, 3, 4, 5, 6, 7, 8, 9] (by decide) rfl)⟩
  replace hM := M.e_f hM c58z
  simp only [decide_eq_true_eq, decide_eq_false_iff_not, beq_iff_eq, bne_iff_ne, beq_eq_false_iff_ne, bne_eq_false_iff_eq, ne_eq, Decidable.not_not] at c58z
  refine W.skip ?_
  exact ⟨r003, r013, _, upds_of _ _ ⟨rfl, rfl, rfl, rfl, rfl, rfl, rfl, rfl, trivial⟩, hM, H⟩
 rintro _ w70z ⟨s, s2, ρ, rfl, hM, H⟩
 unfold zaq at hM
 refine W.seq ?_
 refine W.seq ?_
 refine W.region rfl ?_
 refine s_val (x_ld (p := .pointer (some ⟨b_10, 0, none⟩)) (v := .agg #[I s, I s2]) rfl (ldb_ag (ds := [I s, I s2]) Ag35 Sz35 (H.blk (k := 0) rfl) rfl rfl)) ?_
 refine s_val (x_ld (p := .pointer (some ⟨b_9, 0, none⟩)) (v := .agg #[I r002, I r012]) rfl (ldb_ag (ds := [I r002, I r012]) Ag35 Sz35 (H.blk (k := 1) rfl) rfl rfl)) ?_
 refine s_val (x_neS (eqT35 (⟨(s : Int), (s2 : Int)⟩ : Span) (⟨(r002 : Int), (r012 : Int)⟩ : Span) _) gdT35 rfl rfl) ?_
 refine s_nil ?_
 refine W.cond (!(decide ((⟨(s : Int), (s2 : Int)⟩ : Span) = (⟨(r002 : Int), (r012 : Int)⟩ : Span)))) rfl (fun c71z => ?_) (fun c71z => ?_)
 ·replace hM := M.e_t hM c71z
  refine W.seq ?_
  refine W.region rfl ?_
  refine s_val (x_as (v := B false) rfl) ?_
  refine s_nil ?_
  refine W.ret ?_
  have hr_ := M.e_pure hM
  exact ⟨_, resE_tmp rfl, ⟨false, hr_, rfl, (H.pick [] (by decide) rfl)⟩⟩
 replace hM := M.e_f hM c71z
 refine W.skip ?_
 refine W.seq ?_
 refine W.region rfl ?_
 refine s_val (x_ld (p := .pointer (some ⟨b_7, 0, none⟩)) (v := .agg #[u0_2, u1_3, I r02, I r03]) rfl (ldb_ag (ds := [u0_2, u1_3, I r02, I r03]) Ag26 Sz26 (H.blk (k := 3) rfl) rfl rfl)) ?_
 obtain ⟨r73z, hx72z, hM⟩ := M.e_bind hM
 refine s_call cf16 [.agg #[u0_2, u1_3, I r02, I r03]] rfl (zcx r00 r01 r02 r03 (Reads.of (k := 4) rfl ownLe) (ownSl (H.get (k := 4) rfl)) (Reads.sup (Reads.of (k := 5) rfl ownLe) (Reads.of (k := 6) rfl roLe)) (rowSl rfl (H.get (k := 5) rfl) (roLe _ (H.get (k := 6) rfl)) hf9z) hx72z _ (St.give (T := [cBlk b_10 [I s, I s2] 35, cBlk b_9 [I r002, I r012] 35, cBlk nb0_8 [v_order, I q12, I q22] 101, cBlk b_7 [u0_2, u1_3, I r02, I r03] 26, cOwn (α := Yr) 41 u0_2 r00, cOwn (α := Raw 3) 43 u1_3 rr2_4, cRo Bs3_5, cOwn (α := Int) 3 u4_6 r12, cBlk nb0_1 [v_numbers, I q1, I q2] 101]) H rfl)) ?_
 rintro vq w74z ⟨r0, r17, r23, r32, u0_12, u1_13, rr2_14, Bs3_15, hr75z, hvq, H2_, hf76z⟩
 subst hr75z
 subst vq
 try dsimp only at hM
 replace H : St w w74z [cOwn (α := Yr) 41 u0_12 r0, cDO 43 3 u1_13 rr2_14 r17, cRo Bs3_15, cBlk b_10 [I s, I s2] 35, cBlk b_9 [I r002, I r012] 35, cBlk nb0_8 [v_order, I q12, I q22] 101, cBlk b_7 [u0_2, u1_3, I r02, I r03] 26, cOwn (α := Yr) 41 u0_2 r00, cOwn (α := Raw 3) 43 u1_3 rr2_4, cRo Bs3_5, cOwn (α := Int) 3 u4_6 r12, cBlk nb0_1 [v_numbers, I q1, I q2] 101] R := H.back H2_ rfl
 clear H2_
 refine t_alloc (cs := [.slice none 0 0, .slice none 0 0, I 0, I 0]) H Al26 rfl ?_
 intro b_16 w77z H
 refine t_st (k := 0) (b := b_16) (off := 0) (cs := [.slice none 0 0, .slice none 0 0, I 0, I 0]) (vs := [u0_12, u1_13, I r23, I r32]) (cs' := [u0_12, u1_13, I r23, I r32]) (v := .agg #[u0_12, u1_13, I r23, I r32]) (L' := [cBlk b_16 [u0_12, u1_13, I r23, I r32] 26, cOwn (α := Yr) 41 u0_12 r0, cDO 43 3 u1_13 rr2_14 r17, cRo Bs3_15, cBlk b_10 [I s, I s2] 35, cBlk b_9 [I r002, I r012] 35, cBlk nb0_8 [v_order, I q12, I q22] 101, cBlk b_7 [u0_2, u1_3, I r02, I r03] 26, cOwn (α := Yr) 41 u0_2 r00, cOwn (α := Raw 3) 43 u1_3 rr2_4, cRo Bs3_5, cOwn (α := Int) 3 u4_6 r12, cBlk nb0_1 [v_numbers, I q1, I q2] 101]) H rfl rfl rfl Sz26 rfl rfl rfl (by simp only [List.all_cons, List.all_nil, Bool.true_and, Bool.and_true, Sl.oc (ownSl (H.get (k := 1) rfl)), Sl.oc (deSl (H.get (k := 2) rfl))]; try rfl) rfl rfl ?_
 intro w78z H
 refine s_nil ?_
 refine W.seq ?_
 refine W.draw (fun W => St w W [cOwn (α := Yr) 41 u0_12 r0, cDO 43 3 u1_13 rr2_14 r17, cRo Bs3_15, cBlk b_10 [I s, I s2] 35, cBlk b_9 [I r002, I r012] 35, cBlk nb0_8 [v_order, I q12, I q22] 101, cBlk b_7 [u0_2, u1_3, I r02, I r03] 26, cOwn (α := Yr) 41 u0_2 r00, cOwn (α := Raw 3) 43 u1_3 rr2_4, cRo Bs3_5, cOwn (α := Int) 3 u4_6 r12, cBlk nb0_1 [v_numbers, I q1, I q2] 101] R) [(0, true), (1, true), (2, true), (3, true), (4, true), (5, true), (6, true), (7, true), (8, true), (9, false), (10, true), (11, false)] mixed (by decide +kernel) rfl ?_
 intro w79z hx_
 replace H : St w w79z [cBlk b_16 [u0_12, u1_13, I r23, I r32] 26, cOwn (α := Yr) 41 u0_12 r0, cDO 43 3 u1_13 rr2_14 r17, cRo Bs3_15, cBlk b_10 [I s, I s2] 35, cBlk b_9 [I r002, I r012] 35, cBlk nb0_8 [v_order, I q12, I q22] 101, cBlk b_7 [u0_2, u1_3, I r02, I r03] 26, cOwn (α := Yr) 41 u0_2 r00, cOwn (α := Raw 3) 43 u1_3 rr2_4, cRo Bs3_5, cOwn (α := Int) 3 u4_6 r12, cBlk nb0_1 [v_numbers, I q1, I q2] 101] R := H.ext hx_
 clear hx_
 refine ⟨(H.pick [1, 2, 3, 4, 5, 6, 7, 8, 9, 10, 11, 12] (by decide) rfl), ?_⟩
 refine d_q rfl (fun w' H => x_fa (a := .pointer (some ⟨b_7, 0, none⟩)) (v := .pointer (some ⟨b_7, 2, none⟩)) rfl (fa_blk (o := 0) Fd26_2 Sz3)) ?_
 refine d_q rfl (fun w' H => x_ld (p := .pointer (some ⟨b_7, 2, none⟩)) (v := I r02) rfl (ldb_sc Sc3 (H.blk (k := 6) rfl) rfl)) ?_
 refine d_q rfl (fun w' H => x_mv (v := I r6) rfl) ?_
 obtain ⟨sd80z, hM⟩ := M.e_grd hM
 simp only [Bool.and_eq_true, decide_eq_true_eq] at sd80z
 refine d_q rfl (fun w' H => x_ari (a := r02) (b := r6) (r := r02 + r6) rfl rfl rfl (by omega)) ?_
 refine d_q rfl (fun w' H => x_fa (a := .pointer (some ⟨b_7, 0, none⟩)) (v := .pointer (some ⟨b_7, 3, none⟩)) rfl (fa_blk (o := 0) Fd26_3 Sz3)) ?_
 refine d_q rfl (fun w' H => x_ld (p := .pointer (some ⟨b_7, 3, none⟩)) (v := I r03) rfl (ldb_sc Sc3 (H.blk (k := 6) rfl) rfl)) ?_
 refine d_q rfl (fun w' H => x_mv (v := I r6) rfl) ?_
 obtain ⟨sd81z, hM⟩ := M.e_grd hM
 simp only [Bool.and_eq_true, decide_eq_true_eq] at sd81z
 refine d_q rfl (fun w' H => x_ari (a := r03) (b := r6) (r := r03 + r6) rfl rfl rfl (by omega)) ?_
 refine d_q rfl (fun w' H => x_fa (a := .pointer (some ⟨b_16, 0, none⟩)) (v := .pointer (some ⟨b_16, 2, none⟩)) rfl (fa_blk (o := 0) Fd26_2 Sz3)) ?_
 refine d_l rfl ?_
 refine t_st (k := 0) (b := b_16) (off := 2) (cs := [u0_12, u1_13, I r23, I r32]) (vs := [I (r02 + r6)]) (cs' := [u0_12, u1_13, I (r02 + r6), I r32]) (v := I (r02 + r6)) (L' := [cBlk b_16 [u0_12, u1_13, I (r02 + r6), I r32] 26, cOwn (α := Yr) 41 u0_12 r0, cDO 43 3 u1_13 rr2_14 r17, cRo Bs3_15, cBlk b_10 [I s, I s2] 35, cBlk b_9 [I r002, I r012] 35, cBlk nb0_8 [v_order, I q12, I q22] 101, cBlk b_7 [u0_2, u1_3, I r02, I r03] 26, cOwn (α := Yr) 41 u0_2 r00, cOwn (α := Raw 3) 43 u1_3 rr2_4, cRo Bs3_5, cOwn (α := Int) 3 u4_6 r12, cBlk nb0_1 [v_numbers, I q1, I q2] 101]) H rfl rfl rfl Sz3 rfl rfl rfl rfl rfl rfl ?_
 intro w82z H
 refine s_nil ⟨(H.pick [1, 2, 3, 4, 5, 6, 7, 8, 9, 10, 11, 12] (by decide) rfl), ?_⟩
 refine d_q rfl (fun w' H => x_fa (a := .pointer (some ⟨b_16, 0, none⟩)) (v := .pointer (some ⟨b_16, 3, none⟩)) rfl (fa_blk (o := 0) Fd26_3 Sz3)) ?_
 refine d_l rfl ?_
 refine t_st (k := 0) (b := b_16) (off := 3) (cs := [u0_12, u1_13, I (r02 + r6), I r32]) (vs := [I (r03 + r6)]) (cs' := [u0_12, u1_13, I (r02 + r6), I (r03 + r6)]) (v := I (r03 + r6)) (L' := [cBlk b_16 [u0_12, u1_13, I (r02 + r6), I (r03 + r6)] 26, cOwn (α := Yr) 41 u0_12 r0, cDO 43 3 u1_13 rr2_14 r17, cRo Bs3_15, cBlk b_10 [I s, I s2] 35, cBlk b_9 [I r002, I r012] 35, cBlk nb0_8 [v_order, I q12, I q22] 101, cBlk b_7 [u0_2, u1_3, I r02, I r03] 26, cOwn (α := Yr) 41 u0_2 r00, cOwn (α := Raw 3) 43 u1_3 rr2_4, cRo Bs3_5, cOwn (α := Int) 3 u4_6 r12, cBlk nb0_1 [v_numbers, I q1, I q2] 101]) H rfl rfl rfl Sz3 rfl rfl rfl rfl rfl rfl ?_
 intro w83z H
 refine s_nil ⟨(H.pick [1, 2, 3, 4, 5, 6, 7, 8, 9, 10, 11, 12] (by decide) rfl), ?_⟩
 refine d_nil ?_
 refine W.seq ?_
 refine W.seq ?_
 refine W.region rfl ?_
 refine s_val (x_as (v := I 0) rfl) ?_
 refine s_nil ?_
 refine W.block ?_
 obtain ⟨ex84z, hi85z, hk86z⟩ := M.e_bind hM
 obtain ⟨m0_, hi85z⟩ := M.e_iter hi85z
 refine W.loop (fun m σ W => ∃ (l : List Yr) (i : Nat) (v_l : Value) (ρ : Env), σ = upds ρ [(13, .pointer (some ⟨b_7, 0, none⟩)), (15, .pointer (some ⟨nb0_8, 0, none⟩)), (16, I (r02 + r3)), (17, I ((r02 + r3) + r4)), (18, I r5), (19, I r6), (21, .pointer (some ⟨b_9, 0, none⟩)), (27, .pointer (some ⟨b_16, 0, none⟩)), (28, I (i : Int))] /\ M.iterN (zaB r6) m (l, i) = some ex84z /\ St w W [cBlk b_16 [v_l, u1_13, I (r02 + r6), I (r03 + r6)] 26, cOwn (α := Yr) 41 v_l l, cDO 43 3 u1_13 rr2_14 r17, cRo Bs3_15, cBlk b_10 [I s, I s2] 35, cBlk b_9 [I r002, I r012] 35, cBlk nb0_8 [v_order, I q12, I q22] 101, cBlk b_7 [u0_2, u1_3, I r02, I r03] 26, cOwn (α := Yr) 41 u0_2 r00, cOwn (α := Raw 3) 43 u1_3 rr2_4, cRo Bs3_5, cOwn (α := Int) 3 u4_6 r12, cBlk nb0_1 [v_numbers, I q1, I q2] 101] R) ?_ ?_
 ·exact ⟨_, r0, 0, u0_12, _, upds_of _ _ ⟨rfl, rfl, rfl, rfl, rfl, rfl, rfl, rfl, rfl, trivial⟩, hi85z, H⟩
 rintro m89z σ w87z ⟨l, i, v_l, ρ, rfl, hI88z, H⟩
 obtain ⟨m90z, lt91z, x92z, hM, hN93z⟩ := M.e_iterN hI88z
 simp only [zaB] at hM
 clear hI88z
 refine W.seq ?_
 refine W.seq ?_
 refine W.region rfl ?_
 refine s_val (x_mv (v := I (i : Int)) rfl) ?_
 refine s_val (x_fa (a := .pointer (some ⟨b_16, 0, none⟩)) (v := .pointer (some ⟨b_16, 0, none⟩)) rfl (fa_blk (o := 0) Fd26_0 Sz23)) ?_
 refine s_val (x_ld (p := .pointer (some ⟨b_16, 0, none⟩)) (v := v_l) rfl (ldb_sc Sc23 (H.blk (k := 0) rfl) rfl)) ?_
 have hl94z := ((ownSl (H.get (k := 1) rfl))).len_le
 refine s_val (x_lenS T23.und rfl (ownSl (H.get (k := 1) rfl))) ?_
 refine s_val (x_cmp (kd := .i64) (a := (i : Int)) (b := (l.length : Int)) (r := decide ((i : Int) < (l.length : Int))) rfl rfl rfl) ?_
 refine s_nil ?_
 refine W.cond (decide ((i : Int) < (l.length : Int))) rfl (fun c95z => ?_) (fun c95z => ?_)
 ·replace hM := M.e_t hM c95z
  simp only [decide_eq_true_eq, decide_eq_false_iff_not, beq_iff_eq, bne_iff_ne, beq_eq_false_iff_ne, bne_eq_false_iff_eq, ne_eq, Decidable.not_not] at c95z
  refine W.skip ?_
  refine W.seq ?_
  refine W.block ?_
  refine W.region rfl ?_
  refine s_val (x_fa (a := .pointer (some ⟨b_16, 0, none⟩)) (v := .pointer (some ⟨b_16, 0, none⟩)) rfl (fa_blk (o := 0) Fd26_0 Sz23)) ?_
  refine s_val (x_ld (p := .pointer (some ⟨b_16, 0, none⟩)) (v := v_l) rfl (ldb_sc Sc23 (H.blk (k := 0) rfl) rfl)) ?_
  refine s_val (x_mv (v := I (i : Int)) rfl) ?_
  obtain ⟨sd96z, hM⟩ := M.e_grd hM
  simp only [Bool.and_eq_true, decide_eq_true_eq] at sd96z
  refine s_val (x_ix (a := v_l) (b := I (i : Int)) (v := vat v_l 3 (Int.toNat (i : Int))) rfl rfl (Sl.ix (α := Yr) T23.und T23.size (ownSl (H.get (k := 1) rfl)) (by omega) (by omega))) ?_
  refine s_val (x_fa (a := vat v_l 3 (Int.toNat (i : Int))) (v := fat (vat v_l 3 (Int.toNat (i : Int))) 0) rfl (fa_pl Fd41_0 Sz3 (Sl.pl (i := (i : Int)) (ownSl (H.get (k := 1) rfl)) (by omega) (by omega)))) ?_
  refine s_val (x_ld (p := fat (vat v_l 3 (Int.toNat (i : Int))) 0) (v := I ((l.getD i default).year)) rfl (ld_sc Sc3 (At.mono (Yr_at0 (ownSl (H.get (k := 1) rfl)) (i := (i : Int)) (by omega) (by omega)) (ownLe _ (H.get (k := 1) rfl))))) ?_
  refine s_val (x_mv (v := I r6) rfl) ?_
  obtain ⟨sd97z, hM⟩ := M.e_grd hM
  simp only [Bool.and_eq_true, decide_eq_true_eq] at sd97z
  refine s_val (x_ari (a := (l.getD i default).year) (b := r6) (r := ((l.getD i default).year) + r6) rfl rfl rfl (by omega)) ?_
  refine s_val (x_ix (a := v_l) (b := I (i : Int)) (v := vat v_l 3 (Int.toNat (i : Int))) rfl rfl (Sl.ix (α := Yr) T23.und T23.size (ownSl (H.get (k := 1) rfl)) (by omega) (by omega))) ?_
  refine s_val (x_fa (a := vat v_l 3 (Int.toNat (i : Int))) (v := fat (vat v_l 3 (Int.toNat (i : Int))) 0) rfl (fa_pl Fd41_0 Sz3 (Sl.pl (i := (i : Int)) (ownSl (H.get (k := 1) rfl)) (by omega) (by omega)))) ?_
  refine t_fst (α := Yr) (k := 1) (i := (i : Int)) (off := 0) (l := l) (l' := l.set i ({ (l.getD i default) with year := ((l.getD i default).year) + r6 })) (val := I (((l.getD i default).year) + r6)) (L' := [cBlk b_16 [v_l, u1_13, I (r02 + r6), I (r03 + r6)] 26, cOwn (α := Yr) 41 v_l (l.set i ({ (l.getD i default) with year := ((l.getD i default).year) + r6 })), cDO 43 3 u1_13 rr2_14 r17, cRo Bs3_15, cBlk b_10 [I s, I s2] 35, cBlk b_9 [I r002, I r012] 35, cBlk nb0_8 [v_order, I q12, I q22] 101, cBlk b_7 [u0_2, u1_3, I r02, I r03] 26, cOwn (α := Yr) 41 u0_2 r00, cOwn (α := Raw 3) 43 u1_3 rr2_4, cRo Bs3_5, cOwn (α := Int) 3 u4_6 r12, cBlk nb0_1 [v_numbers, I q1, I q2] 101]) H rfl Sz3 (by omega) (by omega) (l.getD i default) ({ (l.getD i default) with year := ((l.getD i default).year) + r6 }) (getD_some _ (by omega) _) rfl rfl [I (((l.getD i default).year) + r6)] rfl rfl rfl rfl rfl rfl rfl ?_
  intro w98z H
  have hls_q99z : (l.set i ({ (l.getD i default) with year := ((l.getD i default).year) + r6 })).length = (l).length := List.length_set
  refine s_nil ?_
  refine W.region rfl ?_
  refine s_val (x_mv (v := I (i : Int)) rfl) ?_
  refine s_val (x_ari (a := (i : Int)) (b := 1) (r := (i : Int) + 1) rfl rfl rfl (by omega)) ?_
  refine s_val (x_as (v := I ((i : Int) + 1)) rfl) ?_
  refine s_nil ?_
  exact ⟨m90z, lt91z, l.set i ({ (l.getD i default) with year := ((l.getD i default).year) + r6 }), i + 1, v_l, _, upds_of _ _ ⟨rfl, rfl, rfl, rfl, rfl, rfl, rfl, rfl, rfl, trivial⟩, M.e_inl hM hN93z, H⟩
 replace hM := M.e_f hM c95z
 simp only [decide_eq_true_eq, decide_eq_false_iff_not, beq_iff_eq, bne_iff_ne, beq_eq_false_iff_ne, bne_eq_false_iff_eq, ne_eq, Decidable.not_not] at c95z
 refine W.exit ?_
 have hX100z := M.e_inr hM hN93z
 subst hX100z
 replace hM := hk86z
 try dsimp only at hM
 refine W.seq ?_
 refine W.seq ?_
 refine W.region rfl ?_
 refine s_val (x_as (v := I 0) rfl) ?_
 refine s_nil ?_
 refine W.block ?_
 obtain ⟨ex101z, hi102z, hk103z⟩ := M.e_bind hM
 obtain ⟨m0_, hi102z⟩ := M.e_iter hi102z
 refine W.loop (fun m σ W => ∃ (l7 : List Old10) (i2 : Nat) (v_l7 : Value) (rw_l7 : List (Raw 3)) (B_l7 : Base) (ρ : Env), σ = upds ρ [(13, .pointer (some ⟨b_7, 0, none⟩)), (15, .pointer (some ⟨nb0_8, 0, none⟩)), (16, I (r02 + r3)), (17, I ((r02 + r3) + r4)), (18, I r5), (19, I r6), (21, .pointer (some ⟨b_9, 0, none⟩)), (27, .pointer (some ⟨b_16, 0, none⟩)), (29, I (i2 : Int))] /\ M.iterN (zau r6) m (l7, i2) = some ex101z /\ St w W [cBlk b_16 [v_l, v_l7, I (r02 + r6), I (r03 + r6)] 26, cOwn (α := Yr) 41 v_l l, cDO 43 3 v_l7 rw_l7 l7, cRo B_l7, cBlk b_10 [I s, I s2] 35, cBlk b_9 [I r002, I r012] 35, cBlk nb0_8 [v_order, I q12, I q22] 101, cBlk b_7 [u0_2, u1_3, I r02, I r03] 26, cOwn (α := Yr) 41 u0_2 r00, cOwn (α := Raw 3) 43 u1_3 rr2_4, cRo Bs3_5, cOwn (α := Int) 3 u4_6 r12, cBlk nb0_1 [v_numbers, I q1, I q2] 101] R /\ rw_l7.length = l7.length) ?_ ?_
 ·exact ⟨_, r17, 0, u1_13, rr2_14, Bs3_15, _, upds_of _ _ ⟨rfl, rfl, rfl, rfl, rfl, rfl, rfl, rfl, rfl, trivial⟩, hi102z, H, hf76z⟩
 rintro m106z σ w104z ⟨l7, i2, v_l7, rw_l7, B_l7, ρ, rfl, hI105z, H, hr_l7⟩
 obtain ⟨m107z, lt108z, x109z, hM, hN110z⟩ := M.e_iterN hI105z
 simp only [zau] at hM
 clear hI105z
 refine W.seq ?_
 refine W.seq ?_
 refine W.region rfl ?_
 refine s_val (x_mv (v := I (i2 : Int)) rfl) ?_
 refine s_val (x_fa (a := .pointer (some ⟨b_16, 0, none⟩)) (v := .pointer (some ⟨b_16, 1, none⟩)) rfl (fa_blk (o := 0) Fd26_1 Sz24)) ?_
 refine s_val (x_ld (p := .pointer (some ⟨b_16, 1, none⟩)) (v := v_l7) rfl (ldb_sc Sc24 (H.blk (k := 0) rfl) rfl)) ?_
 have hl111z := ((deSl (H.get (k := 2) rfl))).len_le
 refine s_val (x_lenS T24.und rfl (deSl (H.get (k := 2) rfl))) ?_
 refine s_val (x_cmp (kd := .i64) (a := (i2 : Int)) (b := (l7.length : Int)) (r := decide ((i2 : Int) < (l7.length : Int))) rfl rfl rfl) ?_
 refine s_nil ?_
 refine W.cond (decide ((i2 : Int) < (l7.length : Int))) rfl (fun c112z => ?_) (fun c112z => ?_)
 ·replace hM := M.e_t hM c112z
  simp only [decide_eq_true_eq, decide_eq_false_iff_not, beq_iff_eq, bne_iff_ne, beq_eq_false_iff_ne, bne_eq_false_iff_eq, ne_eq, Decidable.not_not] at c112z
  refine W.skip ?_
  refine W.seq ?_
  refine W.block ?_
  refine W.seqJ (fun σ W => ∃ (usj_u1_13 : List (Raw 3)) (ρ : Env), σ = upds ρ [(13, .pointer (some ⟨b_7, 0, none⟩)), (15, .pointer (some ⟨nb0_8, 0, none⟩)), (16, I (r02 + r3)), (17, I ((r02 + r3) + r4)), (18, I r5), (19, I r6), (21, .pointer (some ⟨b_9, 0, none⟩)), (27, .pointer (some ⟨b_16, 0, none⟩)), (29, I (i2 : Int))] /\ (zaW r6 l7 i2).Ends x109z /\ St w W [cBlk b_16 [v_l, v_l7, I (r02 + r6), I (r03 + r6)] 26, cOwn (α := Yr) 41 v_l l, cDO 43 3 v_l7 usj_u1_13 ((l7.set i2 ({ (l7.getD i2 default) with src := ((l7.getD i2 default).src) + r6 })).set i2 ({ ((l7.set i2 ({ (l7.getD i2 default) with src := ((l7.getD i2 default).src) + r6 })).getD i2 default) with dst := ((l7.getD i2 default).dst) + r6 })), cRo B_l7, cBlk b_10 [I s, I s2] 35, cBlk b_9 [I r002, I r012] 35, cBlk nb0_8 [v_order, I q12, I q22] 101, cBlk b_7 [u0_2, u1_3, I r02, I r03] 26, cOwn (α := Yr) 41 u0_2 r00, cOwn (α := Raw 3) 43 u1_3 rr2_4, cRo Bs3_5, cOwn (α := Int) 3 u4_6 r12, cBlk nb0_1 [v_numbers, I q1, I q2] 101] R /\ usj_u1_13.length = ((l7.set i2 ({ (l7.getD i2 default) with src := ((l7.getD i2 default).src) + r6 })).set i2 ({ ((l7.set i2 ({ (l7.getD i2 default) with src := ((l7.getD i2 default).src) + r6 })).getD i2 default) with dst := ((l7.getD i2 default).dst) + r6 })).length) ?_ ?_
  ·skip
   refine W.drawT (fun W => St w W [cBlk b_16 [v_l, v_l7, I (r02 + r6), I (r03 + r6)] 26, cOwn (α := Yr) 41 v_l l, cRo B_l7, cBlk b_10 [I s, I s2] 35, cBlk b_9 [I r002, I r012] 35, cBlk nb0_8 [v_order, I q12, I q22] 101, cBlk b_7 [u0_2, u1_3, I r02, I r03] 26, cOwn (α := Yr) 41 u0_2 r00, cOwn (α := Raw 3) 43 u1_3 rr2_4, cRo Bs3_5, cOwn (α := Int) 3 u4_6 r12, cBlk nb0_1 [v_numbers, I q1, I q2] 101] R) (.q 0 (.q 1 (.q 2 (.q 3 (.q 4 (.q 5 (.q 6 (.q 7 (.q 8 (.q 12 (.q 14 (.q 15 (.q 16 (.q 20 (.l2 9 (.l2 10 (.l2 11 (.q 13 (.l 17 (.l 18 (.l 19 (.q 21 (.l 22 (.l 23 (.l 24 (.l 25 (.l 26 (.l 27 .nil))))))))))) 17 (.l2 11 (.q 13 (.l 18 (.l 19 (.q 21 (.l 22 (.l 23 (.l 24 (.l 25 (.l 26 (.l 27 .nil)))))))))) 18 (.l2 11 (.q 13 (.l 19 (.q 21 (.l 22 (.l 23 (.l 24 (.l 25 (.l 26 (.l 27 .nil))))))))) 19 (.q 21 (.l 11 (.q 13 (.l 22 (.l 23 (.l 24 (.l 25 (.l 26 (.l 27 .nil)))))))))))) 17 (.l2 10 (.l2 11 (.q 13 (.l 18 (.l 19 (.q 21 (.l 22 (.l 23 (.l 24 (.l 25 (.l 26 (.l 27 .nil)))))))))) 18 (.l2 11 (.q 13 (.l 19 (.q 21 (.l 22 (.l 23 (.l 24 (.l 25 (.l 26 (.l 27 .nil))))))))) 19 (.q 21 (.l 11 (.q 13 (.l 22 (.l 23 (.l 24 (.l 25 (.l 26 (.l 27 .nil))))))))))) 18 (.l2 10 (.l2 11 (.q 13 (.l 19 (.q 21 (.l 22 (.l 23 (.l 24 (.l 25 (.l 26 (.l 27 .nil))))))))) 19 (.q 21 (.l 11 (.q 13 (.l 22 (.l 23 (.l 24 (.l 25 (.l 26 (.l 27 .nil)))))))))) 19 (.q 21 (.l 10 (.l 11 (.q 13 (.l 22 (.l 23 (.l 24 (.l 25 (.l 26 (.l 27 .nil))))))))))))) 17 (.l2 9 (.l2 10 (.l2 11 (.q 13 (.l 18 (.l 19 (.q 21 (.l 22 (.l 23 (.l 24 (.l 25 (.l 26 (.l 27 .nil)))))))))) 18 (.l2 11 (.q 13 (.l 19 (.q 21 (.l 22 (.l 23 (.l 24 (.l 25 (.l 26 (.l 27 .nil))))))))) 19 (.q 21 (.l 11 (.q 13 (.l 22 (.l 23 (.l 24 (.l 25 (.l 26 (.l 27 .nil))))))))))) 18 (.l2 10 (.l2 11 (.q 13 (.l 19 (.q 21 (.l 22 (.l 23 (.l 24 (.l 25 (.l 26 (.l 27 .nil))))))))) 19 (.q 21 (.l 11 (.q 13 (.l 22 (.l 23 (.l 24 (.l 25 (.l 26 (.l 27 .nil)))))))))) 19 (.q 21 (.l 10 (.l 11 (.q 13 (.l 22 (.l 23 (.l 24 (.l 25 (.l 26 (.l 27 .nil)))))))))))) 18 (.l2 9 (.l2 10 (.l2 11 (.q 13 (.l 19 (.q 21 (.l 22 (.l 23 (.l 24 (.l 25 (.l 26 (.l 27 .nil))))))))) 19 (.q 21 (.l 11 (.q 13 (.l 22 (.l 23 (.l 24 (.l 25 (.l 26 (.l 27 .nil)))))))))) 19 (.q 21 (.l 10 (.l 11 (.q 13 (.l 22 (.l 23 (.l 24 (.l 25 (.l 26 (.l 27 .nil))))))))))) 19 (.q 21 (.l 9 (.l 10 (.l 11 (.q 13 (.l 22 (.l 23 (.l 24 (.l 25 (.l 26 (.l 27 .nil)))))))))))))))))))))))))))) mixed (by decide +kernel) rfl ?_
   intro w113z hx_
   replace H : St w w113z [cBlk b_16 [v_l, v_l7, I (r02 + r6), I (r03 + r6)] 26, cOwn (α := Yr) 41 v_l l, cDO 43 3 v_l7 rw_l7 l7, cRo B_l7, cBlk b_10 [I s, I s2] 35, cBlk b_9 [I r002, I r012] 35, cBlk nb0_8 [v_order, I q12, I q22] 101, cBlk b_7 [u0_2, u1_3, I r02, I r03] 26, cOwn (α := Yr) 41 u0_2 r00, cOwn (α := Raw 3) 43 u1_3 rr2_4, cRo Bs3_5, cOwn (α := Int) 3 u4_6 r12, cBlk nb0_1 [v_numbers, I q1, I q2] 101] R := H.ext hx_
   clear hx_
   refine ⟨(H.pick [0, 1, 3, 4, 5, 6, 7, 8, 9, 10, 11, 12] (by decide) rfl), ?_⟩
   refine t_q rfl (fun w' H => x_fa (a := .pointer (some ⟨b_16, 0, none⟩)) (v := .pointer (some ⟨b_16, 1, none⟩)) rfl (fa_blk (o := 0) Fd26_1 Sz24)) ?_
   refine t_q rfl (fun w' H => x_ld (p := .pointer (some ⟨b_16, 1, none⟩)) (v := v_l7) rfl (ldb_sc Sc24 (H.blk (k := 0) rfl) rfl)) ?_
   refine t_q rfl (fun w' H => x_mv (v := I (i2 : Int)) rfl) ?_
   refine t_q rfl (fun w' H => x_fa (a := .pointer (some ⟨b_16, 0, none⟩)) (v := .pointer (some ⟨b_16, 1, none⟩)) rfl (fa_blk (o := 0) Fd26_1 Sz24)) ?_
   refine t_q rfl (fun w' H => x_ld (p := .pointer (some ⟨b_16, 1, none⟩)) (v := v_l7) rfl (ldb_sc Sc24 (H.blk (k := 0) rfl) rfl)) ?_
   refine t_q rfl (fun w' H => x_mv (v := I (i2 : Int)) rfl) ?_
   refine t_q rfl (fun w' H => x_fa (a := .pointer (some ⟨b_16, 0, none⟩)) (v := .pointer (some ⟨b_16, 1, none⟩)) rfl (fa_blk (o := 0) Fd26_1 Sz24)) ?_
   refine t_q rfl (fun w' H => x_ld (p := .pointer (some ⟨b_16, 1, none⟩)) (v := v_l7) rfl (ldb_sc Sc24 (H.blk (k := 0) rfl) rfl)) ?_
   refine t_q rfl (fun w' H => x_mv (v := I (i2 : Int)) rfl) ?_
   refine t_q rfl (fun w' H => x_mv (v := I r6) rfl) ?_
   refine t_q rfl (fun w' H => x_fa (a := .pointer (some ⟨b_16, 0, none⟩)) (v := .pointer (some ⟨b_16, 1, none⟩)) rfl (fa_blk (o := 0) Fd26_1 Sz24)) ?_
   refine t_q rfl (fun w' H => x_ld (p := .pointer (some ⟨b_16, 1, none⟩)) (v := v_l7) rfl (ldb_sc Sc24 (H.blk (k := 0) rfl) rfl)) ?_
   refine t_q rfl (fun w' H => x_mv (v := I (i2 : Int)) rfl) ?_
   refine t_q rfl (fun w' H => x_mv (v := I r6) rfl) ?_
   obtain ⟨sd114z, hM⟩ := M.e_grd hM
   simp only [Bool.and_eq_true, decide_eq_true_eq] at sd114z
   obtain ⟨sd115z, hM⟩ := M.e_grd hM
   simp only [Bool.and_eq_true, decide_eq_true_eq] at sd115z
   obtain ⟨sd116z, hM⟩ := M.e_grd hM
   simp only [Bool.and_eq_true, decide_eq_true_eq] at sd116z
   obtain ⟨sd121z, hM⟩ := M.e_grd hM
   simp only [Bool.and_eq_true, decide_eq_true_eq] at sd121z
   refine t_l2 rfl rfl ?_ ?_
   ·skip
    refine s_val (x_ix (a := v_l7) (b := I (i2 : Int)) (v := vat v_l7 4 (Int.toNat (i2 : Int))) rfl rfl (Sl.ix (α := Old10) T24.und T24.size (deSl (H.get (k := 2) rfl)) (by omega) (by omega))) ?_
    have hvc_q126z := Sl.cells (deSl (H.get (k := 2) rfl))
    have hvo_q126z := Sl.oc (deSl (H.get (k := 2) rfl))
    refine s_nil ⟨(H.pick [0, 1, 3, 4, 5, 6, 7, 8, 9, 10, 11, 12] (by decide) rfl), ?_⟩
    refine t_l2 rfl rfl ?_ ?_
    ·skip
     refine s_val (x_fa (a := vat v_l7 4 (Int.toNat (i2 : Int))) (v := fat (vat v_l7 4 (Int.toNat (i2 : Int))) 0) rfl (fa_pl Fd43_0 Sz3 (Sl.pl (i := (i2 : Int)) (deSl (H.get (k := 2) rfl)) (by omega) (by omega)))) ?_
     refine s_nil ⟨(H.pick [0, 1, 3, 4, 5, 6, 7, 8, 9, 10, 11, 12] (by decide) rfl), ?_⟩
     refine t_l2 rfl rfl ?_ ?_
     ·skip
      refine s_val (x_ld (p := fat (vat v_l7 4 (Int.toNat (i2 : Int))) 0) (v := I ((l7.getD i2 default).src)) rfl (ld_sc Sc3 (At.mono (Old10_at0 (deSl (H.get (k := 2) rfl)) (i := (i2 : Int)) (by omega) (by omega)) (deLe _ (H.get (k := 2) rfl))))) ?_
      refine s_nil ⟨(H.pick [0, 1, 3, 4, 5, 6, 7, 8, 9, 10, 11, 12] (by decide) rfl), ?_⟩
      refine t_q rfl (fun w' H => x_ari (a := (l7.getD i2 default).src) (b := r6) (r := ((l7.getD i2 default).src) + r6) rfl rfl rfl (by omega)) ?_
      refine t_l rfl ?_
      refine s_val (x_ix (a := v_l7) (b := I (i2 : Int)) (v := vat v_l7 4 (Int.toNat (i2 : Int))) rfl rfl (Sl.ix (α := Old10) T24.und T24.size (deSl (H.get (k := 2) rfl)) (by omega) (by omega))) ?_
      refine s_nil ⟨(H.pick [0, 1, 3, 4, 5, 6, 7, 8, 9, 10, 11, 12] (by decide) rfl), ?_⟩
      refine t_l rfl ?_
      refine s_val (x_fa (a := vat v_l7 4 (Int.toNat (i2 : Int))) (v := fat (vat v_l7 4 (Int.toNat (i2 : Int))) 1) rfl (fa_pl Fd43_1 Sz3 (Sl.pl (i := (i2 : Int)) (deSl (H.get (k := 2) rfl)) (by omega) (by omega)))) ?_
      refine s_nil ⟨(H.pick [0, 1, 3, 4, 5, 6, 7, 8, 9, 10, 11, 12] (by decide) rfl), ?_⟩
      refine t_l rfl ?_
      refine s_val (x_ld (p := fat (vat v_l7 4 (Int.toNat (i2 : Int))) 1) (v := I ((l7.getD i2 default).dst)) rfl (ld_sc Sc3 (At.mono (Old10_at1 (deSl (H.get (k := 2) rfl)) (i := (i2 : Int)) (by omega) (by omega)) (deLe _ (H.get (k := 2) rfl))))) ?_
      refine s_nil ⟨(H.pick [0, 1, 3, 4, 5, 6, 7, 8, 9, 10, 11, 12] (by decide) rfl), ?_⟩
      refine t_q rfl (fun w' H => x_ari (a := (l7.getD i2 default).dst) (b := r6) (r := ((l7.getD i2 default).dst) + r6) rfl rfl rfl (by omega)) ?_
      refine t_l rfl ?_
      refine s_val (x_ix (a := v_l7) (b := I (i2 : Int)) (v := vat v_l7 4 (Int.toNat (i2 : Int))) rfl rfl (Sl.ix (α := Old10) T24.und T24.size (deSl (H.get (k := 2) rfl)) (by omega) (by omega))) ?_
      refine s_nil ⟨(H.pick [0, 1, 3, 4, 5, 6, 7, 8, 9, 10, 11, 12] (by decide) rfl), ?_⟩
      refine t_l rfl ?_
      refine s_val (x_fa (a := vat v_l7 4 (Int.toNat (i2 : Int))) (v := fat (vat v_l7 4 (Int.toNat (i2 : Int))) 0) rfl (fa_pl Fd43_0 Sz3 (Sl.pl (i := (i2 : Int)) (deSl (H.get (k := 2) rfl)) (by omega) (by omega)))) ?_
      refine s_nil ⟨(H.pick [0, 1, 3, 4, 5, 6, 7, 8, 9, 10, 11, 12] (by decide) rfl), ?_⟩
      refine t_l rfl ?_
      refine t_dofs (k := 2) (i := (i2 : Int)) (dl := l7) (off := 0) (o' := { (l7.getD i2 default) with src := ((l7.getD i2 default).src) + r6 }) H rfl Sz3 (by omega) (by omega) rfl rfl (by decide) rfl rfl rfl ?_
      intro w128z us129z hr130z H
      replace H : St w w128z [cBlk b_16 [v_l, v_l7, I (r02 + r6), I (r03 + r6)] 26, cOwn (α := Yr) 41 v_l l, cDO 43 3 v_l7 us129z (l7.set i2 ({ (l7.getD i2 default) with src := ((l7.getD i2 default).src) + r6 })), cRo B_l7, cBlk b_10 [I s, I s2] 35, cBlk b_9 [I r002, I r012] 35, cBlk nb0_8 [v_order, I q12, I q22] 101, cBlk b_7 [u0_2, u1_3, I r02, I r03] 26, cOwn (α := Yr) 41 u0_2 r00, cOwn (α := Raw 3) 43 u1_3 rr2_4, cRo Bs3_5, cOwn (α := Int) 3 u4_6 r12, cBlk nb0_1 [v_numbers, I q1, I q2] 101] R := H
      refine s_nil ⟨(H.pick [0, 1, 3, 4, 5, 6, 7, 8, 9, 10, 11, 12] (by decide) rfl), ?_⟩
      refine t_l rfl ?_
      refine s_val (x_ix (a := v_l7) (b := I (i2 : Int)) (v := vat v_l7 4 (Int.toNat (i2 : Int))) rfl rfl (Sl.ix (α := Old10) T24.und T24.size (deSl (H.get (k := 2) rfl)) (by omega) (by omega))) ?_
      refine s_nil ⟨(H.pick [0, 1, 3, 4, 5, 6, 7, 8, 9, 10, 11, 12] (by decide) rfl), ?_⟩
      refine t_l rfl ?_
      refine s_val (x_fa (a := vat v_l7 4 (Int.toNat (i2 : Int))) (v := fat (vat v_l7 4 (Int.toNat (i2 : Int))) 1) rfl (fa_pl Fd43_1 Sz3 (Sl.pl (i := (i2 : Int)) (deSl (H.get (k := 2) rfl)) (by omega) (by omega)))) ?_
      refine s_nil ⟨(H.pick [0, 1, 3, 4, 5, 6, 7, 8, 9, 10, 11, 12] (by decide) rfl), ?_⟩
      refine t_l rfl ?_
      refine t_dofs (k := 2) (i := (i2 : Int)) (dl := l7.set i2 ({ (l7.getD i2 default) with src := ((l7.getD i2 default).src) + r6 })) (off := 1) (o' := { ((l7.set i2 ({ (l7.getD i2 default) with src := ((l7.getD i2 default).src) + r6 })).getD i2 default) with dst := ((l7.getD i2 default).dst) + r6 }) H rfl Sz3 (by omega) (by omega) rfl rfl (by decide) rfl rfl rfl ?_
      intro w132z us133z hr134z H
      replace H : St w w132z [cBlk b_16 [v_l, v_l7, I (r02 + r6), I (r03 + r6)] 26, cOwn (α := Yr) 41 v_l l, cDO 43 3 v_l7 us133z ((l7.set i2 ({ (l7.getD i2 default) with src := ((l7.getD i2 default).src) + r6 })).set i2 ({ ((l7.set i2 ({ (l7.getD i2 default) with src := ((l7.getD i2 default).src) + r6 })).getD i2 default) with dst := ((l7.getD i2 default).dst) + r6 })), cRo B_l7, cBlk b_10 [I s, I s2] 35, cBlk b_9 [I r002, I r012] 35, cBlk nb0_8 [v_order, I q12, I q22] 101, cBlk b_7 [u0_2, u1_3, I r02, I r03] 26, cOwn (α := Yr) 41 u0_2 r00, cOwn (α := Raw 3) 43 u1_3 rr2_4, cRo Bs3_5, cOwn (α := Int) 3 u4_6 r12, cBlk nb0_1 [v_numbers, I q1, I q2] 101] R := H
      refine s_nil ⟨(H.pick [0, 1, 3, 4, 5, 6, 7, 8, 9, 10, 11, 12] (by decide) rfl), ?_⟩
      refine t_nil ?_
      exact ⟨us133z, _, upds_of _ _ ⟨rfl, rfl, rfl, rfl, rfl, rfl, rfl, rfl, rfl, trivial⟩, hM, H, hr134z⟩
     skip
     refine s_val (x_ix (a := v_l7) (b := I (i2 : Int)) (v := vat v_l7 4 (Int.toNat (i2 : Int))) rfl rfl (Sl.ix (α := Old10) T24.und T24.size (deSl (H.get (k := 2) rfl)) (by omega) (by omega))) ?_
     refine s_nil ⟨(H.pick [0, 1, 3, 4, 5, 6, 7, 8, 9, 10, 11, 12] (by decide) rfl), ?_⟩
     refine t_l2 rfl rfl ?_ ?_
     ·skip
      refine s_val (x_ld (p := fat (vat v_l7 4 (Int.toNat (i2 : Int))) 0) (v := I ((l7.getD i2 default).src)) rfl (ld_sc Sc3 (At.mono (Old10_at0 (deSl (H.get (k := 2) rfl)) (i := (i2 : Int)) (by omega) (by omega)) (deLe _ (H.get (k := 2) rfl))))) ?_
      refine s_nil ⟨(H.pick [0, 1, 3, 4, 5, 6, 7, 8, 9, 10, 11, 12] (by decide) rfl), ?_⟩
      refine t_q rfl (fun w' H => x_ari (a := (l7.getD i2 default).src) (b := r6) (r := ((l7.getD i2 default).src) + r6) rfl rfl rfl (by omega)) ?_
      refine t_l rfl ?_
      refine s_val (x_fa (a := vat v_l7 4 (Int.toNat (i2 : Int))) (v := fat (vat v_l7 4 (Int.toNat (i2 : Int))) 1) rfl (fa_pl Fd43_1 Sz3 (Sl.pl (i := (i2 : Int)) (deSl (H.get (k := 2) rfl)) (by omega) (by omega)))) ?_
      refine s_nil ⟨(H.pick [0, 1, 3, 4, 5, 6, 7, 8, 9, 10, 11, 12] (by decide) rfl), ?_⟩
      refine t_l rfl ?_
      refine s_val (x_ld (p := fat (vat v_l7 4 (Int.toNat (i2 : Int))) 1) (v := I ((l7.getD i2 default).dst)) rfl (ld_sc Sc3 (At.mono (Old10_at1 (deSl (H.get (k := 2) rfl)) (i := (i2 : Int)) (by omega) (by omega)) (deLe _ (H.get (k := 2) rfl))))) ?_
      refine s_nil ⟨(H.pick [0, 1, 3, 4, 5, 6, 7, 8, 9, 10, 11, 12] (by decide) rfl), ?_⟩
      refine t_q rfl (fun w' H => x_ari (a := (l7.getD i2 default).dst) (b := r6) (r := ((l7.getD i2 default).dst) + r6) rfl rfl rfl (by omega)) ?_
      refine t_l rfl ?_
      refine s_val (x_ix (a := v_l7) (b := I (i2 : Int)) (v := vat v_l7 4 (Int.toNat (i2 : Int))) rfl rfl (Sl.ix (α := Old10) T24.und T24.size (deSl (H.get (k := 2) rfl)) (by omega) (by omega))) ?_
      refine s_nil ⟨(H.pick [0, 1, 3, 4, 5, 6, 7, 8, 9, 10, 11, 12] (by decide) rfl), ?_⟩
      refine t_l rfl ?_
      refine s_val (x_fa (a := vat v_l7 4 (Int.toNat (i2 : Int))) (v := fat (vat v_l7 4 (Int.toNat (i2 : Int))) 0) rfl (fa_pl Fd43_0 Sz3 (Sl.pl (i := (i2 : Int)) (deSl (H.get (k := 2) rfl)) (by omega) (by omega)))) ?_
      refine s_nil ⟨(H.pick [0, 1, 3, 4, 5, 6, 7, 8, 9, 10, 11, 12] (by decide) rfl), ?_⟩
      refine t_l rfl ?_
      refine t_dofs (k := 2) (i := (i2 : Int)) (dl := l7) (off := 0) (o' := { (l7.getD i2 default) with src := ((l7.getD i2 default).src) + r6 }) H rfl Sz3 (by omega) (by omega) rfl rfl (by decide) rfl rfl rfl ?_
      intro w136z us137z hr138z H
      replace H : St w w136z [cBlk b_16 [v_l, v_l7, I (r02 + r6), I (r03 + r6)] 26, cOwn (α := Yr) 41 v_l l, cDO 43 3 v_l7 us137z (l7.set i2 ({ (l7.getD i2 default) with src := ((l7.getD i2 default).src) + r6 })), cRo B_l7, cBlk b_10 [I s, I s2] 35, cBlk b_9 [I r002, I r012] 35, cBlk nb0_8 [v_order, I q12, I q22] 101, cBlk b_7 [u0_2, u1_3, I r02, I r03] 26, cOwn (α := Yr) 41 u0_2 r00, cOwn (α := Raw 3) 43 u1_3 rr2_4, cRo Bs3_5, cOwn (α := Int) 3 u4_6 r12, cBlk nb0_1 [v_numbers, I q1, I q2] 101] R := H
      refine s_nil ⟨(H.pick [0, 1, 3, 4, 5, 6, 7, 8, 9, 10, 11, 12] (by decide) rfl), ?_⟩
      refine t_l rfl ?_
      refine s_val (x_ix (a := v_l7) (b := I (i2 : Int)) (v := vat v_l7 4 (Int.toNat (i2 : Int))) rfl rfl (Sl.ix (α := Old10) T24.und T24.size (deSl (H.get (k := 2) rfl)) (by omega) (by omega))) ?_
      refine s_nil ⟨(H.pick [0, 1, 3, 4, 5, 6, 7, 8, 9, 10, 11, 12] (by decide) rfl), ?_⟩
      refine t_l rfl ?_
      refine s_val (x_fa (a := vat v_l7 4 (Int.toNat (i2 : Int))) (v := fat (vat v_l7 4 (Int.toNat (i2 : Int))) 1) rfl (fa_pl Fd43_1 Sz3 (Sl.pl (i := (i2 : Int)) (deSl (H.get (k := 2) rfl)) (by omega) (by omega)))) ?_
      refine s_nil ⟨(H.pick [0, 1, 3, 4, 5, 6, 7, 8, 9, 10, 11, 12] (by decide) rfl), ?_⟩
      refine t_l rfl ?_
      refine t_dofs (k := 2) (i := (i2 : Int)) (dl := l7.set i2 ({ (l7.getD i2 default) with src := ((l7.getD i2 default).src) + r6 })) (off := 1) (o' := { ((l7.set i2 ({ (l7.getD i2 default) with src := ((l7.getD i2 default).src) + r6 })).getD i2 default) with dst := ((l7.getD i2 default).dst) + r6 }) H rfl Sz3 (by omega) (by omega) rfl rfl (by decide) rfl rfl rfl ?_
      intro w140z us141z hr142z H
      replace H : St w w140z [cBlk b_16 [v_l, v_l7, I (r02 + r6), I (r03 + r6)] 26, cOwn (α := Yr) 41 v_l l, cDO 43 3 v_l7 us141z ((l7.set i2 ({ (l7.getD i2 default) with src := ((l7.getD i2 default).src) + r6 })).set i2 ({ ((l7.set i2 ({ (l7.getD i2 default) with src := ((l7.getD i2 default).src) + r6 })).getD i2 default) with dst := ((l7.getD i2 default).dst) + r6 })), cRo B_l7, cBlk b_10 [I s, I s2] 35, cBlk b_9 [I r002, I r012] 35, cBlk nb0_8 [v_order, I q12, I q22] 101, cBlk b_7 [u0_2, u1_3, I r02, I r03] 26, cOwn (α := Yr) 41 u0_2 r00, cOwn (α := Raw 3) 43 u1_3 rr2_4, cRo Bs3_5, cOwn (α := Int) 3 u4_6 r12, cBlk nb0_1 [v_numbers, I q1, I q2] 101] R := H
      refine s_nil ⟨(H.pick [0, 1, 3, 4, 5, 6, 7, 8, 9, 10, 11, 12] (by decide) rfl), ?_⟩
      refine t_nil ?_
      exact ⟨us141z, _, upds_of _ _ ⟨rfl, rfl, rfl, rfl, rfl, rfl, rfl, rfl, rfl, trivial⟩, hM, H, hr142z⟩
     skip
     refine s_val (x_fa (a := vat v_l7 4 (Int.toNat (i2 : Int))) (v := fat (vat v_l7 4 (Int.toNat (i2 : Int))) 1) rfl (fa_pl Fd43_1 Sz3 (Sl.pl (i := (i2 : Int)) (deSl (H.get (k := 2) rfl)) (by omega) (by omega)))) ?_
     refine s_nil ⟨(H.pick [0, 1, 3, 4, 5, 6, 7, 8, 9, 10, 11, 12] (by decide) rfl), ?_⟩
     refine t_l2 rfl rfl ?_ ?_
     ·skip
      refine s_val (x_ld (p := fat (vat v_l7 4 (Int.toNat (i2 : Int))) 0) (v := I ((l7.getD i2 default).src)) rfl (ld_sc Sc3 (At.mono (Old10_at0 (deSl (H.get (k := 2) rfl)) (i := (i2 : Int)) (by omega) (by omega)) (deLe _ (H.get (k := 2) rfl))))) ?_
      refine s_nil ⟨(H.pick [0, 1, 3, 4, 5, 6, 7, 8, 9, 10, 11, 12] (by decide) rfl), ?_⟩
      refine t_q rfl (fun w' H => x_ari (a := (l7.getD i2 default).src) (b := r6) (r := ((l7.getD i2 default).src) + r6) rfl rfl rfl (by omega)) ?_
      refine t_l rfl ?_
      refine s_val (x_ld (p := fat (vat v_l7 4 (Int.toNat (i2 : Int))) 1) (v := I ((l7.getD i2 default).dst)) rfl (ld_sc Sc3 (At.mono (Old10_at1 (deSl (H.get (k := 2) rfl)) (i := (i2 : Int)) (by omega) (by omega)) (deLe _ (H.get (k := 2) rfl))))) ?_
      refine s_nil ⟨(H.pick [0, 1, 3, 4, 5, 6, 7, 8, 9, 10, 11, 12] (by decide) rfl), ?_⟩
      refine t_q rfl (fun w' H => x_ari (a := (l7.getD i2 default).dst) (b := r6) (r := ((l7.getD i2 default).dst) + r6) rfl rfl rfl (by omega)) ?_
      refine t_l rfl ?_
      refine s_val (x_ix (a := v_l7) (b := I (i2 : Int)) (v := vat v_l7 4 (Int.toNat (i2 : Int))) rfl rfl (Sl.ix (α := Old10) T24.und T24.size (deSl (H.get (k := 2) rfl)) (by omega) (by omega))) ?_
      refine s_nil ⟨(H.pick [0, 1, 3, 4, 5, 6, 7, 8, 9, 10, 11, 12] (by decide) rfl), ?_⟩
      refine t_l rfl ?_
      refine s_val (x_fa (a := vat v_l7 4 (Int.toNat (i2 : Int))) (v := fat (vat v_l7 4 (Int.toNat (i2 : Int))) 0) rfl (fa_pl Fd43_0 Sz3 (Sl.pl (i := (i2 : Int)) (deSl (H.get (k := 2) rfl)) (by omega) (by omega)))) ?_
      refine s_nil ⟨(H.pick [0, 1, 3, 4, 5, 6, 7, 8, 9, 10, 11, 12] (by decide) rfl), ?_⟩
      refine t_l rfl ?_
      refine t_dofs (k := 2) (i := (i2 : Int)) (dl := l7) (off := 0) (o' := { (l7.getD i2 default) with src := ((l7.getD i2 default).src) + r6 }) H rfl Sz3 (by omega) (by omega) rfl rfl (by decide) rfl rfl rfl ?_
      intro w144z us145z hr146z H
      replace H : St w w144z [cBlk b_16 [v_l, v_l7, I (r02 + r6), I (r03 + r6)] 26, cOwn (α := Yr) 41 v_l l, cDO 43 3 v_l7 us145z (l7.set i2 ({ (l7.getD i2 default) with src := ((l7.getD i2 default).src) + r6 })), cRo B_l7, cBlk b_10 [I s, I s2] 35, cBlk b_9 [I r002, I r012] 35, cBlk nb0_8 [v_order, I q12, I q22] 101, cBlk b_7 [u0_2, u1_3, I r02, I r03] 26, cOwn (α := Yr) 41 u0_2 r00, cOwn (α := Raw 3) 43 u1_3 rr2_4, cRo Bs3_5, cOwn (α := Int) 3 u4_6 r12, cBlk nb0_1 [v_numbers, I q1, I q2] 101] R := H
      refine s_nil ⟨(H.pick [0, 1, 3, 4, 5, 6, 7, 8, 9, 10, 11, 12] (by decide) rfl), ?_⟩
      refine t_l rfl ?_
      refine s_val (x_ix (a := v_l7) (b := I (i2 : Int)) (v := vat v_l7 4 (Int.toNat (i2 : Int))) rfl rfl (Sl.ix (α := Old10) T24.und T24.size (deSl (H.get (k := 2) rfl)) (by omega) (by omega))) ?_
      refine s_nil ⟨(H.pick [0, 1, 3, 4, 5, 6, 7, 8, 9, 10, 11, 12] (by decide) rfl), ?_⟩
      refine t_l rfl ?_
      refine s_val (x_fa (a := vat v_l7 4 (Int.toNat (i2 : Int))) (v := fat (vat v_l7 4 (Int.toNat (i2 : Int))) 1) rfl (fa_pl Fd43_1 Sz3 (Sl.pl (i := (i2 : Int)) (deSl (H.get (k := 2) rfl)) (by omega) (by omega)))) ?_
      refine s_nil ⟨(H.pick [0, 1, 3, 4, 5, 6, 7, 8, 9, 10, 11, 12] (by decide) rfl), ?_⟩
      refine t_l rfl ?_
      refine t_dofs (k := 2) (i := (i2 : Int)) (dl := l7.set i2 ({ (l7.getD i2 default) with src := ((l7.getD i2 default).src) + r6 })) (off := 1) (o' := { ((l7.set i2 ({ (l7.getD i2 default) with src := ((l7.getD i2 default).src) + r6 })).getD i2 default) with dst := ((l7.getD i2 default).dst) + r6 }) H rfl Sz3 (by omega) (by omega) rfl rfl (by decide) rfl rfl rfl ?_
      intro w148z us149z hr150z H
      replace H : St w w148z [cBlk b_16 [v_l, v_l7, I (r02 + r6), I (r03 + r6)] 26, cOwn (α := Yr) 41 v_l l, cDO 43 3 v_l7 us149z ((l7.set i2 ({ (l7.getD i2 default) with src := ((l7.getD i2 default).src) + r6 })).set i2 ({ ((l7.set i2 ({ (l7.getD i2 default) with src := ((l7.getD i2 default).src) + r6 })).getD i2 default) with dst := ((l7.getD i2 default).dst) + r6 })), cRo B_l7, cBlk b_10 [I s, I s2] 35, cBlk b_9 [I r002, I r012] 35, cBlk nb0_8 [v_order, I q12, I q22] 101, cBlk b_7 [u0_2, u1_3, I r02, I r03] 26, cOwn (α := Yr) 41 u0_2 r00, cOwn (α := Raw 3) 43 u1_3 rr2_4, cRo Bs3_5, cOwn (α := Int) 3 u4_6 r12, cBlk nb0_1 [v_numbers, I q1, I q2] 101] R := H
      refine s_nil ⟨(H.pick [0, 1, 3, 4, 5, 6, 7, 8, 9, 10, 11, 12] (by decide) rfl), ?_⟩
      refine t_nil ?_
      exact ⟨us149z, _, upds_of _ _ ⟨rfl, rfl, rfl, rfl, rfl, rfl, rfl, rfl, rfl, trivial⟩, hM, H, hr150z⟩
     skip
     refine s_val (x_ld (p := fat (vat v_l7 4 (Int.toNat (i2 : Int))) 1) (v := I ((l7.getD i2 default).dst)) rfl (ld_sc Sc3 (At.mono (Old10_at1 (deSl (H.get (k := 2) rfl)) (i := (i2 : Int)) (by omega) (by omega)) (deLe _ (H.get (k := 2) rfl))))) ?_
     refine s_nil ⟨(H.pick [0, 1, 3, 4, 5, 6, 7, 8, 9, 10, 11, 12] (by decide) rfl), ?_⟩
     refine t_q rfl (fun w' H => x_ari (a := (l7.getD i2 default).dst) (b := r6) (r := ((l7.getD i2 default).dst) + r6) rfl rfl rfl (by omega)) ?_
     refine t_l rfl ?_
     refine s_val (x_ld (p := fat (vat v_l7 4 (Int.toNat (i2 : Int))) 0) (v := I ((l7.getD i2 default).src)) rfl (ld_sc Sc3 (At.mono (Old10_at0 (deSl (H.get (k := 2) rfl)) (i := (i2 : Int)) (by omega) (by omega)) (deLe _ (H.get (k := 2) rfl))))) ?_
     refine s_nil ⟨(H.pick [0, 1, 3, 4, 5, 6, 7, 8, 9, 10, 11, 12] (by decide) rfl), ?_⟩
     refine t_q rfl (fun w' H => x_ari (a := (l7.getD i2 default).src) (b := r6) (r := ((l7.getD i2 default).src) + r6) rfl rfl rfl (by omega)) ?_
     refine t_l rfl ?_
     refine s_val (x_ix (a := v_l7) (b := I (i2 : Int)) (v := vat v_l7 4 (Int.toNat (i2 : Int))) rfl rfl (Sl.ix (α := Old10) T24.und T24.size (deSl (H.get (k := 2) rfl)) (by omega) (by omega))) ?_
     refine s_nil ⟨(H.pick [0, 1, 3, 4, 5, 6, 7, 8, 9, 10, 11, 12] (by decide) rfl), ?_⟩
     refine t_l rfl ?_
     refine s_val (x_fa (a := vat v_l7 4 (Int.toNat (i2 : Int))) (v := fat (vat v_l7 4 (Int.toNat (i2 : Int))) 0) rfl (fa_pl Fd43_0 Sz3 (Sl.pl (i := (i2 : Int)) (deSl (H.get (k := 2) rfl)) (by omega) (by omega)))) ?_
     refine s_nil ⟨(H.pick [0, 1, 3, 4, 5, 6, 7, 8, 9, 10, 11, 12] (by decide) rfl), ?_⟩
     refine t_l rfl ?_
     refine t_dofs (k := 2) (i := (i2 : Int)) (dl := l7) (off := 0) (o' := { (l7.getD i2 default) with src := ((l7.getD i2 default).src) + r6 }) H rfl Sz3 (by omega) (by omega) rfl rfl (by decide) rfl rfl rfl ?_
     intro w152z us153z hr154z H
     replace H : St w w152z [cBlk b_16 [v_l, v_l7, I (r02 + r6), I (r03 + r6)] 26, cOwn (α := Yr) 41 v_l l, cDO 43 3 v_l7 us153z (l7.set i2 ({ (l7.getD i2 default) with src := ((l7.getD i2 default).src) + r6 })), cRo B_l7, cBlk b_10 [I s, I s2] 35, cBlk b_9 [I r002, I r012] 35, cBlk nb0_8 [v_order, I q12, I q22] 101, cBlk b_7 [u0_2, u1_3, I r02, I r03] 26, cOwn (α := Yr) 41 u0_2 r00, cOwn (α := Raw 3) 43 u1_3 rr2_4, cRo Bs3_5, cOwn (α := Int) 3 u4_6 r12, cBlk nb0_1 [v_numbers, I q1, I q2] 101] R := H
     refine s_nil ⟨(H.pick [0, 1, 3, 4, 5, 6, 7, 8, 9, 10, 11, 12] (by decide) rfl), ?_⟩
     refine t_l rfl ?_
     refine s_val (x_ix (a := v_l7) (b := I (i2 : Int)) (v := vat v_l7 4 (Int.toNat (i2 : Int))) rfl rfl (Sl.ix (α := Old10) T24.und T24.size (deSl (H.get (k := 2) rfl)) (by omega) (by omega))) ?_
     refine s_nil ⟨(H.pick [0, 1, 3, 4, 5, 6, 7, 8, 9, 10, 11, 12] (by decide) rfl), ?_⟩
     refine t_l rfl ?_
     refine s_val (x_fa (a := vat v_l7 4 (Int.toNat (i2 : Int))) (v := fat (vat v_l7 4 (Int.toNat (i2 : Int))) 1) rfl (fa_pl Fd43_1 Sz3 (Sl.pl (i := (i2 : Int)) (deSl (H.get (k := 2) rfl)) (by omega) (by omega)))) ?_
     refine s_nil ⟨(H.pick [0, 1, 3, 4, 5, 6, 7, 8, 9, 10, 11, 12] (by decide) rfl), ?_⟩
     refine t_l rfl ?_
     refine t_dofs (k := 2) (i := (i2 : Int)) (dl := l7.set i2 ({ (l7.getD i2 default) with src := ((l7.getD i2 default).src) + r6 })) (off := 1) (o' := { ((l7.set i2 ({ (l7.getD i2 default) with src := ((l7.getD i2 default).src) + r6 })).getD i2 default) with dst := ((l7.getD i2 default).dst) + r6 }) H rfl Sz3 (by omega) (by omega) rfl rfl (by decide) rfl rfl rfl ?_
     intro w156z us157z hr158z H
     replace H : St w w156z [cBlk b_16 [v_l, v_l7, I (r02 + r6), I (r03 + r6)] 26, cOwn (α := Yr) 41 v_l l, cDO 43 3 v_l7 us157z ((l7.set i2 ({ (l7.getD i2 default) with src := ((l7.getD i2 default).src) + r6 })).set i2 ({ ((l7.set i2 ({ (l7.getD i2 default) with src := ((l7.getD i2 default).src) + r6 })).getD i2 default) with dst := ((l7.getD i2 default).dst) + r6 })), cRo B_l7, cBlk b_10 [I s, I s2] 35, cBlk b_9 [I r002, I r012] 35, cBlk nb0_8 [v_order, I q12, I q22] 101, cBlk b_7 [u0_2, u1_3, I r02, I r03] 26, cOwn (α := Yr) 41 u0_2 r00, cOwn (α := Raw 3) 43 u1_3 rr2_4, cRo Bs3_5, cOwn (α := Int) 3 u4_6 r12, cBlk nb0_1 [v_numbers, I q1, I q2] 101] R := H
     refine s_nil ⟨(H.pick [0, 1, 3, 4, 5, 6, 7, 8, 9, 10, 11, 12] (by decide) rfl), ?_⟩
     refine t_nil ?_
     exact ⟨us157z, _, upds_of _ _ ⟨rfl, rfl, rfl, rfl, rfl, rfl, rfl, rfl, rfl, trivial⟩, hM, H, hr158z⟩
    skip
    refine s_val (x_ix (a := v_l7) (b := I (i2 : Int)) (v := vat v_l7 4 (Int.toNat (i2 : Int))) rfl rfl (Sl.ix (α := Old10) T24.und T24.size (deSl (H.get (k := 2) rfl)) (by omega) (by omega))) ?_
    refine s_nil ⟨(H.pick [0, 1, 3, 4, 5, 6, 7, 8, 9, 10, 11, 12] (by decide) rfl), ?_⟩
    refine t_l2 rfl rfl ?_ ?_
    ·skip
     refine s_val (x_fa (a := vat v_l7 4 (Int.toNat (i2 : Int))) (v := fat (vat v_l7 4 (Int.toNat (i2 : Int))) 0) rfl (fa_pl Fd43_0 Sz3 (Sl.pl (i := (i2 : Int)) (deSl (H.get (k := 2) rfl)) (by omega) (by omega)))) ?_
     refine s_nil ⟨(H.pick [0, 1, 3, 4, 5, 6, 7, 8, 9, 10, 11, 12] (by decide) rfl), ?_⟩
     refine t_l2 rfl rfl ?_ ?_
     ·skip
      refine s_val (x_ld (p := fat (vat v_l7 4 (Int.toNat (i2 : Int))) 0) (v := I ((l7.getD i2 default).src)) rfl (ld_sc Sc3 (At.mono (Old10_at0 (deSl (H.get (k := 2) rfl)) (i := (i2 : Int)) (by omega) (by omega)) (deLe _ (H.get (k := 2) rfl))))) ?_
      refine s_nil ⟨(H.pick [0, 1, 3, 4, 5, 6, 7, 8, 9, 10, 11, 12] (by decide) rfl), ?_⟩
      refine t_q rfl (fun w' H => x_ari (a := (l7.getD i2 default).src) (b := r6) (r := ((l7.getD i2 default).src) + r6) rfl rfl rfl (by omega)) ?_
      refine t_l rfl ?_
      refine s_val (x_fa (a := vat v_l7 4 (Int.toNat (i2 : Int))) (v := fat (vat v_l7 4 (Int.toNat (i2 : Int))) 1) rfl (fa_pl Fd43_1 Sz3 (Sl.pl (i := (i2 : Int)) (deSl (H.get (k := 2) rfl)) (by omega) (by omega)))) ?_
      refine s_nil ⟨(H.pick [0, 1, 3, 4, 5, 6, 7, 8, 9, 10, 11, 12] (by decide) rfl), ?_⟩
      refine t_l rfl ?_
      refine s_val (x_ld (p := fat (vat v_l7 4 (Int.toNat (i2 : Int))) 1) (v := I ((l7.getD i2 default).dst)) rfl (ld_sc Sc3 (At.mono (Old10_at1 (deSl (H.get (k := 2) rfl)) (i := (i2 : Int)) (by omega) (by omega)) (deLe _ (H.get (k := 2) rfl))))) ?_
      refine s_nil ⟨(H.pick [0, 1, 3, 4, 5, 6, 7, 8, 9, 10, 11, 12] (by decide) rfl), ?_⟩
      refine t_q rfl (fun w' H => x_ari (a := (l7.getD i2 default).dst) (b := r6) (r := ((l7.getD i2 default).dst) + r6) rfl rfl rfl (by omega)) ?_
      refine t_l rfl ?_
      refine s_val (x_ix (a := v_l7) (b := I (i2 : Int)) (v := vat v_l7 4 (Int.toNat (i2 : Int))) rfl rfl (Sl.ix (α := Old10) T24.und T24.size (deSl (H.get (k := 2) rfl)) (by omega) (by omega))) ?_
      refine s_nil ⟨(H.pick [0, 1, 3, 4, 5, 6, 7, 8, 9, 10, 11, 12] (by decide) rfl), ?_⟩
      refine t_l rfl ?_
      refine s_val (x_fa (a := vat v_l7 4 (Int.toNat (i2 : Int))) (v := fat (vat v_l7 4 (Int.toNat (i2 : Int))) 0) rfl (fa_pl Fd43_0 Sz3 (Sl.pl (i := (i2 : Int)) (deSl (H.get (k := 2) rfl)) (by omega) (by omega)))) ?_
      refine s_nil ⟨(H.pick [0, 1, 3, 4, 5, 6, 7, 8, 9, 10, 11, 12] (by decide) rfl), ?_⟩
      refine t_l rfl ?_
      refine t_dofs (k := 2) (i := (i2 : Int)) (dl := l7) (off := 0) (o' := { (l7.getD i2 default) with src := ((l7.getD i2 default).src) + r6 }) H rfl Sz3 (by omega) (by omega) rfl rfl (by decide) rfl rfl rfl ?_
      intro w160z us161z hr162z H
      replace H : St w w160z [cBlk b_16 [v_l, v_l7, I (r02 + r6), I (r03 + r6)] 26, cOwn (α := Yr) 41 v_l l, cDO 43 3 v_l7 us161z (l7.set i2 ({ (l7.getD i2 default) with src := ((l7.getD i2 default).src) + r6 })), cRo B_l7, cBlk b_10 [I s, I s2] 35, cBlk b_9 [I r002, I r012] 35, cBlk nb0_8 [v_order, I q12, I q22] 101, cBlk b_7 [u0_2, u1_3, I r02, I r03] 26, cOwn (α := Yr) 41 u0_2 r00, cOwn (α := Raw 3) 43 u1_3 rr2_4, cRo Bs3_5, cOwn (α := Int) 3 u4_6 r12, cBlk nb0_1 [v_numbers, I q1, I q2] 101] R := H
      refine s_nil ⟨(H.pick [0, 1, 3, 4, 5, 6, 7, 8, 9, 10, 11, 12] (by decide) rfl), ?_⟩
      refine t_l rfl ?_
      refine s_val (x_ix (a := v_l7) (b := I (i2 : Int)) (v := vat v_l7 4 (Int.toNat (i2 : Int))) rfl rfl (Sl.ix (α := Old10) T24.und T24.size (deSl (H.get (k := 2) rfl)) (by omega) (by omega))) ?_
      refine s_nil ⟨(H.pick [0, 1, 3, 4, 5, 6, 7, 8, 9, 10, 11, 12] (by decide) rfl), ?_⟩
      refine t_l rfl ?_
      refine s_val (x_fa (a := vat v_l7 4 (Int.toNat (i2 : Int))) (v := fat (vat v_l7 4 (Int.toNat (i2 : Int))) 1) rfl (fa_pl Fd43_1 Sz3 (Sl.pl (i := (i2 : Int)) (deSl (H.get (k := 2) rfl)) (by omega) (by omega)))) ?_
      refine s_nil ⟨(H.pick [0, 1, 3, 4, 5, 6, 7, 8, 9, 10, 11, 12] (by decide) rfl), ?_⟩
      refine t_l rfl ?_
      refine t_dofs (k := 2) (i := (i2 : Int)) (dl := l7.set i2 ({ (l7.getD i2 default) with src := ((l7.getD i2 default).src) + r6 })) (off := 1) (o' := { ((l7.set i2 ({ (l7.getD i2 default) with src := ((l7.getD i2 default).src) + r6 })).getD i2 default) with dst := ((l7.getD i2 default).dst) + r6 }) H rfl Sz3 (by omega) (by omega) rfl rfl (by decide) rfl rfl rfl ?_
      intro w164z us165z hr166z H
      replace H : St w w164z [cBlk b_16 [v_l, v_l7, I (r02 + r6), I (r03 + r6)] 26, cOwn (α := Yr) 41 v_l l, cDO 43 3 v_l7 us165z ((l7.set i2 ({ (l7.getD i2 default) with src := ((l7.getD i2 default).src) + r6 })).set i2 ({ ((l7.set i2 ({ (l7.getD i2 default) with src := ((l7.getD i2 default).src) + r6 })).getD i2 default) with dst := ((l7.getD i2 default).dst) + r6 })), cRo B_l7, cBlk b_10 [I s, I s2] 35, cBlk b_9 [I r002, I r012] 35, cBlk nb0_8 [v_order, I q12, I q22] 101, cBlk b_7 [u0_2, u1_3, I r02, I r03] 26, cOwn (α := Yr) 41 u0_2 r00, cOwn (α := Raw 3) 43 u1_3 rr2_4, cRo Bs3_5, cOwn (α := Int) 3 u4_6 r12, cBlk nb0_1 [v_numbers, I q1, I q2] 101] R := H
      refine s_nil ⟨(H.pick [0, 1, 3, 4, 5, 6, 7, 8, 9, 10, 11, 12] (by decide) rfl), ?_⟩
      refine t_nil ?_
      exact ⟨us165z, _, upds_of _ _ ⟨rfl, rfl, rfl, rfl, rfl, rfl, rfl, rfl, rfl, trivial⟩, hM, H, hr166z⟩
     skip
     refine s_val (x_fa (a := vat v_l7 4 (Int.toNat (i2 : Int))) (v := fat (vat v_l7 4 (Int.toNat (i2 : Int))) 1) rfl (fa_pl Fd43_1 Sz3 (Sl.pl (i := (i2 : Int)) (deSl (H.get (k := 2) rfl)) (by omega) (by omega)))) ?_
     refine s_nil ⟨(H.pick [0, 1, 3, 4, 5, 6, 7, 8, 9, 10, 11, 12] (by decide) rfl), ?_⟩
     refine t_l2 rfl rfl ?_ ?_
     ·skip
      refine s_val (x_ld (p := fat (vat v_l7 4 (Int.toNat (i2 : Int))) 0) (v := I ((l7.getD i2 default).src)) rfl (ld_sc Sc3 (At.mono (Old10_at0 (deSl (H.get (k := 2) rfl)) (i := (i2 : Int)) (by omega) (by omega)) (deLe _ (H.get (k := 2) rfl))))) ?_
      refine s_nil ⟨(H.pick [0, 1, 3, 4, 5, 6, 7, 8, 9, 10, 11, 12] (by decide) rfl), ?_⟩
      refine t_q rfl (fun w' H => x_ari (a := (l7.getD i2 default).src) (b := r6) (r := ((l7.getD i2 default).src) + r6) rfl rfl rfl (by omega)) ?_
      refine t_l rfl ?_
      refine s_val (x_ld (p := fat (vat v_l7 4 (Int.toNat (i2 : Int))) 1) (v := I ((l7.getD i2 default).dst)) rfl (ld_sc Sc3 (At.mono (Old10_at1 (deSl (H.get (k := 2) rfl)) (i := (i2 : Int)) (by omega) (by omega)) (deLe _ (H.get (k := 2) rfl))))) ?_
      refine s_nil ⟨(H.pick [0, 1, 3, 4, 5, 6, 7, 8, 9, 10, 11, 12] (by decide) rfl), ?_⟩
      refine t_q rfl (fun w' H => x_ari (a := (l7.getD i2 default).dst) (b := r6) (r := ((l7.getD i2 default).dst) + r6) rfl rfl rfl (by omega)) ?_
      refine t_l rfl ?_
      refine s_val (x_ix (a := v_l7) (b := I (i2 : Int)) (v := vat v_l7 4 (Int.toNat (i2 : Int))) rfl rfl (Sl.ix (α := Old10) T24.und T24.size (deSl (H.get (k := 2) rfl)) (by omega) (by omega))) ?_
      refine s_nil ⟨(H.pick [0, 1, 3, 4, 5, 6, 7, 8, 9, 10, 11, 12] (by decide) rfl), ?_⟩
      refine t_l rfl ?_
      refine s_val (x_fa (a := vat v_l7 4 (Int.toNat (i2 : Int))) (v := fat (vat v_l7 4 (Int.toNat (i2 : Int))) 0) rfl (fa_pl Fd43_0 Sz3 (Sl.pl (i := (i2 : Int)) (deSl (H.get (k := 2) rfl)) (by omega) (by omega)))) ?_
      refine s_nil ⟨(H.pick [0, 1, 3, 4, 5, 6, 7, 8, 9, 10, 11, 12] (by decide) rfl), ?_⟩
      refine t_l rfl ?_
      refine t_dofs (k := 2) (i := (i2 : Int)) (dl := l7) (off := 0) (o' := { (l7.getD i2 default) with src := ((l7.getD i2 default).src) + r6 }) H rfl Sz3 (by omega) (by omega) rfl rfl (by decide) rfl rfl rfl ?_
      intro w168z us169z hr170z H
      replace H : St w w168z [cBlk b_16 [v_l, v_l7, I (r02 + r6), I (r03 + r6)] 26, cOwn (α := Yr) 41 v_l l, cDO 43 3 v_l7 us169z (l7.set i2 ({ (l7.getD i2 default) with src := ((l7.getD i2 default).src) + r6 })), cRo B_l7, cBlk b_10 [I s, I s2] 35, cBlk b_9 [I r002, I r012] 35, cBlk nb0_8 [v_order, I q12, I q22] 101, cBlk b_7 [u0_2, u1_3, I r02, I r03] 26, cOwn (α := Yr) 41 u0_2 r00, cOwn (α := Raw 3) 43 u1_3 rr2_4, cRo Bs3_5, cOwn (α := Int) 3 u4_6 r12, cBlk nb0_1 [v_numbers, I q1, I q2] 101] R := H
      refine s_nil ⟨(H.pick [0, 1, 3, 4, 5, 6, 7, 8, 9, 10, 11, 12] (by decide) rfl), ?_⟩
      refine t_l rfl ?_
      refine s_val (x_ix (a := v_l7) (b := I (i2 : Int)) (v := vat v_l7 4 (Int.toNat (i2 : Int))) rfl rfl (Sl.ix (α := Old10) T24.und T24.size (deSl (H.get (k := 2) rfl)) (by omega) (by omega))) ?_
      refine s_nil ⟨(H.pick [0, 1, 3, 4, 5, 6, 7, 8, 9, 10, 11, 12] (by decide) rfl), ?_⟩
      refine t_l rfl ?_
      refine s_val (x_fa (a := vat v_l7 4 (Int.toNat (i2 : Int))) (v := fat (vat v_l7 4 (Int.toNat (i2 : Int))) 1) rfl (fa_pl Fd43_1 Sz3 (Sl.pl (i := (i2 : Int)) (deSl (H.get (k := 2) rfl)) (by omega) (by omega)))) ?_
      refine s_nil ⟨(H.pick [0, 1, 3, 4, 5, 6, 7, 8, 9, 10, 11, 12] (by decide) rfl), ?_⟩
      refine t_l rfl ?_
      refine t_dofs (k := 2) (i := (i2 : Int)) (dl := l7.set i2 ({ (l7.getD i2 default) with src := ((l7.getD i2 default).src) + r6 })) (off := 1) (o' := { ((l7.set i2 ({ (l7.getD i2 default) with src := ((l7.getD i2 default).src) + r6 })).getD i2 default) with dst := ((l7.getD i2 default).dst) + r6 }) H rfl Sz3 (by omega) (by omega) rfl rfl (by decide) rfl rfl rfl ?_
      intro w172z us173z hr174z H
      replace H : St w w172z [cBlk b_16 [v_l, v_l7, I (r02 + r6), I (r03 + r6)] 26, cOwn (α := Yr) 41 v_l l, cDO 43 3 v_l7 us173z ((l7.set i2 ({ (l7.getD i2 default) with src := ((l7.getD i2 default).src) + r6 })).set i2 ({ ((l7.set i2 ({ (l7.getD i2 default) with src := ((l7.getD i2 default).src) + r6 })).getD i2 default) with dst := ((l7.getD i2 default).dst) + r6 })), cRo B_l7, cBlk b_10 [I s, I s2] 35, cBlk b_9 [I r002, I r012] 35, cBlk nb0_8 [v_order, I q12, I q22] 101, cBlk b_7 [u0_2, u1_3, I r02, I r03] 26, cOwn (α := Yr) 41 u0_2 r00, cOwn (α := Raw 3) 43 u1_3 rr2_4, cRo Bs3_5, cOwn (α := Int) 3 u4_6 r12, cBlk nb0_1 [v_numbers, I q1, I q2] 101] R := H
      refine s_nil ⟨(H.pick [0, 1, 3, 4, 5, 6, 7, 8, 9, 10, 11, 12] (by decide) rfl), ?_⟩
      refine t_nil ?_
      exact ⟨us173z, _, upds_of _ _ ⟨rfl, rfl, rfl, rfl, rfl, rfl, rfl, rfl, rfl, trivial⟩, hM, H, hr174z⟩
     skip
     refine s_val (x_ld (p := fat (vat v_l7 4 (Int.toNat (i2 : Int))) 1) (v := I ((l7.getD i2 default).dst)) rfl (ld_sc Sc3 (At.mono (Old10_at1 (deSl (H.get (k := 2) rfl)) (i := (i2 : Int)) (by omega) (by omega)) (deLe _ (H.get (k := 2) rfl))))) ?_
     refine s_nil ⟨(H.pick [0, 1, 3, 4, 5, 6, 7, 8, 9, 10, 11, 12] (by decide) rfl), ?_⟩
     refine t_q rfl (fun w' H => x_ari (a := (l7.getD i2 default).dst) (b := r6) (r := ((l7.getD i2 default).dst) + r6) rfl rfl rfl (by omega)) ?_
     refine t_l rfl ?_
     refine s_val (x_ld (p := fat (vat v_l7 4 (Int.toNat (i2 : Int))) 0) (v := I ((l7.getD i2 default).src)) rfl (ld_sc Sc3 (At.mono (Old10_at0 (deSl (H.get (k := 2) rfl)) (i := (i2 : Int)) (by omega) (by omega)) (deLe _ (H.get (k := 2) rfl))))) ?_
     refine s_nil ⟨(H.pick [0, 1, 3, 4, 5, 6, 7, 8, 9, 10, 11, 12] (by decide) rfl), ?_⟩
     refine t_q rfl (fun w' H => x_ari (a := (l7.getD i2 default).src) (b := r6) (r := ((l7.getD i2 default).src) + r6) rfl rfl rfl (by omega)) ?_
     refine t_l rfl ?_
     refine s_val (x_ix (a := v_l7) (b := I (i2 : Int)) (v := vat v_l7 4 (Int.toNat (i2 : Int))) rfl rfl (Sl.ix (α := Old10) T24.und T24.size (deSl (H.get (k := 2) rfl)) (by omega) (by omega))) ?_
     refine s_nil ⟨(H.pick [0, 1, 3, 4, 5, 6, 7, 8, 9, 10, 11, 12] (by decide) rfl), ?_⟩
     refine t_l rfl ?_
     refine s_val (x_fa (a := vat v_l7 4 (Int.toNat (i2 : Int))) (v := fat (vat v_l7 4 (Int.toNat (i2 : Int))) 0) rfl (fa_pl Fd43_0 Sz3 (Sl.pl (i := (i2 : Int)) (deSl (H.get (k := 2) rfl)) (by omega) (by omega)))) ?_
     refine s_nil ⟨(H.pick [0, 1, 3, 4, 5, 6, 7, 8, 9, 10, 11, 12] (by decide) rfl), ?_⟩
     refine t_l rfl ?_
     refine t_dofs (k := 2) (i := (i2 : Int)) (dl := l7) (off := 0) (o' := { (l7.getD i2 default) with src := ((l7.getD i2 default).src) + r6 }) H rfl Sz3 (by omega) (by omega) rfl rfl (by decide) rfl rfl rfl ?_
     intro w176z us177z hr178z H
     replace H : St w w176z [cBlk b_16 [v_l, v_l7, I (r02 + r6), I (r03 + r6)] 26, cOwn (α := Yr) 41 v_l l, cDO 43 3 v_l7 us177z (l7.set i2 ({ (l7.getD i2 default) with src := ((l7.getD i2 default).src) + r6 })), cRo B_l7, cBlk b_10 [I s, I s2] 35, cBlk b_9 [I r002, I r012] 35, cBlk nb0_8 [v_order, I q12, I q22] 101, cBlk b_7 [u0_2, u1_3, I r02, I r03] 26, cOwn (α := Yr) 41 u0_2 r00, cOwn (α := Raw 3) 43 u1_3 rr2_4, cRo Bs3_5, cOwn (α := Int) 3 u4_6 r12, cBlk nb0_1 [v_numbers, I q1, I q2] 101] R := H
     refine s_nil ⟨(H.pick [0, 1, 3, 4, 5, 6, 7, 8, 9, 10, 11, 12] (by decide) rfl), ?_⟩
     refine t_l rfl ?_
     refine s_val (x_ix (a := v_l7) (b := I (i2 : Int)) (v := vat v_l7 4 (Int.toNat (i2 : Int))) rfl rfl (Sl.ix (α := Old10) T24.und T24.size (deSl (H.get (k := 2) rfl)) (by omega) (by omega))) ?_
     refine s_nil ⟨(H.pick [0, 1, 3, 4, 5, 6, 7, 8, 9, 10, 11, 12] (by decide) rfl), ?_⟩
     refine t_l rfl ?_
     refine s_val (x_fa (a := vat v_l7 4 (Int.toNat (i2 : Int))) (v := fat (vat v_l7 4 (Int.toNat (i2 : Int))) 1) rfl (fa_pl Fd43_1 Sz3 (Sl.pl (i := (i2 : Int)) (deSl (H.get (k := 2) rfl)) (by omega) (by omega)))) ?_
     refine s_nil ⟨(H.pick [0, 1, 3, 4, 5, 6, 7, 8, 9, 10, 11, 12] (by decide) rfl), ?_⟩
     refine t_l rfl ?_
     refine t_dofs (k := 2) (i := (i2 : Int)) (dl := l7.set i2 ({ (l7.getD i2 default) with src := ((l7.getD i2 default).src) + r6 })) (off := 1) (o' := { ((l7.set i2 ({ (l7.getD i2 default) with src := ((l7.getD i2 default).src) + r6 })).getD i2 default) with dst := ((l7.getD i2 default).dst) + r6 }) H rfl Sz3 (by omega) (by omega) rfl rfl (by decide) rfl rfl rfl ?_
     intro w180z us181z hr182z H
     replace H : St w w180z [cBlk b_16 [v_l, v_l7, I (r02 + r6), I (r03 + r6)] 26, cOwn (α := Yr) 41 v_l l, cDO 43 3 v_l7 us181z ((l7.set i2 ({ (l7.getD i2 default) with src := ((l7.getD i2 default).src) + r6 })).set i2 ({ ((l7.set i2 ({ (l7.getD i2 default) with src := ((l7.getD i2 default).src) + r6 })).getD i2 default) with dst := ((l7.getD i2 default).dst) + r6 })), cRo B_l7, cBlk b_10 [I s, I s2] 35, cBlk b_9 [I r002, I r012] 35, cBlk nb0_8 [v_order, I q12, I q22] 101, cBlk b_7 [u0_2, u1_3, I r02, I r03] 26, cOwn (α := Yr) 41 u0_2 r00, cOwn (α := Raw 3) 43 u1_3 rr2_4, cRo Bs3_5, cOwn (α := Int) 3 u4_6 r12, cBlk nb0_1 [v_numbers, I q1, I q2] 101] R := H
     refine s_nil ⟨(H.pick [0, 1, 3, 4, 5, 6, 7, 8, 9, 10, 11, 12] (by decide) rfl), ?_⟩
     refine t_nil ?_
     exact ⟨us181z, _, upds_of _ _ ⟨rfl, rfl, rfl, rfl, rfl, rfl, rfl, rfl, rfl, trivial⟩, hM, H, hr182z⟩
    skip
    refine s_val (x_fa (a := vat v_l7 4 (Int.toNat (i2 : Int))) (v := fat (vat v_l7 4 (Int.toNat (i2 : Int))) 1) rfl (fa_pl Fd43_1 Sz3 (Sl.pl (i := (i2 : Int)) (deSl (H.get (k := 2) rfl)) (by omega) (by omega)))) ?_
    refine s_nil ⟨(H.pick [0, 1, 3, 4, 5, 6, 7, 8, 9, 10, 11, 12] (by decide) rfl), ?_⟩
    refine t_l2 rfl rfl ?_ ?_
    ·skip
     refine s_val (x_fa (a := vat v_l7 4 (Int.toNat (i2 : Int))) (v := fat (vat v_l7 4 (Int.toNat (i2 : Int))) 0) rfl (fa_pl Fd43_0 Sz3 (Sl.pl (i := (i2 : Int)) (deSl (H.get (k := 2) rfl)) (by omega) (by omega)))) ?_
     refine s_nil ⟨(H.pick [0, 1, 3, 4, 5, 6, 7, 8, 9, 10, 11, 12] (by decide) rfl), ?_⟩
     refine t_l2 rfl rfl ?_ ?_
     ·skip
      refine s_val (x_ld (p := fat (vat v_l7 4 (Int.toNat (i2 : Int))) 0) (v := I ((l7.getD i2 default).src)) rfl (ld_sc Sc3 (At.mono (Old10_at0 (deSl (H.get (k := 2) rfl)) (i := (i2 : Int)) (by omega) (by omega)) (deLe _ (H.get (k := 2) rfl))))) ?_
      refine s_nil ⟨(H.pick [0, 1, 3, 4, 5, 6, 7, 8, 9, 10, 11, 12] (by decide) rfl), ?_⟩
      refine t_q rfl (fun w' H => x_ari (a := (l7.getD i2 default).src) (b := r6) (r := ((l7.getD i2 default).src) + r6) rfl rfl rfl (by omega)) ?_
      refine t_l rfl ?_
      refine s_val (x_ld (p := fat (vat v_l7 4 (Int.toNat (i2 : Int))) 1) (v := I ((l7.getD i2 default).dst)) rfl (ld_sc Sc3 (At.mono (Old10_at1 (deSl (H.get (k := 2) rfl)) (i := (i2 : Int)) (by omega) (by omega)) (deLe _ (H.get (k := 2) rfl))))) ?_
      refine s_nil ⟨(H.pick [0, 1, 3, 4, 5, 6, 7, 8, 9, 10, 11, 12] (by decide) rfl), ?_⟩
      refine t_q rfl (fun w' H => x_ari (a := (l7.getD i2 default).dst) (b := r6) (r := ((l7.getD i2 default).dst) + r6) rfl rfl rfl (by omega)) ?_
      refine t_l rfl ?_
      refine s_val (x_ix (a := v_l7) (b := I (i2 : Int)) (v := vat v_l7 4 (Int.toNat (i2 : Int))) rfl rfl (Sl.ix (α := Old10) T24.und T24.size (deSl (H.get (k := 2) rfl)) (by omega) (by omega))) ?_
      refine s_nil ⟨(H.pick [0, 1, 3, 4, 5, 6, 7, 8, 9, 10, 11, 12] (by decide) rfl), ?_⟩
      refine t_l rfl ?_
      refine s_val (x_fa (a := vat v_l7 4 (Int.toNat (i2 : Int))) (v := fat (vat v_l7 4 (Int.toNat (i2 : Int))) 0) rfl (fa_pl Fd43_0 Sz3 (Sl.pl (i := (i2 : Int)) (deSl (H.get (k := 2) rfl)) (by omega) (by omega)))) ?_
      refine s_nil ⟨(H.pick [0, 1, 3, 4, 5, 6, 7, 8, 9, 10, 11, 12] (by decide) rfl), ?_⟩
      refine t_l rfl ?_
      refine t_dofs (k := 2) (i := (i2 : Int)) (dl := l7) (off := 0) (o' := { (l7.getD i2 default) with src := ((l7.getD i2 default).src) + r6 }) H rfl Sz3 (by omega) (by omega) rfl rfl (by decide) rfl rfl rfl ?_
      intro w184z us185z hr186z H
      replace H : St w w184z [cBlk b_16 [v_l, v_l7, I (r02 + r6), I (r03 + r6)] 26, cOwn (α := Yr) 41 v_l l, cDO 43 3 v_l7 us185z (l7.set i2 ({ (l7.getD i2 default) with src := ((l7.getD i2 default).src) + r6 })), cRo B_l7, cBlk b_10 [I s, I s2] 35, cBlk b_9 [I r002, I r012] 35, cBlk nb0_8 [v_order, I q12, I q22] 101, cBlk b_7 [u0_2, u1_3, I r02, I r03] 26, cOwn (α := Yr) 41 u0_2 r00, cOwn (α := Raw 3) 43 u1_3 rr2_4, cRo Bs3_5, cOwn (α := Int) 3 u4_6 r12, cBlk nb0_1 [v_numbers, I q1, I q2] 101] R := H
      refine s_nil ⟨(H.pick [0, 1, 3, 4, 5, 6, 7, 8, 9, 10, 11, 12] (by decide) rfl), ?_⟩
      refine t_l rfl ?_
      refine s_val (x_ix (a := v_l7) (b := I (i2 : Int)) (v := vat v_l7 4 (Int.toNat (i2 : Int))) rfl rfl (Sl.ix (α := Old10) T24.und T24.size (deSl (H.get (k := 2) rfl)) (by omega) (by omega))) ?_
      refine s_nil ⟨(H.pick [0, 1, 3, 4, 5, 6, 7, 8, 9, 10, 11, 12] (by decide) rfl), ?_⟩
      refine t_l rfl ?_
      refine s_val (x_fa (a := vat v_l7 4 (Int.toNat (i2 : Int))) (v := fat (vat v_l7 4 (Int.toNat (i2 : Int))) 1) rfl (fa_pl Fd43_1 Sz3 (Sl.pl (i := (i2 : Int)) (deSl (H.get (k := 2) rfl)) (by omega) (by omega)))) ?_
      refine s_nil ⟨(H.pick [0, 1, 3, 4, 5, 6, 7, 8, 9, 10, 11, 12] (by decide) rfl), ?_⟩
      refine t_l rfl ?_
      refine t_dofs (k := 2) (i := (i2 : Int)) (dl := l7.set i2 ({ (l7.getD i2 default) with src := ((l7.getD i2 default).src) + r6 })) (off := 1) (o' := { ((l7.set i2 ({ (l7.getD i2 default) with src := ((l7.getD i2 default).src) + r6 })).getD i2 default) with dst := ((l7.getD i2 default).dst) + r6 }) H rfl Sz3 (by omega) (by omega) rfl rfl (by decide) rfl rfl rfl ?_
      intro w188z us189z hr190z H
      replace H : St w w188z [cBlk b_16 [v_l, v_l7, I (r02 + r6), I (r03 + r6)] 26, cOwn (α := Yr) 41 v_l l, cDO 43 3 v_l7 us189z ((l7.set i2 ({ (l7.getD i2 default) with src := ((l7.getD i2 default).src) + r6 })).set i2 ({ ((l7.set i2 ({ (l7.getD i2 default) with src := ((l7.getD i2 default).src) + r6 })).getD i2 default) with dst := ((l7.getD i2 default).dst) + r6 })), cRo B_l7, cBlk b_10 [I s, I s2] 35, cBlk b_9 [I r002, I r012] 35, cBlk nb0_8 [v_order, I q12, I q22] 101, cBlk b_7 [u0_2, u1_3, I r02, I r03] 26, cOwn (α := Yr) 41 u0_2 r00, cOwn (α := Raw 3) 43 u1_3 rr2_4, cRo Bs3_5, cOwn (α := Int) 3 u4_6 r12, cBlk nb0_1 [v_numbers, I q1, I q2] 101] R := H
      refine s_nil ⟨(H.pick [0, 1, 3, 4, 5, 6, 7, 8, 9, 10, 11, 12] (by decide) rfl), ?_⟩
      refine t_nil ?_
      exact ⟨us189z, _, upds_of _ _ ⟨rfl, rfl, rfl, rfl, rfl, rfl, rfl, rfl, rfl, trivial⟩, hM, H, hr190z⟩
     skip
     refine s_val (x_ld (p := fat (vat v_l7 4 (Int.toNat (i2 : Int))) 1) (v := I ((l7.getD i2 default).dst)) rfl (ld_sc Sc3 (At.mono (Old10_at1 (deSl (H.get (k := 2) rfl)) (i := (i2 : Int)) (by omega) (by omega)) (deLe _ (H.get (k := 2) rfl))))) ?_
     refine s_nil ⟨(H.pick [0, 1, 3, 4, 5, 6, 7, 8, 9, 10, 11, 12] (by decide) rfl), ?_⟩
     refine t_q rfl (fun w' H => x_ari (a := (l7.getD i2 default).dst) (b := r6) (r := ((l7.getD i2 default).dst) + r6) rfl rfl rfl (by omega)) ?_
     refine t_l rfl ?_
     refine s_val (x_ld (p := fat (vat v_l7 4 (Int.toNat (i2 : Int))) 0) (v := I ((l7.getD i2 default).src)) rfl (ld_sc Sc3 (At.mono (Old10_at0 (deSl (H.get (k := 2) rfl)) (i := (i2 : Int)) (by omega) (by omega)) (deLe _ (H.get (k := 2) rfl))))) ?_
     refine s_nil ⟨(H.pick [0, 1, 3, 4, 5, 6, 7, 8, 9, 10, 11, 12] (by decide) rfl), ?_⟩
     refine t_q rfl (fun w' H => x_ari (a := (l7.getD i2 default).src) (b := r6) (r := ((l7.getD i2 default).src) + r6) rfl rfl rfl (by omega)) ?_
     refine t_l rfl ?_
     refine s_val (x_ix (a := v_l7) (b := I (i2 : Int)) (v := vat v_l7 4 (Int.toNat (i2 : Int))) rfl rfl (Sl.ix (α := Old10) T24.und T24.size (deSl (H.get (k := 2) rfl)) (by omega) (by omega))) ?_
     refine s_nil ⟨(H.pick [0, 1, 3, 4, 5, 6, 7, 8, 9, 10, 11, 12] (by decide) rfl), ?_⟩
     refine t_l rfl ?_
     refine s_val (x_fa (a := vat v_l7 4 (Int.toNat (i2 : Int))) (v := fat (vat v_l7 4 (Int.toNat (i2 : Int))) 0) rfl (fa_pl Fd43_0 Sz3 (Sl.pl (i := (i2 : Int)) (deSl (H.get (k := 2) rfl)) (by omega) (by omega)))) ?_
     refine s_nil ⟨(H.pick [0, 1, 3, 4, 5, 6, 7, 8, 9, 10, 11, 12] (by decide) rfl), ?_⟩
     refine t_l rfl ?_
     refine t_dofs (k := 2) (i := (i2 : Int)) (dl := l7) (off := 0) (o' := { (l7.getD i2 default) with src := ((l7.getD i2 default).src) + r6 }) H rfl Sz3 (by omega) (by omega) rfl rfl (by decide) rfl rfl rfl ?_
     intro w192z us193z hr194z H
     replace H : St w w192z [cBlk b_16 [v_l, v_l7, I (r02 + r6), I (r03 + r6)] 26, cOwn (α := Yr) 41 v_l l, cDO 43 3 v_l7 us193z (l7.set i2 ({ (l7.getD i2 default) with src := ((l7.getD i2 default).src) + r6 })), cRo B_l7, cBlk b_10 [I s, I s2] 35, cBlk b_9 [I r002, I r012] 35, cBlk nb0_8 [v_order, I q12, I q22] 101, cBlk b_7 [u0_2, u1_3, I r02, I r03] 26, cOwn (α := Yr) 41 u0_2 r00, cOwn (α := Raw 3) 43 u1_3 rr2_4, cRo Bs3_5, cOwn (α := Int) 3 u4_6 r12, cBlk nb0_1 [v_numbers, I q1, I q2] 101] R := H
     refine s_nil ⟨(H.pick [0, 1, 3, 4, 5, 6, 7, 8, 9, 10, 11, 12] (by decide) rfl), ?_⟩
     refine t_l rfl ?_
     refine s_val (x_ix (a := v_l7) (b := I (i2 : Int)) (v := vat v_l7 4 (Int.toNat (i2 : Int))) rfl rfl (Sl.ix (α := Old10) T24.und T24.size (deSl (H.get (k := 2) rfl)) (by omega) (by omega))) ?_
     refine s_nil ⟨(H.pick [0, 1, 3, 4, 5, 6, 7, 8, 9, 10, 11, 12] (by decide) rfl), ?_⟩
     refine t_l rfl ?_
     refine s_val (x_fa (a := vat v_l7 4 (Int.toNat (i2 : Int))) (v := fat (vat v_l7 4 (Int.toNat (i2 : Int))) 1) rfl (fa_pl Fd43_1 Sz3 (Sl.pl (i := (i2 : Int)) (deSl (H.get (k := 2) rfl)) (by omega) (by omega)))) ?_
     refine s_nil ⟨(H.pick [0, 1, 3, 4, 5, 6, 7, 8, 9, 10, 11, 12] (by decide) rfl), ?_⟩
     refine t_l rfl ?_
     refine t_dofs (k := 2) (i := (i2 : Int)) (dl := l7.set i2 ({ (l7.getD i2 default) with src := ((l7.getD i2 default).src) + r6 })) (off := 1) (o' := { ((l7.set i2 ({ (l7.getD i2 default) with src := ((l7.getD i2 default).src) + r6 })).getD i2 default) with dst := ((l7.getD i2 default).dst) + r6 }) H rfl Sz3 (by omega) (by omega) rfl rfl (by decide) rfl rfl rfl ?_
     intro w196z us197z hr198z H
     replace H : St w w196z [cBlk b_16 [v_l, v_l7, I (r02 + r6), I (r03 + r6)] 26, cOwn (α := Yr) 41 v_l l, cDO 43 3 v_l7 us197z ((l7.set i2 ({ (l7.getD i2 default) with src := ((l7.getD i2 default).src) + r6 })).set i2 ({ ((l7.set i2 ({ (l7.getD i2 default) with src := ((l7.getD i2 default).src) + r6 })).getD i2 default) with dst := ((l7.getD i2 default).dst) + r6 })), cRo B_l7, cBlk b_10 [I s, I s2] 35, cBlk b_9 [I r002, I r012] 35, cBlk nb0_8 [v_order, I q12, I q22] 101, cBlk b_7 [u0_2, u1_3, I r02, I r03] 26, cOwn (α := Yr) 41 u0_2 r00, cOwn (α := Raw 3) 43 u1_3 rr2_4, cRo Bs3_5, cOwn (α := Int) 3 u4_6 r12, cBlk nb0_1 [v_numbers, I q1, I q2] 101] R := H
     refine s_nil ⟨(H.pick [0, 1, 3, 4, 5, 6, 7, 8, 9, 10, 11, 12] (by decide) rfl), ?_⟩
     refine t_nil ?_
     exact ⟨us197z, _, upds_of _ _ ⟨rfl, rfl, rfl, rfl, rfl, rfl, rfl, rfl, rfl, trivial⟩, hM, H, hr198z⟩
    skip
    refine s_val (x_ld (p := fat (vat v_l7 4 (Int.toNat (i2 : Int))) 1) (v := I ((l7.getD i2 default).dst)) rfl (ld_sc Sc3 (At.mono (Old10_at1 (deSl (H.get (k := 2) rfl)) (i := (i2 : Int)) (by omega) (by omega)) (deLe _ (H.get (k := 2) rfl))))) ?_
    refine s_nil ⟨(H.pick [0, 1, 3, 4, 5, 6, 7, 8, 9, 10, 11, 12] (by decide) rfl), ?_⟩
    refine t_q rfl (fun w' H => x_ari (a := (l7.getD i2 default).dst) (b := r6) (r := ((l7.getD i2 default).dst) + r6) rfl rfl rfl (by omega)) ?_
    refine t_l rfl ?_
    refine s_val (x_fa (a := vat v_l7 4 (Int.toNat (i2 : Int))) (v := fat (vat v_l7 4 (Int.toNat (i2 : Int))) 0) rfl (fa_pl Fd43_0 Sz3 (Sl.pl (i := (i2 : Int)) (deSl (H.get (k := 2) rfl)) (by omega) (by omega)))) ?_
    refine s_nil ⟨(H.pick [0, 1, 3, 4, 5, 6, 7, 8, 9, 10, 11, 12] (by decide) rfl), ?_⟩
    refine t_l rfl ?_
    refine s_val (x_ld (p := fat (vat v_l7 4 (Int.toNat (i2 : Int))) 0) (v := I ((l7.getD i2 default).src)) rfl (ld_sc Sc3 (At.mono (Old10_at0 (deSl (H.get (k := 2) rfl)) (i := (i2 : Int)) (by omega) (by omega)) (deLe _ (H.get (k := 2) rfl))))) ?_
    refine s_nil ⟨(H.pick [0, 1, 3, 4, 5, 6, 7, 8, 9, 10, 11, 12] (by decide) rfl), ?_⟩
    refine t_q rfl (fun w' H => x_ari (a := (l7.getD i2 default).src) (b := r6) (r := ((l7.getD i2 default).src) + r6) rfl rfl rfl (by omega)) ?_
    refine t_l rfl ?_
    refine s_val (x_ix (a := v_l7) (b := I (i2 : Int)) (v := vat v_l7 4 (Int.toNat (i2 : Int))) rfl rfl (Sl.ix (α := Old10) T24.und T24.size (deSl (H.get (k := 2) rfl)) (by omega) (by omega))) ?_
    refine s_nil ⟨(H.pick [0, 1, 3, 4, 5, 6, 7, 8, 9, 10, 11, 12] (by decide) rfl), ?_⟩
    refine t_l rfl ?_
    refine s_val (x_fa (a := vat v_l7 4 (Int.toNat (i2 : Int))) (v := fat (vat v_l7 4 (Int.toNat (i2 : Int))) 0) rfl (fa_pl Fd43_0 Sz3 (Sl.pl (i := (i2 : Int)) (deSl (H.get (k := 2) rfl)) (by omega) (by omega)))) ?_
    refine s_nil ⟨(H.pick [0, 1, 3, 4, 5, 6, 7, 8, 9, 10, 11, 12] (by decide) rfl), ?_⟩
    refine t_l rfl ?_
    refine t_dofs (k := 2) (i := (i2 : Int)) (dl := l7) (off := 0) (o' := { (l7.getD i2 default) with src := ((l7.getD i2 default).src) + r6 }) H rfl Sz3 (by omega) (by omega) rfl rfl (by decide) rfl rfl rfl ?_
    intro w200z us201z hr202z H
    replace H : St w w200z [cBlk b_16 [v_l, v_l7, I (r02 + r6), I (r03 + r6)] 26, cOwn (α := Yr) 41 v_l l, cDO 43 3 v_l7 us201z (l7.set i2 ({ (l7.getD i2 default) with src := ((l7.getD i2 default).src) + r6 })), cRo B_l7, cBlk b_10 [I s, I s2] 35, cBlk b_9 [I r002, I r012] 35, cBlk nb0_8 [v_order, I q12, I q22] 101, cBlk b_7 [u0_2, u1_3, I r02, I r03] 26, cOwn (α := Yr) 41 u0_2 r00, cOwn (α := Raw 3) 43 u1_3 rr2_4, cRo Bs3_5, cOwn (α := Int) 3 u4_6 r12, cBlk nb0_1 [v_numbers, I q1, I q2] 101] R := H
    refine s_nil ⟨(H.pick [0, 1, 3, 4, 5, 6, 7, 8, 9, 10, 11, 12] (by decide) rfl), ?_⟩
    refine t_l rfl ?_
    refine s_val (x_ix (a := v_l7) (b := I (i2 : Int)) (v := vat v_l7 4 (Int.toNat (i2 : Int))) rfl rfl (Sl.ix (α := Old10) T24.und T24.size (deSl (H.get (k := 2) rfl)) (by omega) (by omega))) ?_
    refine s_nil ⟨(H.pick [0, 1, 3, 4, 5, 6, 7, 8, 9, 10, 11, 12] (by decide) rfl), ?_⟩
    refine t_l rfl ?_
    refine s_val (x_fa (a := vat v_l7 4 (Int.toNat (i2 : Int))) (v := fat (vat v_l7 4 (Int.toNat (i2 : Int))) 1) rfl (fa_pl Fd43_1 Sz3 (Sl.pl (i := (i2 : Int)) (deSl (H.get (k := 2) rfl)) (by omega) (by omega)))) ?_
    refine s_nil ⟨(H.pick [0, 1, 3, 4, 5, 6, 7, 8, 9, 10, 11, 12] (by decide) rfl), ?_⟩
    refine t_l rfl ?_
    refine t_dofs (k := 2) (i := (i2 : Int)) (dl := l7.set i2 ({ (l7.getD i2 default) with src := ((l7.getD i2 default).src) + r6 })) (off := 1) (o' := { ((l7.set i2 ({ (l7.getD i2 default) with src := ((l7.getD i2 default).src) + r6 })).getD i2 default) with dst := ((l7.getD i2 default).dst) + r6 }) H rfl Sz3 (by omega) (by omega) rfl rfl (by decide) rfl rfl rfl ?_
    intro w204z us205z hr206z H
    replace H : St w w204z [cBlk b_16 [v_l, v_l7, I (r02 + r6), I (r03 + r6)] 26, cOwn (α := Yr) 41 v_l l, cDO 43 3 v_l7 us205z ((l7.set i2 ({ (l7.getD i2 default) with src := ((l7.getD i2 default).src) + r6 })).set i2 ({ ((l7.set i2 ({ (l7.getD i2 default) with src := ((l7.getD i2 default).src) + r6 })).getD i2 default) with dst := ((l7.getD i2 default).dst) + r6 })), cRo B_l7, cBlk b_10 [I s, I s2] 35, cBlk b_9 [I r002, I r012] 35, cBlk nb0_8 [v_order, I q12, I q22] 101, cBlk b_7 [u0_2, u1_3, I r02, I r03] 26, cOwn (α := Yr) 41 u0_2 r00, cOwn (α := Raw 3) 43 u1_3 rr2_4, cRo Bs3_5, cOwn (α := Int) 3 u4_6 r12, cBlk nb0_1 [v_numbers, I q1, I q2] 101] R := H
    refine s_nil ⟨(H.pick [0, 1, 3, 4, 5, 6, 7, 8, 9, 10, 11, 12] (by decide) rfl), ?_⟩
    refine t_nil ?_
    exact ⟨us205z, _, upds_of _ _ ⟨rfl, rfl, rfl, rfl, rfl, rfl, rfl, rfl, rfl, trivial⟩, hM, H, hr206z⟩
   skip
   refine s_val (x_ix (a := v_l7) (b := I (i2 : Int)) (v := vat v_l7 4 (Int.toNat (i2 : Int))) rfl rfl (Sl.ix (α := Old10) T24.und T24.size (deSl (H.get (k := 2) rfl)) (by omega) (by omega))) ?_
   have hvc_q207z := Sl.cells (deSl (H.get (k := 2) rfl))
   have hvo_q207z := Sl.oc (deSl (H.get (k := 2) rfl))
   refine s_nil ⟨(H.pick [0, 1, 3, 4, 5, 6, 7, 8, 9, 10, 11, 12] (by decide) rfl), ?_⟩
   refine t_l2 rfl rfl ?_ ?_
   ·skip
    refine s_val (x_ix (a := v_l7) (b := I (i2 : Int)) (v := vat v_l7 4 (Int.toNat (i2 : Int))) rfl rfl (Sl.ix (α := Old10) T24.und T24.size (deSl (H.get (k := 2) rfl)) (by omega) (by omega))) ?_
    refine s_nil ⟨(H.pick [0, 1, 3, 4, 5, 6, 7, 8, 9, 10, 11, 12] (by decide) rfl), ?_⟩
    refine t_l2 rfl rfl ?_ ?_
    ·skip
     refine s_val (x_fa (a := vat v_l7 4 (Int.toNat (i2 : Int))) (v := fat (vat v_l7 4 (Int.toNat (i2 : Int))) 0) rfl (fa_pl Fd43_0 Sz3 (Sl.pl (i := (i2 : Int)) (deSl (H.get (k := 2) rfl)) (by omega) (by omega)))) ?_
     refine s_nil ⟨(H.pick [0, 1, 3, 4, 5, 6, 7, 8, 9, 10, 11, 12] (by decide) rfl), ?_⟩
     refine t_l2 rfl rfl ?_ ?_
     ·skip
      refine s_val (x_ld (p := fat (vat v_l7 4 (Int.toNat (i2 : Int))) 0) (v := I ((l7.getD i2 default).src)) rfl (ld_sc Sc3 (At.mono (Old10_at0 (deSl (H.get (k := 2) rfl)) (i := (i2 : Int)) (by omega) (by omega)) (deLe _ (H.get (k := 2) rfl))))) ?_
      refine s_nil ⟨(H.pick [0, 1, 3, 4, 5, 6, 7, 8, 9, 10, 11, 12] (by decide) rfl), ?_⟩
      refine t_q rfl (fun w' H => x_ari (a := (l7.getD i2 default).src) (b := r6) (r := ((l7.getD i2 default).src) + r6) rfl rfl rfl (by omega)) ?_
      refine t_l rfl ?_
      refine s_val (x_fa (a := vat v_l7 4 (Int.toNat (i2 : Int))) (v := fat (vat v_l7 4 (Int.toNat (i2 : Int))) 1) rfl (fa_pl Fd43_1 Sz3 (Sl.pl (i := (i2 : Int)) (deSl (H.get (k := 2) rfl)) (by omega) (by omega)))) ?_
      refine s_nil ⟨(H.pick [0, 1, 3, 4, 5, 6, 7, 8, 9, 10, 11, 12] (by decide) rfl), ?_⟩
      refine t_l rfl ?_
      refine s_val (x_ld (p := fat (vat v_l7 4 (Int.toNat (i2 : Int))) 1) (v := I ((l7.getD i2 default).dst)) rfl (ld_sc Sc3 (At.mono (Old10_at1 (deSl (H.get (k := 2) rfl)) (i := (i2 : Int)) (by omega) (by omega)) (deLe _ (H.get (k := 2) rfl))))) ?_
      refine s_nil ⟨(H.pick [0, 1, 3, 4, 5, 6, 7, 8, 9, 10, 11, 12] (by decide) rfl), ?_⟩
      refine t_q rfl (fun w' H => x_ari (a := (l7.getD i2 default).dst) (b := r6) (r := ((l7.getD i2 default).dst) + r6) rfl rfl rfl (by omega)) ?_
      refine t_l rfl ?_
      refine s_val (x_ix (a := v_l7) (b := I (i2 : Int)) (v := vat v_l7 4 (Int.toNat (i2 : Int))) rfl rfl (Sl.ix (α := Old10) T24.und T24.size (deSl (H.get (k := 2) rfl)) (by omega) (by omega))) ?_
      refine s_nil ⟨(H.pick [0, 1, 3, 4, 5, 6, 7, 8, 9, 10, 11, 12] (by decide) rfl), ?_⟩
      refine t_l rfl ?_
      refine s_val (x_fa (a := vat v_l7 4 (Int.toNat (i2 : Int))) (v := fat (vat v_l7 4 (Int.toNat (i2 : Int))) 0) rfl (fa_pl Fd43_0 Sz3 (Sl.pl (i := (i2 : Int)) (deSl (H.get (k := 2) rfl)) (by omega) (by omega)))) ?_
      refine s_nil ⟨(H.pick [0, 1, 3, 4, 5, 6, 7, 8, 9, 10, 11, 12] (by decide) rfl), ?_⟩
      refine t_l rfl ?_
      refine t_dofs (k := 2) (i := (i2 : Int)) (dl := l7) (off := 0) (o' := { (l7.getD i2 default) with src := ((l7.getD i2 default).src) + r6 }) H rfl Sz3 (by omega) (by omega) rfl rfl (by decide) rfl rfl rfl ?_
      intro w209z us210z hr211z H
      replace H : St w w209z [cBlk b_16 [v_l, v_l7, I (r02 + r6), I (r03 + r6)] 26, cOwn (α := Yr) 41 v_l l, cDO 43 3 v_l7 us210z (l7.set i2 ({ (l7.getD i2 default) with src := ((l7.getD i2 default).src) + r6 })), cRo B_l7, cBlk b_10 [I s, I s2] 35, cBlk b_9 [I r002, I r012] 35, cBlk nb0_8 [v_order, I q12, I q22] 101, cBlk b_7 [u0_2, u1_3, I r02, I r03] 26, cOwn (α := Yr) 41 u0_2 r00, cOwn (α := Raw 3) 43 u1_3 rr2_4, cRo Bs3_5, cOwn (α := Int) 3 u4_6 r12, cBlk nb0_1 [v_numbers, I q1, I q2] 101] R := H
      refine s_nil ⟨(H.pick [0, 1, 3, 4, 5, 6, 7, 8, 9, 10, 11, 12] (by decide) rfl), ?_⟩
      refine t_l rfl ?_
      refine s_val (x_ix (a := v_l7) (b := I (i2 : Int)) (v := vat v_l7 4 (Int.toNat (i2 : Int))) rfl rfl (Sl.ix (α := Old10) T24.und T24.size (deSl (H.get (k := 2) rfl)) (by omega) (by omega))) ?_
      refine s_nil ⟨(H.pick [0, 1, 3, 4, 5, 6, 7, 8, 9, 10, 11, 12] (by decide) rfl), ?_⟩
      refine t_l rfl ?_
      refine s_val (x_fa (a := vat v_l7 4 (Int.toNat (i2 : Int))) (v := fat (vat v_l7 4 (Int.toNat (i2 : Int))) 1) rfl (fa_pl Fd43_1 Sz3 (Sl.pl (i := (i2 : Int)) (deSl (H.get (k := 2) rfl)) (by omega) (by omega)))) ?_
      refine s_nil ⟨(H.pick [0, 1, 3, 4, 5, 6, 7, 8, 9, 10, 11, 12] (by decide) rfl), ?_⟩
      refine t_l rfl ?_
      refine t_dofs (k := 2) (i := (i2 : Int)) (dl := l7.set i2 ({ (l7.getD i2 default) with src := ((l7.getD i2 default).src) + r6 })) (off := 1) (o' := { ((l7.set i2 ({ (l7.getD i2 default) with src := ((l7.getD i2 default).src) + r6 })).getD i2 default) with dst := ((l7.getD i2 default).dst) + r6 }) H rfl Sz3 (by omega) (by omega) rfl rfl (by decide) rfl rfl rfl ?_
      intro w213z us214z hr215z H
      replace H : St w w213z [cBlk b_16 [v_l, v_l7, I (r02 + r6), I (r03 + r6)] 26, cOwn (α := Yr) 41 v_l l, cDO 43 3 v_l7 us214z ((l7.set i2 ({ (l7.getD i2 default) with src := ((l7.getD i2 default).src) + r6 })).set i2 ({ ((l7.set i2 ({ (l7.getD i2 default) with src := ((l7.getD i2 default).src) + r6 })).getD i2 default) with dst := ((l7.getD i2 default).dst) + r6 })), cRo B_l7, cBlk b_10 [I s, I s2] 35, cBlk b_9 [I r002, I r012] 35, cBlk nb0_8 [v_order, I q12, I q22] 101, cBlk b_7 [u0_2, u1_3, I r02, I r03] 26, cOwn (α := Yr) 41 u0_2 r00, cOwn (α := Raw 3) 43 u1_3 rr2_4, cRo Bs3_5, cOwn (α := Int) 3 u4_6 r12, cBlk nb0_1 [v_numbers, I q1, I q2] 101] R := H
      refine s_nil ⟨(H.pick [0, 1, 3, 4, 5, 6, 7, 8, 9, 10, 11, 12] (by decide) rfl), ?_⟩
      refine t_nil ?_
      exact ⟨us214z, _, upds_of _ _ ⟨rfl, rfl, rfl, rfl, rfl, rfl, rfl, rfl, rfl, trivial⟩, hM, H, hr215z⟩
     skip
     refine s_val (x_fa (a := vat v_l7 4 (Int.toNat (i2 : Int))) (v := fat (vat v_l7 4 (Int.toNat (i2 : Int))) 1) rfl (fa_pl Fd43_1 Sz3 (Sl.pl (i := (i2 : Int)) (deSl (H.get (k := 2) rfl)) (by omega) (by omega)))) ?_
     refine s_nil ⟨(H.pick [0, 1, 3, 4, 5, 6, 7, 8, 9, 10, 11, 12] (by decide) rfl), ?_⟩
     refine t_l2 rfl rfl ?_ ?_
     ·skip
      refine s_val (x_ld (p := fat (vat v_l7 4 (Int.toNat (i2 : Int))) 0) (v := I ((l7.getD i2 default).src)) rfl (ld_sc Sc3 (At.mono (Old10_at0 (deSl (H.get (k := 2) rfl)) (i := (i2 : Int)) (by omega) (by omega)) (deLe _ (H.get (k := 2) rfl))))) ?_
      refine s_nil ⟨(H.pick [0, 1, 3, 4, 5, 6, 7, 8, 9, 10, 11, 12] (by decide) rfl), ?_⟩
      refine t_q rfl (fun w' H => x_ari (a := (l7.getD i2 default).src) (b := r6) (r := ((l7.getD i2 default).src) + r6) rfl rfl rfl (by omega)) ?_
      refine t_l rfl ?_
      refine s_val (x_ld (p := fat (vat v_l7 4 (Int.toNat (i2 : Int))) 1) (v := I ((l7.getD i2 default).dst)) rfl (ld_sc Sc3 (At.mono (Old10_at1 (deSl (H.get (k := 2) rfl)) (i := (i2 : Int)) (by omega) (by omega)) (deLe _ (H.get (k := 2) rfl))))) ?_
      refine s_nil ⟨(H.pick [0, 1, 3, 4, 5, 6, 7, 8, 9, 10, 11, 12] (by decide) rfl), ?_⟩
      refine t_q rfl (fun w' H => x_ari (a := (l7.getD i2 default).dst) (b := r6) (r := ((l7.getD i2 default).dst) + r6) rfl rfl rfl (by omega)) ?_
      refine t_l rfl ?_
      refine s_val (x_ix (a := v_l7) (b := I (i2 : Int)) (v := vat v_l7 4 (Int.toNat (i2 : Int))) rfl rfl (Sl.ix (α := Old10) T24.und T24.size (deSl (H.get (k := 2) rfl)) (by omega) (by omega))) ?_
      refine s_nil ⟨(H.pick [0, 1, 3, 4, 5, 6, 7, 8, 9, 10, 11, 12] (by decide) rfl), ?_⟩
      refine t_l rfl ?_
      refine s_val (x_fa (a := vat v_l7 4 (Int.toNat (i2 : Int))) (v := fat (vat v_l7 4 (Int.toNat (i2 : Int))) 0) rfl (fa_pl Fd43_0 Sz3 (Sl.pl (i := (i2 : Int)) (deSl (H.get (k := 2) rfl)) (by omega) (by omega)))) ?_
      refine s_nil ⟨(H.pick [0, 1, 3, 4, 5, 6, 7, 8, 9, 10, 11, 12] (by decide) rfl), ?_⟩
      refine t_l rfl ?_
      refine t_dofs (k := 2) (i := (i2 : Int)) (dl := l7) (off := 0) (o' := { (l7.getD i2 default) with src := ((l7.getD i2 default).src) + r6 }) H rfl Sz3 (by omega) (by omega) rfl rfl (by decide) rfl rfl rfl ?_
      intro w217z us218z hr219z H
      replace H : St w w217z [cBlk b_16 [v_l, v_l7, I (r02 + r6), I (r03 + r6)] 26, cOwn (α := Yr) 41 v_l l, cDO 43 3 v_l7 us218z (l7.set i2 ({ (l7.getD i2 default) with src := ((l7.getD i2 default).src) + r6 })), cRo B_l7, cBlk b_10 [I s, I s2] 35, cBlk b_9 [I r002, I r012] 35, cBlk nb0_8 [v_order, I q12, I q22] 101, cBlk b_7 [u0_2, u1_3, I r02, I r03] 26, cOwn (α := Yr) 41 u0_2 r00, cOwn (α := Raw 3) 43 u1_3 rr2_4, cRo Bs3_5, cOwn (α := Int) 3 u4_6 r12, cBlk nb0_1 [v_numbers, I q1, I q2] 101] R := H
      refine s_nil ⟨(H.pick [0, 1, 3, 4, 5, 6, 7, 8, 9, 10, 11, 12] (by decide) rfl), ?_⟩
      refine t_l rfl ?_
      refine s_val (x_ix (a := v_l7) (b := I (i2 : Int)) (v := vat v_l7 4 (Int.toNat (i2 : Int))) rfl rfl (Sl.ix (α := Old10) T24.und T24.size (deSl (H.get (k := 2) rfl)) (by omega) (by omega))) ?_
      refine s_nil ⟨(H.pick [0, 1, 3, 4, 5, 6, 7, 8, 9, 10, 11, 12] (by decide) rfl), ?_⟩
      refine t_l rfl ?_
      refine s_val (x_fa (a := vat v_l7 4 (Int.toNat (i2 : Int))) (v := fat (vat v_l7 4 (Int.toNat (i2 : Int))) 1) rfl (fa_pl Fd43_1 Sz3 (Sl.pl (i := (i2 : Int)) (deSl (H.get (k := 2) rfl)) (by omega) (by omega)))) ?_
      refine s_nil ⟨(H.pick [0, 1, 3, 4, 5, 6, 7, 8, 9, 10, 11, 12] (by decide) rfl), ?_⟩
      refine t_l rfl ?_
      refine t_dofs (k := 2) (i := (i2 : Int)) (dl := l7.set i2 ({ (l7.getD i2 default) with src := ((l7.getD i2 default).src) + r6 })) (off := 1) (o' := { ((l7.set i2 ({ (l7.getD i2 default) with src := ((l7.getD i2 default).src) + r6 })).getD i2 default) with dst := ((l7.getD i2 default).dst) + r6 }) H rfl Sz3 (by omega) (by omega) rfl rfl (by decide) rfl rfl rfl ?_
      intro w221z us222z hr223z H
      replace H : St w w221z [cBlk b_16 [v_l, v_l7, I (r02 + r6), I (r03 + r6)] 26, cOwn (α := Yr) 41 v_l l, cDO 43 3 v_l7 us222z ((l7.set i2 ({ (l7.getD i2 default) with src := ((l7.getD i2 default).src) + r6 })).set i2 ({ ((l7.set i2 ({ (l7.getD i2 default) with src := ((l7.getD i2 default).src) + r6 })).getD i2 default) with dst := ((l7.getD i2 default).dst) + r6 })), cRo B_l7, cBlk b_10 [I s, I s2] 35, cBlk b_9 [I r002, I r012] 35, cBlk nb0_8 [v_order, I q12, I q22] 101, cBlk b_7 [u0_2, u1_3, I r02, I r03] 26, cOwn (α := Yr) 41 u0_2 r00, cOwn (α := Raw 3) 43 u1_3 rr2_4, cRo Bs3_5, cOwn (α := Int) 3 u4_6 r12, cBlk nb0_1 [v_numbers, I q1, I q2] 101] R := H
      refine s_nil ⟨(H.pick [0, 1, 3, 4, 5, 6, 7, 8, 9, 10, 11, 12] (by decide) rfl), ?_⟩
      refine t_nil ?_
      exact ⟨us222z, _, upds_of _ _ ⟨rfl, rfl, rfl, rfl, rfl, rfl, rfl, rfl, rfl, trivial⟩, hM, H, hr223z⟩
     skip
     refine s_val (x_ld (p := fat (vat v_l7 4 (Int.toNat (i2 : Int))) 1) (v := I ((l7.getD i2 default).dst)) rfl (ld_sc Sc3 (At.mono (Old10_at1 (deSl (H.get (k := 2) rfl)) (i := (i2 : Int)) (by omega) (by omega)) (deLe _ (H.get (k := 2) rfl))))) ?_
     refine s_nil ⟨(H.pick [0, 1, 3, 4, 5, 6, 7, 8, 9, 10, 11, 12] (by decide) rfl), ?_⟩
     refine t_q rfl (fun w' H => x_ari (a := (l7.getD i2 default).dst) (b := r6) (r := ((l7.getD i2 default).dst) + r6) rfl rfl rfl (by omega)) ?_
     refine t_l rfl ?_
     refine s_val (x_ld (p := fat (vat v_l7 4 (Int.toNat (i2 : Int))) 0) (v := I ((l7.getD i2 default).src)) rfl (ld_sc Sc3 (At.mono (Old10_at0 (deSl (H.get (k := 2) rfl)) (i := (i2 : Int)) (by omega) (by omega)) (deLe _ (H.get (k := 2) rfl))))) ?_
     refine s_nil ⟨(H.pick [0, 1, 3, 4, 5, 6, 7, 8, 9, 10, 11, 12] (by decide) rfl), ?_⟩
     refine t_q rfl (fun w' H => x_ari (a := (l7.getD i2 default).src) (b := r6) (r := ((l7.getD i2 default).src) + r6) rfl rfl rfl (by omega)) ?_
     refine t_l rfl ?_
     refine s_val (x_ix (a := v_l7) (b := I (i2 : Int)) (v := vat v_l7 4 (Int.toNat (i2 : Int))) rfl rfl (Sl.ix (α := Old10) T24.und T24.size (deSl (H.get (k := 2) rfl)) (by omega) (by omega))) ?_
     refine s_nil ⟨(H.pick [0, 1, 3, 4, 5, 6, 7, 8, 9, 10, 11, 12] (by decide) rfl), ?_⟩
     refine t_l rfl ?_
     refine s_val (x_fa (a := vat v_l7 4 (Int.toNat (i2 : Int))) (v := fat (vat v_l7 4 (Int.toNat (i2 : Int))) 0) rfl (fa_pl Fd43_0 Sz3 (Sl.pl (i := (i2 : Int)) (deSl (H.get (k := 2) rfl)) (by omega) (by omega)))) ?_
     refine s_nil ⟨(H.pick [0, 1, 3, 4, 5, 6, 7, 8, 9, 10, 11, 12] (by decide) rfl), ?_⟩
     refine t_l rfl ?_
     refine t_dofs (k := 2) (i := (i2 : Int)) (dl := l7) (off := 0) (o' := { (l7.getD i2 default) with src := ((l7.getD i2 default).src) + r6 }) H rfl Sz3 (by omega) (by omega) rfl rfl (by decide) rfl rfl rfl ?_
     intro w225z us226z hr227z H
     replace H : St w w225z [cBlk b_16 [v_l, v_l7, I (r02 + r6), I (r03 + r6)] 26, cOwn (α := Yr) 41 v_l l, cDO 43 3 v_l7 us226z (l7.set i2 ({ (l7.getD i2 default) with src := ((l7.getD i2 default).src) + r6 })), cRo B_l7, cBlk b_10 [I s, I s2] 35, cBlk b_9 [I r002, I r012] 35, cBlk nb0_8 [v_order, I q12, I q22] 101, cBlk b_7 [u0_2, u1_3, I r02, I r03] 26, cOwn (α := Yr) 41 u0_2 r00, cOwn (α := Raw 3) 43 u1_3 rr2_4, cRo Bs3_5, cOwn (α := Int) 3 u4_6 r12, cBlk nb0_1 [v_numbers, I q1, I q2] 101] R := H
     refine s_nil ⟨(H.pick [0, 1, 3, 4, 5, 6, 7, 8, 9, 10, 11, 12] (by decide) rfl), ?_⟩
     refine t_l rfl ?_
     refine s_val (x_ix (a := v_l7) (b := I (i2 : Int)) (v := vat v_l7 4 (Int.toNat (i2 : Int))) rfl rfl (Sl.ix (α := Old10) T24.und T24.size (deSl (H.get (k := 2) rfl)) (by omega) (by omega))) ?_
     refine s_nil ⟨(H.pick [0, 1, 3, 4, 5, 6, 7, 8, 9, 10, 11, 12] (by decide) rfl), ?_⟩
     refine t_l rfl ?_
     refine s_val (x_fa (a := vat v_l7 4 (Int.toNat (i2 : Int))) (v := fat (vat v_l7 4 (Int.toNat (i2 : Int))) 1) rfl (fa_pl Fd43_1 Sz3 (Sl.pl (i := (i2 : Int)) (deSl (H.get (k := 2) rfl)) (by omega) (by omega)))) ?_
     refine s_nil ⟨(H.pick [0, 1, 3, 4, 5, 6, 7, 8, 9, 10, 11, 12] (by decide) rfl), ?_⟩
     refine t_l rfl ?_
     refine t_dofs (k := 2) (i := (i2 : Int)) (dl := l7.set i2 ({ (l7.getD i2 default) with src := ((l7.getD i2 default).src) + r6 })) (off := 1) (o' := { ((l7.set i2 ({ (l7.getD i2 default) with src := ((l7.getD i2 default).src) + r6 })).getD i2 default) with dst := ((l7.getD i2 default).dst) + r6 }) H rfl Sz3 (by omega) (by omega) rfl rfl (by decide) rfl rfl rfl ?_
     intro w229z us230z hr231z H
     replace H : St w w229z [cBlk b_16 [v_l, v_l7, I (r02 + r6), I (r03 + r6)] 26, cOwn (α := Yr) 41 v_l l, cDO 43 3 v_l7 us230z ((l7.set i2 ({ (l7.getD i2 default) with src := ((l7.getD i2 default).src) + r6 })).set i2 ({ ((l7.set i2 ({ (l7.getD i2 default) with src := ((l7.getD i2 default).src) + r6 })).getD i2 default) with dst := ((l7.getD i2 default).dst) + r6 })), cRo B_l7, cBlk b_10 [I s, I s2] 35, cBlk b_9 [I r002, I r012] 35, cBlk nb0_8 [v_order, I q12, I q22] 101, cBlk b_7 [u0_2, u1_3, I r02, I r03] 26, cOwn (α := Yr) 41 u0_2 r00, cOwn (α := Raw 3) 43 u1_3 rr2_4, cRo Bs3_5, cOwn (α := Int) 3 u4_6 r12, cBlk nb0_1 [v_numbers, I q1, I q2] 101] R := H
     refine s_nil ⟨(H.pick [0, 1, 3, 4, 5, 6, 7, 8, 9, 10, 11, 12] (by decide) rfl), ?_⟩
     refine t_nil ?_
     exact ⟨us230z, _, upds_of _ _ ⟨rfl, rfl, rfl, rfl, rfl, rfl, rfl, rfl, rfl, trivial⟩, hM, H, hr231z⟩
    skip
    refine s_val (x_fa (a := vat v_l7 4 (Int.toNat (i2 : Int))) (v := fat (vat v_l7 4 (Int.toNat (i2 : Int))) 1) rfl (fa_pl Fd43_1 Sz3 (Sl.pl (i := (i2 : Int)) (deSl (H.get (k := 2) rfl)) (by omega) (by omega)))) ?_
    refine s_nil ⟨(H.pick [0, 1, 3, 4, 5, 6, 7, 8, 9, 10, 11, 12] (by decide) rfl), ?_⟩
    refine t_l2 rfl rfl ?_ ?_
    ·skip
     refine s_val (x_fa (a := vat v_l7 4 (Int.toNat (i2 : Int))) (v := fat (vat v_l7 4 (Int.toNat (i2 : Int))) 0) rfl (fa_pl Fd43_0 Sz3 (Sl.pl (i := (i2 : Int)) (deSl (H.get (k := 2) rfl)) (by omega) (by omega)))) ?_
     refine s_nil ⟨(H.pick [0, 1, 3, 4, 5, 6, 7, 8, 9, 10, 11, 12] (by decide) rfl), ?_⟩
     refine t_l2 rfl rfl ?_ ?_
     ·skip
      refine s_val (x_ld (p := fat (vat v_l7 4 (Int.toNat (i2 : Int))) 0) (v := I ((l7.getD i2 default).src)) rfl (ld_sc Sc3 (At.mono (Old10_at0 (deSl (H.get (k := 2) rfl)) (i := (i2 : Int)) (by omega) (by omega)) (deLe _ (H.get (k := 2) rfl))))) ?_
      refine s_nil ⟨(H.pick [0, 1, 3, 4, 5, 6, 7, 8, 9, 10, 11, 12] (by decide) rfl), ?_⟩
      refine t_q rfl (fun w' H => x_ari (a := (l7.getD i2 default).src) (b := r6) (r := ((l7.getD i2 default).src) + r6) rfl rfl rfl (by omega)) ?_
      refine t_l rfl ?_
      refine s_val (x_ld (p := fat (vat v_l7 4 (Int.toNat (i2 : Int))) 1) (v := I ((l7.getD i2 default).dst)) rfl (ld_sc Sc3 (At.mono (Old10_at1 (deSl (H.get (k := 2) rfl)) (i := (i2 : Int)) (by omega) (by omega)) (deLe _ (H.get (k := 2) rfl))))) ?_
      refine s_nil ⟨(H.pick [0, 1, 3, 4, 5, 6, 7, 8, 9, 10, 11, 12] (by decide) rfl), ?_⟩
      refine t_q rfl (fun w' H => x_ari (a := (l7.getD i2 default).dst) (b := r6) (r := ((l7.getD i2 default).dst) + r6) rfl rfl rfl (by omega)) ?_
      refine t_l rfl ?_
      refine s_val (x_ix (a := v_l7) (b := I (i2 : Int)) (v := vat v_l7 4 (Int.toNat (i2 : Int))) rfl rfl (Sl.ix (α := Old10) T24.und T24.size (deSl (H.get (k := 2) rfl)) (by omega) (by omega))) ?_
      refine s_nil ⟨(H.pick [0, 1, 3, 4, 5, 6, 7, 8, 9, 10, 11, 12] (by decide) rfl), ?_⟩
      refine t_l rfl ?_
      refine s_val (x_fa (a := vat v_l7 4 (Int.toNat (i2 : Int))) (v := fat (vat v_l7 4 (Int.toNat (i2 : Int))) 0) rfl (fa_pl Fd43_0 Sz3 (Sl.pl (i := (i2 : Int)) (deSl (H.get (k := 2) rfl)) (by omega) (by omega)))) ?_
      refine s_nil ⟨(H.pick [0, 1, 3, 4, 5, 6, 7, 8, 9, 10, 11, 12] (by decide) rfl), ?_⟩
      refine t_l rfl ?_
      refine t_dofs (k := 2) (i := (i2 : Int)) (dl := l7) (off := 0) (o' := { (l7.getD i2 default) with src := ((l7.getD i2 default).src) + r6 }) H rfl Sz3 (by omega) (by omega) rfl rfl (by decide) rfl rfl rfl ?_
      intro w233z us234z hr235z H
      replace H : St w w233z [cBlk b_16 [v_l, v_l7, I (r02 + r6), I (r03 + r6)] 26, cOwn (α := Yr) 41 v_l l, cDO 43 3 v_l7 us234z (l7.set i2 ({ (l7.getD i2 default) with src := ((l7.getD i2 default).src) + r6 })), cRo B_l7, cBlk b_10 [I s, I s2] 35, cBlk b_9 [I r002, I r012] 35, cBlk nb0_8 [v_order, I q12, I q22] 101, cBlk b_7 [u0_2, u1_3, I r02, I r03] 26, cOwn (α := Yr) 41 u0_2 r00, cOwn (α := Raw 3) 43 u1_3 rr2_4, cRo Bs3_5, cOwn (α := Int) 3 u4_6 r12, cBlk nb0_1 [v_numbers, I q1, I q2] 101] R := H
      refine s_nil ⟨(H.pick [0, 1, 3, 4, 5, 6, 7, 8, 9, 10, 11, 12] (by decide) rfl), ?_⟩
      refine t_l rfl ?_
      refine s_val (x_ix (a := v_l7) (b := I (i2 : Int)) (v := vat v_l7 4 (Int.toNat (i2 : Int))) rfl rfl (Sl.ix (α := Old10) T24.und T24.size (deSl (H.get (k := 2) rfl)) (by omega) (by omega))) ?_
      refine s_nil ⟨(H.pick [0, 1, 3, 4, 5, 6, 7, 8, 9, 10, 11, 12] (by decide) rfl), ?_⟩
      refine t_l rfl ?_
      refine s_val (x_fa (a := vat v_l7 4 (Int.toNat (i2 : Int))) (v := fat (vat v_l7 4 (Int.toNat (i2 : Int))) 1) rfl (fa_pl Fd43_1 Sz3 (Sl.pl (i := (i2 : Int)) (deSl (H.get (k := 2) rfl)) (by omega) (by omega)))) ?_
      refine s_nil ⟨(H.pick [0, 1, 3, 4, 5, 6, 7, 8, 9, 10, 11, 12] (by decide) rfl), ?_⟩
      refine t_l rfl ?_
      refine t_dofs (k := 2) (i := (i2 : Int)) (dl := l7.set i2 ({ (l7.getD i2 default) with src := ((l7.getD i2 default).src) + r6 })) (off := 1) (o' := { ((l7.set i2 ({ (l7.getD i2 default) with src := ((l7.getD i2 default).src) + r6 })).getD i2 default) with dst := ((l7.getD i2 default).dst) + r6 }) H rfl Sz3 (by omega) (by omega) rfl rfl (by decide) rfl rfl rfl ?_
      intro w237z us238z hr239z H
      replace H : St w w237z [cBlk b_16 [v_l, v_l7, I (r02 + r6), I (r03 + r6)] 26, cOwn (α := Yr) 41 v_l l, cDO 43 3 v_l7 us238z ((l7.set i2 ({ (l7.getD i2 default) with src := ((l7.getD i2 default).src) + r6 })).set i2 ({ ((l7.set i2 ({ (l7.getD i2 default) with src := ((l7.getD i2 default).src) + r6 })).getD i2 default) with dst := ((l7.getD i2 default).dst) + r6 })), cRo B_l7, cBlk b_10 [I s, I s2] 35, cBlk b_9 [I r002, I r012] 35, cBlk nb0_8 [v_order, I q12, I q22] 101, cBlk b_7 [u0_2, u1_3, I r02, I r03] 26, cOwn (α := Yr) 41 u0_2 r00, cOwn (α := Raw 3) 43 u1_3 rr2_4, cRo Bs3_5, cOwn (α := Int) 3 u4_6 r12, cBlk nb0_1 [v_numbers, I q1, I q2] 101] R := H
      refine s_nil ⟨(H.pick [0, 1, 3, 4, 5, 6, 7, 8, 9, 10, 11, 12] (by decide) rfl), ?_⟩
      refine t_nil ?_
      exact ⟨us238z, _, upds_of _ _ ⟨rfl, rfl, rfl, rfl, rfl, rfl, rfl, rfl, rfl, trivial⟩, hM, H, hr239z⟩
     skip
     refine s_val (x_ld (p := fat (vat v_l7 4 (Int.toNat (i2 : Int))) 1) (v := I ((l7.getD i2 default).dst)) rfl (ld_sc Sc3 (At.mono (Old10_at1 (deSl (H.get (k := 2) rfl)) (i := (i2 : Int)) (by omega) (by omega)) (deLe _ (H.get (k := 2) rfl))))) ?_
     refine s_nil ⟨(H.pick [0, 1, 3, 4, 5, 6, 7, 8, 9, 10, 11, 12] (by decide) rfl), ?_⟩
     refine t_q rfl (fun w' H => x_ari (a := (l7.getD i2 default).dst) (b := r6) (r := ((l7.getD i2 default).dst) + r6) rfl rfl rfl (by omega)) ?_
     refine t_l rfl ?_
     refine s_val (x_ld (p := fat (vat v_l7 4 (Int.toNat (i2 : Int))) 0) (v := I ((l7.getD i2 default).src)) rfl (ld_sc Sc3 (At.mono (Old10_at0 (deSl (H.get (k := 2) rfl)) (i := (i2 : Int)) (by omega) (by omega)) (deLe _ (H.get (k := 2) rfl))))) ?_
     refine s_nil ⟨(H.pick [0, 1, 3, 4, 5, 6, 7, 8, 9, 10, 11, 12] (by decide) rfl), ?_⟩
     refine t_q rfl (fun w' H => x_ari (a := (l7.getD i2 default).src) (b := r6) (r := ((l7.getD i2 default).src) + r6) rfl rfl rfl (by omega)) ?_
     refine t_l rfl ?_
     refine s_val (x_ix (a := v_l7) (b := I (i2 : Int)) (v := vat v_l7 4 (Int.toNat (i2 : Int))) rfl rfl (Sl.ix (α := Old10) T24.und T24.size (deSl (H.get (k := 2) rfl)) (by omega) (by omega))) ?_
     refine s_nil ⟨(H.pick [0, 1, 3, 4, 5, 6, 7, 8, 9, 10, 11, 12] (by decide) rfl), ?_⟩
     refine t_l rfl ?_
     refine s_val (x_fa (a := vat v_l7 4 (Int.toNat (i2 : Int))) (v := fat (vat v_l7 4 (Int.toNat (i2 : Int))) 0) rfl (fa_pl Fd43_0 Sz3 (Sl.pl (i := (i2 : Int)) (deSl (H.get (k := 2) rfl)) (by omega) (by omega)))) ?_
     refine s_nil ⟨(H.pick [0, 1, 3, 4, 5, 6, 7, 8, 9, 10, 11, 12] (by decide) rfl), ?_⟩
     refine t_l rfl ?_
     refine t_dofs (k := 2) (i := (i2 : Int)) (dl := l7) (off := 0) (o' := { (l7.getD i2 default) with src := ((l7.getD i2 default).src) + r6 }) H rfl Sz3 (by omega) (by omega) rfl rfl (by decide) rfl rfl rfl ?_
     intro w241z us242z hr243z H
     replace H : St w w241z [cBlk b_16 [v_l, v_l7, I (r02 + r6), I (r03 + r6)] 26, cOwn (α := Yr) 41 v_l l, cDO 43 3 v_l7 us242z (l7.set i2 ({ (l7.getD i2 default) with src := ((l7.getD i2 default).src) + r6 })), cRo B_l7, cBlk b_10 [I s, I s2] 35, cBlk b_9 [I r002, I r012] 35, cBlk nb0_8 [v_order, I q12, I q22] 101, cBlk b_7 [u0_2, u1_3, I r02, I r03] 26, cOwn (α := Yr) 41 u0_2 r00, cOwn (α := Raw 3) 43 u1_3 rr2_4, cRo Bs3_5, cOwn (α := Int) 3 u4_6 r12, cBlk nb0_1 [v_numbers, I q1, I q2] 101] R := H
     refine s_nil ⟨(H.pick [0, 1, 3, 4, 5, 6, 7, 8, 9, 10, 11, 12] (by decide) rfl), ?_⟩
     refine t_l rfl ?_
     refine s_val (x_ix (a := v_l7) (b := I (i2 : Int)) (v := vat v_l7 4 (Int.toNat (i2 : Int))) rfl rfl (Sl.ix (α := Old10) T24.und T24.size (deSl (H.get (k := 2) rfl)) (by omega) (by omega))) ?_
     refine s_nil ⟨(H.pick [0, 1, 3, 4, 5, 6, 7, 8, 9, 10, 11, 12] (by decide) rfl), ?_⟩
     refine t_l rfl ?_
     refine s_val (x_fa (a := vat v_l7 4 (Int.toNat (i2 : Int))) (v := fat (vat v_l7 4 (Int.toNat (i2 : Int))) 1) rfl (fa_pl Fd43_1 Sz3 (Sl.pl (i := (i2 : Int)) (deSl (H.get (k := 2) rfl)) (by omega) (by omega)))) ?_
     refine s_nil ⟨(H.pick [0, 1, 3, 4, 5, 6, 7, 8, 9, 10, 11, 12] (by decide) rfl), ?_⟩
     refine t_l rfl ?_
     refine t_dofs (k := 2) (i := (i2 : Int)) (dl := l7.set i2 ({ (l7.getD i2 default) with src := ((l7.getD i2 default).src) + r6 })) (off := 1) (o' := { ((l7.set i2 ({ (l7.getD i2 default) with src := ((l7.getD i2 default).src) + r6 })).getD i2 default) with dst := ((l7.getD i2 default).dst) + r6 }) H rfl Sz3 (by omega) (by omega) rfl rfl (by decide) rfl rfl rfl ?_
     intro w245z us246z hr247z H
     replace H : St w w245z [cBlk b_16 [v_l, v_l7, I (r02 + r6), I (r03 + r6)] 26, cOwn (α := Yr) 41 v_l l, cDO 43 3 v_l7 us246z ((l7.set i2 ({ (l7.getD i2 default) with src := ((l7.getD i2 default).src) + r6 })).set i2 ({ ((l7.set i2 ({ (l7.getD i2 default) with src := ((l7.getD i2 default).src) + r6 })).getD i2 default) with dst := ((l7.getD i2 default).dst) + r6 })), cRo B_l7, cBlk b_10 [I s, I s2] 35, cBlk b_9 [I r002, I r012] 35, cBlk nb0_8 [v_order, I q12, I q22] 101, cBlk b_7 [u0_2, u1_3, I r02, I r03] 26, cOwn (α := Yr) 41 u0_2 r00, cOwn (α := Raw 3) 43 u1_3 rr2_4, cRo Bs3_5, cOwn (α := Int) 3 u4_6 r12, cBlk nb0_1 [v_numbers, I q1, I q2] 101] R := H
     refine s_nil ⟨(H.pick [0, 1, 3, 4, 5, 6, 7, 8, 9, 10, 11, 12] (by decide) rfl), ?_⟩
     refine t_nil ?_
     exact ⟨us246z, _, upds_of _ _ ⟨rfl, rfl, rfl, rfl, rfl, rfl, rfl, rfl, rfl, trivial⟩, hM, H, hr247z⟩
    skip
    refine s_val (x_ld (p := fat (vat v_l7 4 (Int.toNat (i2 : Int))) 1) (v := I ((l7.getD i2 default).dst)) rfl (ld_sc Sc3 (At.mono (Old10_at1 (deSl (H.get (k := 2) rfl)) (i := (i2 : Int)) (by omega) (by omega)) (deLe _ (H.get (k := 2) rfl))))) ?_
    refine s_nil ⟨(H.pick [0, 1, 3, 4, 5, 6, 7, 8, 9, 10, 11, 12] (by decide) rfl), ?_⟩
    refine t_q rfl (fun w' H => x_ari (a := (l7.getD i2 default).dst) (b := r6) (r := ((l7.getD i2 default).dst) + r6) rfl rfl rfl (by omega)) ?_
    refine t_l rfl ?_
    refine s_val (x_fa (a := vat v_l7 4 (Int.toNat (i2 : Int))) (v := fat (vat v_l7 4 (Int.toNat (i2 : Int))) 0) rfl (fa_pl Fd43_0 Sz3 (Sl.pl (i := (i2 : Int)) (deSl (H.get (k := 2) rfl)) (by omega) (by omega)))) ?_
    refine s_nil ⟨(H.pick [0, 1, 3, 4, 5, 6, 7, 8, 9, 10, 11, 12] (by decide) rfl), ?_⟩
    refine t_l rfl ?_
    refine s_val (x_ld (p := fat (vat v_l7 4 (Int.toNat (i2 : Int))) 0) (v := I ((l7.getD i2 default).src)) rfl (ld_sc Sc3 (At.mono (Old10_at0 (deSl (H.get (k := 2) rfl)) (i := (i2 : Int)) (by omega) (by omega)) (deLe _ (H.get (k := 2) rfl))))) ?_
    refine s_nil ⟨(H.pick [0, 1, 3, 4, 5, 6, 7, 8, 9, 10, 11, 12] (by decide) rfl), ?_⟩
    refine t_q rfl (fun w' H => x_ari (a := (l7.getD i2 default).src) (b := r6) (r := ((l7.getD i2 default).src) + r6) rfl rfl rfl (by omega)) ?_
    refine t_l rfl ?_
    refine s_val (x_ix (a := v_l7) (b := I (i2 : Int)) (v := vat v_l7 4 (Int.toNat (i2 : Int))) rfl rfl (Sl.ix (α := Old10) T24.und T24.size (deSl (H.get (k := 2) rfl)) (by omega) (by omega))) ?_
    refine s_nil ⟨(H.pick [0, 1, 3, 4, 5, 6, 7, 8, 9, 10, 11, 12] (by decide) rfl), ?_⟩
    refine t_l rfl ?_
    refine s_val (x_fa (a := vat v_l7 4 (Int.toNat (i2 : Int))) (v := fat (vat v_l7 4 (Int.toNat (i2 : Int))) 0) rfl (fa_pl Fd43_0 Sz3 (Sl.pl (i := (i2 : Int)) (deSl (H.get (k := 2) rfl)) (by omega) (by omega)))) ?_
    refine s_nil ⟨(H.pick [0, 1, 3, 4, 5, 6, 7, 8, 9, 10, 11, 12] (by decide) rfl), ?_⟩
    refine t_l rfl ?_
    refine t_dofs (k := 2) (i := (i2 : Int)) (dl := l7) (off := 0) (o' := { (l7.getD i2 default) with src := ((l7.getD i2 default).src) + r6 }) H rfl Sz3 (by omega) (by omega) rfl rfl (by decide) rfl rfl rfl ?_
    intro w249z us250z hr251z H
    replace H : St w w249z [cBlk b_16 [v_l, v_l7, I (r02 + r6), I (r03 + r6)] 26, cOwn (α := Yr) 41 v_l l, cDO 43 3 v_l7 us250z (l7.set i2 ({ (l7.getD i2 default) with src := ((l7.getD i2 default).src) + r6 })), cRo B_l7, cBlk b_10 [I s, I s2] 35, cBlk b_9 [I r002, I r012] 35, cBlk nb0_8 [v_order, I q12, I q22] 101, cBlk b_7 [u0_2, u1_3, I r02, I r03] 26, cOwn (α := Yr) 41 u0_2 r00, cOwn (α := Raw 3) 43 u1_3 rr2_4, cRo Bs3_5, cOwn (α := Int) 3 u4_6 r12, cBlk nb0_1 [v_numbers, I q1, I q2] 101] R := H
    refine s_nil ⟨(H.pick [0, 1, 3, 4, 5, 6, 7, 8, 9, 10, 11, 12] (by decide) rfl), ?_⟩
    refine t_l rfl ?_
    refine s_val (x_ix (a := v_l7) (b := I (i2 : Int)) (v := vat v_l7 4 (Int.toNat (i2 : Int))) rfl rfl (Sl.ix (α := Old10) T24.und T24.size (deSl (H.get (k := 2) rfl)) (by omega) (by omega))) ?_
    refine s_nil ⟨(H.pick [0, 1, 3, 4, 5, 6, 7, 8, 9, 10, 11, 12] (by decide) rfl), ?_⟩
    refine t_l rfl ?_
    refine s_val (x_fa (a := vat v_l7 4 (Int.toNat (i2 : Int))) (v := fat (vat v_l7 4 (Int.toNat (i2 : Int))) 1) rfl (fa_pl Fd43_1 Sz3 (Sl.pl (i := (i2 : Int)) (deSl (H.get (k := 2) rfl)) (by omega) (by omega)))) ?_
    refine s_nil ⟨(H.pick [0, 1, 3, 4, 5, 6, 7, 8, 9, 10, 11, 12] (by decide) rfl), ?_⟩
    refine t_l rfl ?_
    refine t_dofs (k := 2) (i := (i2 : Int)) (dl := l7.set i2 ({ (l7.getD i2 default) with src := ((l7.getD i2 default).src) + r6 })) (off := 1) (o' := { ((l7.set i2 ({ (l7.getD i2 default) with src := ((l7.getD i2 default).src) + r6 })).getD i2 default) with dst := ((l7.getD i2 default).dst) + r6 }) H rfl Sz3 (by omega) (by omega) rfl rfl (by decide) rfl rfl rfl ?_
    intro w253z us254z hr255z H
    replace H : St w w253z [cBlk b_16 [v_l, v_l7, I (r02 + r6), I (r03 + r6)] 26, cOwn (α := Yr) 41 v_l l, cDO 43 3 v_l7 us254z ((l7.set i2 ({ (l7.getD i2 default) with src := ((l7.getD i2 default).src) + r6 })).set i2 ({ ((l7.set i2 ({ (l7.getD i2 default) with src := ((l7.getD i2 default).src) + r6 })).getD i2 default) with dst := ((l7.getD i2 default).dst) + r6 })), cRo B_l7, cBlk b_10 [I s, I s2] 35, cBlk b_9 [I r002, I r012] 35, cBlk nb0_8 [v_order, I q12, I q22] 101, cBlk b_7 [u0_2, u1_3, I r02, I r03] 26, cOwn (α := Yr) 41 u0_2 r00, cOwn (α := Raw 3) 43 u1_3 rr2_4, cRo Bs3_5, cOwn (α := Int) 3 u4_6 r12, cBlk nb0_1 [v_numbers, I q1, I q2] 101] R := H
    refine s_nil ⟨(H.pick [0, 1, 3, 4, 5, 6, 7, 8, 9, 10, 11, 12] (by decide) rfl), ?_⟩
    refine t_nil ?_
    exact ⟨us254z, _, upds_of _ _ ⟨rfl, rfl, rfl, rfl, rfl, rfl, rfl, rfl, rfl, trivial⟩, hM, H, hr255z⟩
   skip
   refine s_val (x_fa (a := vat v_l7 4 (Int.toNat (i2 : Int))) (v := fat (vat v_l7 4 (Int.toNat (i2 : Int))) 1) rfl (fa_pl Fd43_1 Sz3 (Sl.pl (i := (i2 : Int)) (deSl (H.get (k := 2) rfl)) (by omega) (by omega)))) ?_
   refine s_nil ⟨(H.pick [0, 1, 3, 4, 5, 6, 7, 8, 9, 10, 11, 12] (by decide) rfl), ?_⟩
   refine t_l2 rfl rfl ?_ ?_
   ·skip
    refine s_val (x_ix (a := v_l7) (b := I (i2 : Int)) (v := vat v_l7 4 (Int.toNat (i2 : Int))) rfl rfl (Sl.ix (α := Old10) T24.und T24.size (deSl (H.get (k := 2) rfl)) (by omega) (by omega))) ?_
    refine s_nil ⟨(H.pick [0, 1, 3, 4, 5, 6, 7, 8, 9, 10, 11, 12] (by decide) rfl), ?_⟩
    refine t_l2 rfl rfl ?_ ?_
    ·skip
     refine s_val (x_fa (a := vat v_l7 4 (Int.toNat (i2 : Int))) (v := fat (vat v_l7 4 (Int.toNat (i2 : Int))) 0) rfl (fa_pl Fd43_0 Sz3 (Sl.pl (i := (i2 : Int)) (deSl (H.get (k := 2) rfl)) (by omega) (by omega)))) ?_
     refine s_nil ⟨(H.pick [0, 1, 3, 4, 5, 6, 7, 8, 9, 10, 11, 12] (by decide) rfl), ?_⟩
     refine t_l2 rfl rfl ?_ ?_
     ·skip
      refine s_val (x_ld (p := fat (vat v_l7 4 (Int.toNat (i2 : Int))) 0) (v := I ((l7.getD i2 default).src)) rfl (ld_sc Sc3 (At.mono (Old10_at0 (deSl (H.get (k := 2) rfl)) (i := (i2 : Int)) (by omega) (by omega)) (deLe _ (H.get (k := 2) rfl))))) ?_
      refine s_nil ⟨(H.pick [0, 1, 3, 4, 5, 6, 7, 8, 9, 10, 11, 12] (by decide) rfl), ?_⟩
      refine t_q rfl (fun w' H => x_ari (a := (l7.getD i2 default).src) (b := r6) (r := ((l7.getD i2 default).src) + r6) rfl rfl rfl (by omega)) ?_
      refine t_l rfl ?_
      refine s_val (x_ld (p := fat (vat v_l7 4 (Int.toNat (i2 : Int))) 1) (v := I ((l7.getD i2 default).dst)) rfl (ld_sc Sc3 (At.mono (Old10_at1 (deSl (H.get (k := 2) rfl)) (i := (i2 : Int)) (by omega) (by omega)) (deLe _ (H.get (k := 2) rfl))))) ?_
      refine s_nil ⟨(H.pick [0, 1, 3, 4, 5, 6, 7, 8, 9, 10, 11, 12] (by decide) rfl), ?_⟩
      refine t_q rfl (fun w' H => x_ari (a := (l7.getD i2 default).dst) (b := r6) (r := ((l7.getD i2 default).dst) + r6) rfl rfl rfl (by omega)) ?_
      refine t_l rfl ?_
      refine s_val (x_ix (a := v_l7) (b := I (i2 : Int)) (v := vat v_l7 4 (Int.toNat (i2 : Int))) rfl rfl (Sl.ix (α := Old10) T24.und T24.size (deSl (H.get (k := 2) rfl)) (by omega) (by omega))) ?_
      refine s_nil ⟨(H.pick [0, 1, 3, 4, 5, 6, 7, 8, 9, 10, 11, 12] (by decide) rfl), ?_⟩
      refine t_l rfl ?_
      refine s_val (x_fa (a := vat v_l7 4 (Int.toNat (i2 : Int))) (v := fat (vat v_l7 4 (Int.toNat (i2 : Int))) 0) rfl (fa_pl Fd43_0 Sz3 (Sl.pl (i := (i2 : Int)) (deSl (H.get (k := 2) rfl)) (by omega) (by omega)))) ?_
      refine s_nil ⟨(H.pick [0, 1, 3, 4, 5, 6, 7, 8, 9, 10, 11, 12] (by decide) rfl), ?_⟩
      refine t_l rfl ?_
      refine t_dofs (k := 2) (i := (i2 : Int)) (dl := l7) (off := 0) (o' := { (l7.getD i2 default) with src := ((l7.getD i2 default).src) + r6 }) H rfl Sz3 (by omega) (by omega) rfl rfl (by decide) rfl rfl rfl ?_
      intro w257z us258z hr259z H
      replace H : St w w257z [cBlk b_16 [v_l, v_l7, I (r02 + r6), I (r03 + r6)] 26, cOwn (α := Yr) 41 v_l l, cDO 43 3 v_l7 us258z (l7.set i2 ({ (l7.getD i2 default) with src := ((l7.getD i2 default).src) + r6 })), cRo B_l7, cBlk b_10 [I s, I s2] 35, cBlk b_9 [I r002, I r012] 35, cBlk nb0_8 [v_order, I q12, I q22] 101, cBlk b_7 [u0_2, u1_3, I r02, I r03] 26, cOwn (α := Yr) 41 u0_2 r00, cOwn (α := Raw 3) 43 u1_3 rr2_4, cRo Bs3_5, cOwn (α := Int) 3 u4_6 r12, cBlk nb0_1 [v_numbers, I q1, I q2] 101] R := H
      refine s_nil ⟨(H.pick [0, 1, 3, 4, 5, 6, 7, 8, 9, 10, 11, 12] (by decide) rfl), ?_⟩
      refine t_l rfl ?_
      refine s_val (x_ix (a := v_l7) (b := I (i2 : Int)) (v := vat v_l7 4 (Int.toNat (i2 : Int))) rfl rfl (Sl.ix (α := Old10) T24.und T24.size (deSl (H.get (k := 2) rfl)) (by omega) (by omega))) ?_
      refine s_nil ⟨(H.pick [0, 1, 3, 4, 5, 6, 7, 8, 9, 10, 11, 12] (by decide) rfl), ?_⟩
      refine t_l rfl ?_
      refine s_val (x_fa (a := vat v_l7 4 (Int.toNat (i2 : Int))) (v := fat (vat v_l7 4 (Int.toNat (i2 : Int))) 1) rfl (fa_pl Fd43_1 Sz3 (Sl.pl (i := (i2 : Int)) (deSl (H.get (k := 2) rfl)) (by omega) (by omega)))) ?_
      refine s_nil ⟨(H.pick [0, 1, 3, 4, 5, 6, 7, 8, 9, 10, 11, 12] (by decide) rfl), ?_⟩
      refine t_l rfl ?_
      refine t_dofs (k := 2) (i := (i2 : Int)) (dl := l7.set i2 ({ (l7.getD i2 default) with src := ((l7.getD i2 default).src) + r6 })) (off := 1) (o' := { ((l7.set i2 ({ (l7.getD i2 default) with src := ((l7.getD i2 default).src) + r6 })).getD i2 default) with dst := ((l7.getD i2 default).dst) + r6 }) H rfl Sz3 (by omega) (by omega) rfl rfl (by decide) rfl rfl rfl ?_
      intro w261z us262z hr263z H
      replace H : St w w261z [cBlk b_16 [v_l, v_l7, I (r02 + r6), I (r03 + r6)] 26, cOwn (α := Yr) 41 v_l l, cDO 43 3 v_l7 us262z ((l7.set i2 ({ (l7.getD i2 default) with src := ((l7.getD i2 default).src) + r6 })).set i2 ({ ((l7.set i2 ({ (l7.getD i2 default) with src := ((l7.getD i2 default).src) + r6 })).getD i2 default) with dst := ((l7.getD i2 default).dst) + r6 })), cRo B_l7, cBlk b_10 [I s, I s2] 35, cBlk b_9 [I r002, I r012] 35, cBlk nb0_8 [v_order, I q12, I q22] 101, cBlk b_7 [u0_2, u1_3, I r02, I r03] 26, cOwn (α := Yr) 41 u0_2 r00, cOwn (α := Raw 3) 43 u1_3 rr2_4, cRo Bs3_5, cOwn (α := Int) 3 u4_6 r12, cBlk nb0_1 [v_numbers, I q1, I q2] 101] R := H
      refine s_nil ⟨(H.pick [0, 1, 3, 4, 5, 6, 7, 8, 9, 10, 11, 12] (by decide) rfl), ?_⟩
      refine t_nil ?_
      exact ⟨us262z, _, upds_of _ _ ⟨rfl, rfl, rfl, rfl, rfl, rfl, rfl, rfl, rfl, trivial⟩, hM, H, hr263z⟩
     skip
     refine s_val (x_ld (p := fat (vat v_l7 4 (Int.toNat (i2 : Int))) 1) (v := I ((l7.getD i2 default).dst)) rfl (ld_sc Sc3 (At.mono (Old10_at1 (deSl (H.get (k := 2) rfl)) (i := (i2 : Int)) (by omega) (by omega)) (deLe _ (H.get (k := 2) rfl))))) ?_
     refine s_nil ⟨(H.pick [0, 1, 3, 4, 5, 6, 7, 8, 9, 10, 11, 12] (by decide) rfl), ?_⟩
     refine t_q rfl (fun w' H => x_ari (a := (l7.getD i2 default).dst) (b := r6) (r := ((l7.getD i2 default).dst) + r6) rfl rfl rfl (by omega)) ?_
     refine t_l rfl ?_
     refine s_val (x_ld (p := fat (vat v_l7 4 (Int.toNat (i2 : Int))) 0) (v := I ((l7.getD i2 default).src)) rfl (ld_sc Sc3 (At.mono (Old10_at0 (deSl (H.get (k := 2) rfl)) (i := (i2 : Int)) (by omega) (by omega)) (deLe _ (H.get (k := 2) rfl))))) ?_
     refine s_nil ⟨(H.pick [0, 1, 3, 4, 5, 6, 7, 8, 9, 10, 11, 12] (by decide) rfl), ?_⟩
     refine t_q rfl (fun w' H => x_ari (a := (l7.getD i2 default).src) (b := r6) (r := ((l7.getD i2 default).src) + r6) rfl rfl rfl (by omega)) ?_
     refine t_l rfl ?_
     refine s_val (x_ix (a := v_l7) (b := I (i2 : Int)) (v := vat v_l7 4 (Int.toNat (i2 : Int))) rfl rfl (Sl.ix (α := Old10) T24.und T24.size (deSl (H.get (k := 2) rfl)) (by omega) (by omega))) ?_
     refine s_nil ⟨(H.pick [0, 1, 3, 4, 5, 6, 7, 8, 9, 10, 11, 12] (by decide) rfl), ?_⟩
     refine t_l rfl ?_
     refine s_val (x_fa (a := vat v_l7 4 (Int.toNat (i2 : Int))) (v := fat (vat v_l7 4 (Int.toNat (i2 : Int))) 0) rfl (fa_pl Fd43_0 Sz3 (Sl.pl (i := (i2 : Int)) (deSl (H.get (k := 2) rfl)) (by omega) (by omega)))) ?_
     refine s_nil ⟨(H.pick [0, 1, 3, 4, 5, 6, 7, 8, 9, 10, 11, 12] (by decide) rfl), ?_⟩
     refine t_l rfl ?_
     refine t_dofs (k := 2) (i := (i2 : Int)) (dl := l7) (off := 0) (o' := { (l7.getD i2 default) with src := ((l7.getD i2 default).src) + r6 }) H rfl Sz3 (by omega) (by omega) rfl rfl (by decide) rfl rfl rfl ?_
     intro w265z us266z hr267z H
     replace H : St w w265z [cBlk b_16 [v_l, v_l7, I (r02 + r6), I (r03 + r6)] 26, cOwn (α := Yr) 41 v_l l, cDO 43 3 v_l7 us266z (l7.set i2 ({ (l7.getD i2 default) with src := ((l7.getD i2 default).src) + r6 })), cRo B_l7, cBlk b_10 [I s, I s2] 35, cBlk b_9 [I r002, I r012] 35, cBlk nb0_8 [v_order, I q12, I q22] 101, cBlk b_7 [u0_2, u1_3, I r02, I r03] 26, cOwn (α := Yr) 41 u0_2 r00, cOwn (α := Raw 3) 43 u1_3 rr2_4, cRo Bs3_5, cOwn (α := Int) 3 u4_6 r12, cBlk nb0_1 [v_numbers, I q1, I q2] 101] R := H
     refine s_nil ⟨(H.pick [0, 1, 3, 4, 5, 6, 7, 8, 9, 10, 11, 12] (by decide) rfl), ?_⟩
     refine t_l rfl ?_
     refine s_val (x_ix (a := v_l7) (b := I (i2 : Int)) (v := vat v_l7 4 (Int.toNat (i2 : Int))) rfl rfl (Sl.ix (α := Old10) T24.und T24.size (deSl (H.get (k := 2) rfl)) (by omega) (by omega))) ?_
     refine s_nil ⟨(H.pick [0, 1, 3, 4, 5, 6, 7, 8, 9, 10, 11, 12] (by decide) rfl), ?_⟩
     refine t_l rfl ?_
     refine s_val (x_fa (a := vat v_l7 4 (Int.toNat (i2 : Int))) (v := fat (vat v_l7 4 (Int.toNat (i2 : Int))) 1) rfl (fa_pl Fd43_1 Sz3 (Sl.pl (i := (i2 : Int)) (deSl (H.get (k := 2) rfl)) (by omega) (by omega)))) ?_
     refine s_nil ⟨(H.pick [0, 1, 3, 4, 5, 6, 7, 8, 9, 10, 11, 12] (by decide) rfl), ?_⟩
     refine t_l rfl ?_
     refine t_dofs (k := 2) (i := (i2 : Int)) (dl := l7.set i2 ({ (l7.getD i2 default) with src := ((l7.getD i2 default).src) + r6 })) (off := 1) (o' := { ((l7.set i2 ({ (l7.getD i2 default) with src := ((l7.getD i2 default).src) + r6 })).getD i2 default) with dst := ((l7.getD i2 default).dst) + r6 }) H rfl Sz3 (by omega) (by omega) rfl rfl (by decide) rfl rfl rfl ?_
     intro w269z us270z hr271z H
     replace H : St w w269z [cBlk b_16 [v_l, v_l7, I (r02 + r6), I (r03 + r6)] 26, cOwn (α := Yr) 41 v_l l, cDO 43 3 v_l7 us270z ((l7.set i2 ({ (l7.getD i2 default) with src := ((l7.getD i2 default).src) + r6 })).set i2 ({ ((l7.set i2 ({ (l7.getD i2 default) with src := ((l7.getD i2 default).src) + r6 })).getD i2 default) with dst := ((l7.getD i2 default).dst) + r6 })), cRo B_l7, cBlk b_10 [I s, I s2] 35, cBlk b_9 [I r002, I r012] 35, cBlk nb0_8 [v_order, I q12, I q22] 101, cBlk b_7 [u0_2, u1_3, I r02, I r03] 26, cOwn (α := Yr) 41 u0_2 r00, cOwn (α := Raw 3) 43 u1_3 rr2_4, cRo Bs3_5, cOwn (α := Int) 3 u4_6 r12, cBlk nb0_1 [v_numbers, I q1, I q2] 101] R := H
     refine s_nil ⟨(H.pick [0, 1, 3, 4, 5, 6, 7, 8, 9, 10, 11, 12] (by decide) rfl), ?_⟩
     refine t_nil ?_
     exact ⟨us270z, _, upds_of _ _ ⟨rfl, rfl, rfl, rfl, rfl, rfl, rfl, rfl, rfl, trivial⟩, hM, H, hr271z⟩
    skip
    refine s_val (x_ld (p := fat (vat v_l7 4 (Int.toNat (i2 : Int))) 1) (v := I ((l7.getD i2 default).dst)) rfl (ld_sc Sc3 (At.mono (Old10_at1 (deSl (H.get (k := 2) rfl)) (i := (i2 : Int)) (by omega) (by omega)) (deLe _ (H.get (k := 2) rfl))))) ?_
    refine s_nil ⟨(H.pick [0, 1, 3, 4, 5, 6, 7, 8, 9, 10, 11, 12] (by decide) rfl), ?_⟩
    refine t_q rfl (fun w' H => x_ari (a := (l7.getD i2 default).dst) (b := r6) (r := ((l7.getD i2 default).dst) + r6) rfl rfl rfl (by omega)) ?_
    refine t_l rfl ?_
    refine s_val (x_fa (a := vat v_l7 4 (Int.toNat (i2 : Int))) (v := fat (vat v_l7 4 (Int.toNat (i2 : Int))) 0) rfl (fa_pl Fd43_0 Sz3 (Sl.pl (i := (i2 : Int)) (deSl (H.get (k := 2) rfl)) (by omega) (by omega)))) ?_
    refine s_nil ⟨(H.pick [0, 1, 3, 4, 5, 6, 7, 8, 9, 10, 11, 12] (by decide) rfl), ?_⟩
    refine t_l rfl ?_
    refine s_val (x_ld (p := fat (vat v_l7 4 (Int.toNat (i2 : Int))) 0) (v := I ((l7.getD i2 default).src)) rfl (ld_sc Sc3 (At.mono (Old10_at0 (deSl (H.get (k := 2) rfl)) (i := (i2 : Int)) (by omega) (by omega)) (deLe _ (H.get (k := 2) rfl))))) ?_
    refine s_nil ⟨(H.pick [0, 1, 3, 4, 5, 6, 7, 8, 9, 10, 11, 12] (by decide) rfl), ?_⟩
    refine t_q rfl (fun w' H => x_ari (a := (l7.getD i2 default).src) (b := r6) (r := ((l7.getD i2 default).src) + r6) rfl rfl rfl (by omega)) ?_
    refine t_l rfl ?_
    refine s_val (x_ix (a := v_l7) (b := I (i2 : Int)) (v := vat v_l7 4 (Int.toNat (i2 : Int))) rfl rfl (Sl.ix (α := Old10) T24.und T24.size (deSl (H.get (k := 2) rfl)) (by omega) (by omega))) ?_
    refine s_nil ⟨(H.pick [0, 1, 3, 4, 5, 6, 7, 8, 9, 10, 11, 12] (by decide) rfl), ?_⟩
    refine t_l rfl ?_
    refine s_val (x_fa (a := vat v_l7 4 (Int.toNat (i2 : Int))) (v := fat (vat v_l7 4 (Int.toNat (i2 : Int))) 0) rfl (fa_pl Fd43_0 Sz3 (Sl.pl (i := (i2 : Int)) (deSl (H.get (k := 2) rfl)) (by omega) (by omega)))) ?_
    refine s_nil ⟨(H.pick [0, 1, 3, 4, 5, 6, 7, 8, 9, 10, 11, 12] (by decide) rfl), ?_⟩
    refine t_l rfl ?_
    refine t_dofs (k := 2) (i := (i2 : Int)) (dl := l7) (off := 0) (o' := { (l7.getD i2 default) with src := ((l7.getD i2 default).src) + r6 }) H rfl Sz3 (by omega) (by omega) rfl rfl (by decide) rfl rfl rfl ?_
    intro w273z us274z hr275z H
    replace H : St w w273z [cBlk b_16 [v_l, v_l7, I (r02 + r6), I (r03 + r6)] 26, cOwn (α := Yr) 41 v_l l, cDO 43 3 v_l7 us274z (l7.set i2 ({ (l7.getD i2 default) with src := ((l7.getD i2 default).src) + r6 })), cRo B_l7, cBlk b_10 [I s, I s2] 35, cBlk b_9 [I r002, I r012] 35, cBlk nb0_8 [v_order, I q12, I q22] 101, cBlk b_7 [u0_2, u1_3, I r02, I r03] 26, cOwn (α := Yr) 41 u0_2 r00, cOwn (α := Raw 3) 43 u1_3 rr2_4, cRo Bs3_5, cOwn (α := Int) 3 u4_6 r12, cBlk nb0_1 [v_numbers, I q1, I q2] 101] R := H
    refine s_nil ⟨(H.pick [0, 1, 3, 4, 5, 6, 7, 8, 9, 10, 11, 12] (by decide) rfl), ?_⟩
    refine t_l rfl ?_
    refine s_val (x_ix (a := v_l7) (b := I (i2 : Int)) (v := vat v_l7 4 (Int.toNat (i2 : Int))) rfl rfl (Sl.ix (α := Old10) T24.und T24.size (deSl (H.get (k := 2) rfl)) (by omega) (by omega))) ?_
    refine s_nil ⟨(H.pick [0, 1, 3, 4, 5, 6, 7, 8, 9, 10, 11, 12] (by decide) rfl), ?_⟩
    refine t_l rfl ?_
    refine s_val (x_fa (a := vat v_l7 4 (Int.toNat (i2 : Int))) (v := fat (vat v_l7 4 (Int.toNat (i2 : Int))) 1) rfl (fa_pl Fd43_1 Sz3 (Sl.pl (i := (i2 : Int)) (deSl (H.get (k := 2) rfl)) (by omega) (by omega)))) ?_
    refine s_nil ⟨(H.pick [0, 1, 3, 4, 5, 6, 7, 8, 9, 10, 11, 12] (by decide) rfl), ?_⟩
    refine t_l rfl ?_
    refine t_dofs (k := 2) (i := (i2 : Int)) (dl := l7.set i2 ({ (l7.getD i2 default) with src := ((l7.getD i2 default).src) + r6 })) (off := 1) (o' := { ((l7.set i2 ({ (l7.getD i2 default) with src := ((l7.getD i2 default).src) + r6 })).getD i2 default) with dst := ((l7.getD i2 default).dst) + r6 }) H rfl Sz3 (by omega) (by omega) rfl rfl (by decide) rfl rfl rfl ?_
    intro w277z us278z hr279z H
    replace H : St w w277z [cBlk b_16 [v_l, v_l7, I (r02 + r6), I (r03 + r6)] 26, cOwn (α := Yr) 41 v_l l, cDO 43 3 v_l7 us278z ((l7.set i2 ({ (l7.getD i2 default) with src := ((l7.getD i2 default).src) + r6 })).set i2 ({ ((l7.set i2 ({ (l7.getD i2 default) with src := ((l7.getD i2 default).src) + r6 })).getD i2 default) with dst := ((l7.getD i2 default).dst) + r6 })), cRo B_l7, cBlk b_10 [I s, I s2] 35, cBlk b_9 [I r002, I r012] 35, cBlk nb0_8 [v_order, I q12, I q22] 101, cBlk b_7 [u0_2, u1_3, I r02, I r03] 26, cOwn (α := Yr) 41 u0_2 r00, cOwn (α := Raw 3) 43 u1_3 rr2_4, cRo Bs3_5, cOwn (α := Int) 3 u4_6 r12, cBlk nb0_1 [v_numbers, I q1, I q2] 101] R := H
    refine s_nil ⟨(H.pick [0, 1, 3, 4, 5, 6, 7, 8, 9, 10, 11, 12] (by decide) rfl), ?_⟩
    refine t_nil ?_
    exact ⟨us278z, _, upds_of _ _ ⟨rfl, rfl, rfl, rfl, rfl, rfl, rfl, rfl, rfl, trivial⟩, hM, H, hr279z⟩
   skip
   refine s_val (x_ld (p := fat (vat v_l7 4 (Int.toNat (i2 : Int))) 1) (v := I ((l7.getD i2 default).dst)) rfl (ld_sc Sc3 (At.mono (Old10_at1 (deSl (H.get (k := 2) rfl)) (i := (i2 : Int)) (by omega) (by omega)) (deLe _ (H.get (k := 2) rfl))))) ?_
   refine s_nil ⟨(H.pick [0, 1, 3, 4, 5, 6, 7, 8, 9, 10, 11, 12] (by decide) rfl), ?_⟩
   refine t_q rfl (fun w' H => x_ari (a := (l7.getD i2 default).dst) (b := r6) (r := ((l7.getD i2 default).dst) + r6) rfl rfl rfl (by omega)) ?_
   refine t_l rfl ?_
   refine s_val (x_ix (a := v_l7) (b := I (i2 : Int)) (v := vat v_l7 4 (Int.toNat (i2 : Int))) rfl rfl (Sl.ix (α := Old10) T24.und T24.size (deSl (H.get (k := 2) rfl)) (by omega) (by omega))) ?_
   refine s_nil ⟨(H.pick [0, 1, 3, 4, 5, 6, 7, 8, 9, 10, 11, 12] (by decide) rfl), ?_⟩
   refine t_l rfl ?_
   refine s_val (x_fa (a := vat v_l7 4 (Int.toNat (i2 : Int))) (v := fat (vat v_l7 4 (Int.toNat (i2 : Int))) 0) rfl (fa_pl Fd43_0 Sz3 (Sl.pl (i := (i2 : Int)) (deSl (H.get (k := 2) rfl)) (by omega) (by omega)))) ?_
   refine s_nil ⟨(H.pick [0, 1, 3, 4, 5, 6, 7, 8, 9, 10, 11, 12] (by decide) rfl), ?_⟩
   refine t_l rfl ?_
   refine s_val (x_ld (p := fat (vat v_l7 4 (Int.toNat (i2 : Int))) 0) (v := I ((l7.getD i2 default).src)) rfl (ld_sc Sc3 (At.mono (Old10_at0 (deSl (H.get (k := 2) rfl)) (i := (i2 : Int)) (by omega) (by omega)) (deLe _ (H.get (k := 2) rfl))))) ?_
   refine s_nil ⟨(H.pick [0, 1, 3, 4, 5, 6, 7, 8, 9, 10, 11, 12] (by decide) rfl), ?_⟩
   refine t_q rfl (fun w' H => x_ari (a := (l7.getD i2 default).src) (b := r6) (r := ((l7.getD i2 default).src) + r6) rfl rfl rfl (by omega)) ?_
   refine t_l rfl ?_
   refine s_val (x_ix (a := v_l7) (b := I (i2 : Int)) (v := vat v_l7 4 (Int.toNat (i2 : Int))) rfl rfl (Sl.ix (α := Old10) T24.und T24.size (deSl (H.get (k := 2) rfl)) (by omega) (by omega))) ?_
   refine s_nil ⟨(H.pick [0, 1, 3, 4, 5, 6, 7, 8, 9, 10, 11, 12] (by decide) rfl), ?_⟩
   refine t_l rfl ?_
   refine s_val (x_fa (a := vat v_l7 4 (Int.toNat (i2 : Int))) (v := fat (vat v_l7 4 (Int.toNat (i2 : Int))) 0) rfl (fa_pl Fd43_0 Sz3 (Sl.pl (i := (i2 : Int)) (deSl (H.get (k := 2) rfl)) (by omega) (by omega)))) ?_
   refine s_nil ⟨(H.pick [0, 1, 3, 4, 5, 6, 7, 8, 9, 10, 11, 12] (by decide) rfl), ?_⟩
   refine t_l rfl ?_
   refine t_dofs (k := 2) (i := (i2 : Int)) (dl := l7) (off := 0) (o' := { (l7.getD i2 default) with src := ((l7.getD i2 default).src) + r6 }) H rfl Sz3 (by omega) (by omega) rfl rfl (by decide) rfl rfl rfl ?_
   intro w281z us282z hr283z H
   replace H : St w w281z [cBlk b_16 [v_l, v_l7, I (r02 + r6), I (r03 + r6)] 26, cOwn (α := Yr) 41 v_l l, cDO 43 3 v_l7 us282z (l7.set i2 ({ (l7.getD i2 default) with src := ((l7.getD i2 default).src) + r6 })), cRo B_l7, cBlk b_10 [I s, I s2] 35, cBlk b_9 [I r002, I r012] 35, cBlk nb0_8 [v_order, I q12, I q22] 101, cBlk b_7 [u0_2, u1_3, I r02, I r03] 26, cOwn (α := Yr) 41 u0_2 r00, cOwn (α := Raw 3) 43 u1_3 rr2_4, cRo Bs3_5, cOwn (α := Int) 3 u4_6 r12, cBlk nb0_1 [v_numbers, I q1, I q2] 101] R := H
   refine s_nil ⟨(H.pick [0, 1, 3, 4, 5, 6, 7, 8, 9, 10, 11, 12] (by decide) rfl), ?_⟩
   refine t_l rfl ?_
   refine s_val (x_ix (a := v_l7) (b := I (i2 : Int)) (v := vat v_l7 4 (Int.toNat (i2 : Int))) rfl rfl (Sl.ix (α := Old10) T24.und T24.size (deSl (H.get (k := 2) rfl)) (by omega) (by omega))) ?_
   refine s_nil ⟨(H.pick [0, 1, 3, 4, 5, 6, 7, 8, 9, 10, 11, 12] (by decide) rfl), ?_⟩
   refine t_l rfl ?_
   refine s_val (x_fa (a := vat v_l7 4 (Int.toNat (i2 : Int))) (v := fat (vat v_l7 4 (Int.toNat (i2 : Int))) 1) rfl (fa_pl Fd43_1 Sz3 (Sl.pl (i := (i2 : Int)) (deSl (H.get (k := 2) rfl)) (by omega) (by omega)))) ?_
   refine s_nil ⟨(H.pick [0, 1, 3, 4, 5, 6, 7, 8, 9, 10, 11, 12] (by decide) rfl), ?_⟩
   refine t_l rfl ?_
   refine t_dofs (k := 2) (i := (i2 : Int)) (dl := l7.set i2 ({ (l7.getD i2 default) with src := ((l7.getD i2 default).src) + r6 })) (off := 1) (o' := { ((l7.set i2 ({ (l7.getD i2 default) with src := ((l7.getD i2 default).src) + r6 })).getD i2 default) with dst := ((l7.getD i2 default).dst) + r6 }) H rfl Sz3 (by omega) (by omega) rfl rfl (by decide) rfl rfl rfl ?_
   intro w285z us286z hr287z H
   replace H : St w w285z [cBlk b_16 [v_l, v_l7, I (r02 + r6), I (r03 + r6)] 26, cOwn (α := Yr) 41 v_l l, cDO 43 3 v_l7 us286z ((l7.set i2 ({ (l7.getD i2 default) with src := ((l7.getD i2 default).src) + r6 })).set i2 ({ ((l7.set i2 ({ (l7.getD i2 default) with src := ((l7.getD i2 default).src) + r6 })).getD i2 default) with dst := ((l7.getD i2 default).dst) + r6 })), cRo B_l7, cBlk b_10 [I s, I s2] 35, cBlk b_9 [I r002, I r012] 35, cBlk nb0_8 [v_order, I q12, I q22] 101, cBlk b_7 [u0_2, u1_3, I r02, I r03] 26, cOwn (α := Yr) 41 u0_2 r00, cOwn (α := Raw 3) 43 u1_3 rr2_4, cRo Bs3_5, cOwn (α := Int) 3 u4_6 r12, cBlk nb0_1 [v_numbers, I q1, I q2] 101] R := H
   refine s_nil ⟨(H.pick [0, 1, 3, 4, 5, 6, 7, 8, 9, 10, 11, 12] (by decide) rfl), ?_⟩
   refine t_nil ?_
   exact ⟨us286z, _, upds_of _ _ ⟨rfl, rfl, rfl, rfl, rfl, rfl, rfl, rfl, rfl, trivial⟩, hM, H, hr287z⟩
  rintro _ w288z ⟨usj_u1_13, ρ, rfl, hM, H, hrj289z⟩
  unfold zaW at hM
  refine W.seq ?_
  refine W.region rfl ?_
  refine s_val (x_as (v := I 0) rfl) ?_
  refine s_nil ?_
  refine W.block ?_
  obtain ⟨ex290z, hi291z, hk292z⟩ := M.e_bind hM
  obtain ⟨m0_, hi291z⟩ := M.e_iter hi291z
  refine W.loop (fun m σ W => ∃ (l4 : List Old10) (k : Nat) (v_l4 : Value) (rw_l4 : List (Raw 3)) (B_l4 : Base) (ρ : Env), σ = upds ρ [(13, .pointer (some ⟨b_7, 0, none⟩)), (15, .pointer (some ⟨nb0_8, 0, none⟩)), (16, I (r02 + r3)), (17, I ((r02 + r3) + r4)), (18, I r5), (19, I r6), (21, .pointer (some ⟨b_9, 0, none⟩)), (27, .pointer (some ⟨b_16, 0, none⟩)), (29, I (i2 : Int)), (30, I (k : Int))] /\ M.iterN (zat r6 i2) m (l4, k) = some ex290z /\ St w W [cBlk b_16 [v_l, v_l4, I (r02 + r6), I (r03 + r6)] 26, cOwn (α := Yr) 41 v_l l, cDO 43 3 v_l4 rw_l4 l4, cRo B_l4, cBlk b_10 [I s, I s2] 35, cBlk b_9 [I r002, I r012] 35, cBlk nb0_8 [v_order, I q12, I q22] 101, cBlk b_7 [u0_2, u1_3, I r02, I r03] 26, cOwn (α := Yr) 41 u0_2 r00, cOwn (α := Raw 3) 43 u1_3 rr2_4, cRo Bs3_5, cOwn (α := Int) 3 u4_6 r12, cBlk nb0_1 [v_numbers, I q1, I q2] 101] R /\ rw_l4.length = l4.length) ?_ ?_
  ·exact ⟨_, (l7.set i2 ({ (l7.getD i2 default) with src := ((l7.getD i2 default).src) + r6 })).set i2 ({ ((l7.set i2 ({ (l7.getD i2 default) with src := ((l7.getD i2 default).src) + r6 })).getD i2 default) with dst := ((l7.getD i2 default).dst) + r6 }), 0, v_l7, usj_u1_13, B_l7, _, upds_of _ _ ⟨rfl, rfl, rfl, rfl, rfl, rfl, rfl, rfl, rfl, rfl, trivial⟩, hi291z, H, hrj289z⟩
  rintro m295z σ w293z ⟨l4, k, v_l4, rw_l4, B_l4, ρ, rfl, hI294z, H, hr_l4⟩
  obtain ⟨m296z, lt297z, x298z, hM, hN299z⟩ := M.e_iterN hI294z
  simp only [zat] at hM
  clear hI294z
  refine W.seq ?_
  refine W.seq ?_
  refine W.region rfl ?_
  refine s_val (x_mv (v := I (k : Int)) rfl) ?_
  refine s_val (x_fa (a := .pointer (some ⟨b_16, 0, none⟩)) (v := .pointer (some ⟨b_16, 1, none⟩)) rfl (fa_blk (o := 0) Fd26_1 Sz24)) ?_
  refine s_val (x_ld (p := .pointer (some ⟨b_16, 1, none⟩)) (v := v_l4) rfl (ldb_sc Sc24 (H.blk (k := 0) rfl) rfl)) ?_
  refine s_val (x_mv (v := I (i2 : Int)) rfl) ?_
  obtain ⟨sd300z, hM⟩ := M.e_grd hM
  simp only [Bool.and_eq_true, decide_eq_true_eq] at sd300z
  refine s_val (x_ix (a := v_l4) (b := I (i2 : Int)) (v := vat v_l4 4 (Int.toNat (i2 : Int))) rfl rfl (Sl.ix (α := Old10) T24.und T24.size (deSl (H.get (k := 2) rfl)) (by omega) (by omega))) ?_
  refine s_val (x_fa (a := vat v_l4 4 (Int.toNat (i2 : Int))) (v := fat (vat v_l4 4 (Int.toNat (i2 : Int))) 3) rfl (fa_pl Fd43_3 Sz27 (Sl.pl (i := (i2 : Int)) (deSl (H.get (k := 2) rfl)) (by omega) (by omega)))) ?_
  obtain ⟨u301z, ha_u301z, hs302z⟩ := Old10_at3 (deSl (H.get (k := 2) rfl)) (i := (i2 : Int)) (by omega) (by omega)
  replace hs302z : Sl _ u301z (l4.getD i2 default).passed := hs302z
  have hl_hs302z := hs302z.len_le
  refine s_val (x_ld (p := fat (vat v_l4 4 (Int.toNat (i2 : Int))) 3) (v := u301z) rfl (ld_sc Sc27 (At.mono (ha_u301z) (deLe _ (H.get (k := 2) rfl))))) ?_
  have hl303z := (hs302z).len_le
  refine s_val (x_lenS T27.und rfl hs302z) ?_
  refine s_val (x_cmp (kd := .i64) (a := (k : Int)) (b := (((l4.getD i2 default).passed).length : Int)) (r := decide ((k : Int) < (((l4.getD i2 default).passed).length : Int))) rfl rfl rfl) ?_
  refine s_nil ?_
  refine W.cond (decide ((k : Int) < (((l4.getD i2 default).passed).length : Int))) rfl (fun c304z => ?_) (fun c304z => ?_)
  ·replace hM := M.e_t hM c304z
   simp only [decide_eq_true_eq, decide_eq_false_iff_not, beq_iff_eq, bne_iff_ne, beq_eq_false_iff_ne, bne_eq_false_iff_eq, ne_eq, Decidable.not_not] at c304z
   refine W.skip ?_
   refine W.seq ?_
   refine W.block ?_
   refine W.region rfl ?_
   refine s_val (x_fa (a := .pointer (some ⟨b_16, 0, none⟩)) (v := .pointer (some ⟨b_16, 1, none⟩)) rfl (fa_blk (o := 0) Fd26_1 Sz24)) ?_
   refine s_val (x_ld (p := .pointer (some ⟨b_16, 1, none⟩)) (v := v_l4) rfl (ldb_sc Sc24 (H.blk (k := 0) rfl) rfl)) ?_
   refine s_val (x_mv (v := I (i2 : Int)) rfl) ?_
   refine s_val (x_ix (a := v_l4) (b := I (i2 : Int)) (v := vat v_l4 4 (Int.toNat (i2 : Int))) rfl rfl (Sl.ix (α := Old10) T24.und T24.size (deSl (H.get (k := 2) rfl)) (by omega) (by omega))) ?_
   refine s_val (x_fa (a := vat v_l4 4 (Int.toNat (i2 : Int))) (v := fat (vat v_l4 4 (Int.toNat (i2 : Int))) 3) rfl (fa_pl Fd43_3 Sz27 (Sl.pl (i := (i2 : Int)) (deSl (H.get (k := 2) rfl)) (by omega) (by omega)))) ?_
   obtain ⟨u305z, ha_u305z, hs306z⟩ := Old10_at3 (deSl (H.get (k := 2) rfl)) (i := (i2 : Int)) (by omega) (by omega)
   replace hs306z : Sl _ u305z (l4.getD i2 default).passed := hs306z
   have hl_hs306z := hs306z.len_le
   refine s_val (x_ld (p := fat (vat v_l4 4 (Int.toNat (i2 : Int))) 3) (v := u305z) rfl (ld_sc Sc27 (At.mono (ha_u305z) (deLe _ (H.get (k := 2) rfl))))) ?_
   refine s_val (x_mv (v := I (k : Int)) rfl) ?_
   obtain ⟨sd307z, hM⟩ := M.e_grd hM
   simp only [Bool.and_eq_true, decide_eq_true_eq] at sd307z
   refine s_val (x_ix (a := u305z) (b := I (k : Int)) (v := vat u305z 1 (Int.toNat (k : Int))) rfl rfl (Sl.ix (α := Int) T27.und T27.size hs306z (by omega) (by omega))) ?_
   refine s_val (x_ld (p := vat u305z 1 (Int.toNat (k : Int))) (v := I (((l4.getD i2 default).passed).getD k 0)) rfl (ld_sc Sc3 (At.mono (Int_at hs306z (i := (k : Int)) (by omega) (by omega)) (deLe _ (H.get (k := 2) rfl))))) ?_
   refine s_val (x_mv (v := I r6) rfl) ?_
   obtain ⟨sd308z, hM⟩ := M.e_grd hM
   simp only [Bool.and_eq_true, decide_eq_true_eq] at sd308z
   refine s_val (x_ari (a := ((l4.getD i2 default).passed).getD k 0) (b := r6) (r := (((l4.getD i2 default).passed).getD k 0) + r6) rfl rfl rfl (by omega)) ?_
   refine s_val (x_ix (a := u305z) (b := I (k : Int)) (v := vat u305z 1 (Int.toNat (k : Int))) rfl rfl (Sl.ix (α := Int) T27.und T27.size hs306z (by omega) (by omega))) ?_
   refine t_dost (k := 2) (i := (i2 : Int)) (j := (k : Int)) (dl := l4) (dl' := l4.set i2 { (l4.getD i2 default) with passed := (l4.getD i2 default).passed.set k ((((l4.getD i2 default).passed).getD k 0) + r6 : Int) }) (L' := [cBlk b_16 [v_l, v_l4, I (r02 + r6), I (r03 + r6)] 26, cOwn (α := Yr) 41 v_l l, cDO 43 3 v_l4 rw_l4 (l4.set i2 { (l4.getD i2 default) with passed := (l4.getD i2 default).passed.set k ((((l4.getD i2 default).passed).getD k 0) + r6 : Int) }), cRo B_l4, cBlk b_10 [I s, I s2] 35, cBlk b_9 [I r002, I r012] 35, cBlk nb0_8 [v_order, I q12, I q22] 101, cBlk b_7 [u0_2, u1_3, I r02, I r03] 26, cOwn (α := Yr) 41 u0_2 r00, cOwn (α := Raw 3) 43 u1_3 rr2_4, cRo Bs3_5, cOwn (α := Int) 3 u4_6 r12, cBlk nb0_1 [v_numbers, I q1, I q2] 101]) H rfl Sz3 (by omega) (by omega) (deLe _ (H.get (k := 2) rfl)) ha_u305z (by omega) (by first | omega | (simp only [Int.toNat_natCast]; omega)) ((((l4.getD i2 default).passed).getD k 0) + r6 : Int) rfl rfl rfl rfl rfl ?_
   intro w310z H
   have hr311z : (rw_l4).length = (l4.set i2 { (l4.getD i2 default) with passed := (l4.getD i2 default).passed.set k ((((l4.getD i2 default).passed).getD k 0) + r6 : Int) }).length := hr_l4.trans (List.length_set).symm
   refine s_nil ?_
   refine W.region rfl ?_
   refine s_val (x_mv (v := I (k : Int)) rfl) ?_
   refine s_val (x_ari (a := (k : Int)) (b := 1) (r := (k : Int) + 1) rfl rfl rfl (by omega)) ?_
   refine s_val (x_as (v := I ((k : Int) + 1)) rfl) ?_
   refine s_nil ?_
   exact ⟨m296z, lt297z, l4.set i2 { (l4.getD i2 default) with passed := (l4.getD i2 default).passed.set k ((((l4.getD i2 default).passed).getD k 0) + r6 : Int) }, k + 1, v_l4, rw_l4, B_l4, _, upds_of _ _ ⟨rfl, rfl, rfl, rfl, rfl, rfl, rfl, rfl, rfl, rfl, trivial⟩, M.e_inl hM hN299z, H, hr311z⟩
  replace hM := M.e_f hM c304z
  simp only [decide_eq_true_eq, decide_eq_false_iff_not, beq_iff_eq, bne_iff_ne, beq_eq_false_iff_ne, bne_eq_false_iff_eq, ne_eq, Decidable.not_not] at c304z
  refine W.exit ?_
  have hX312z := M.e_inr hM hN299z
  subst hX312z
  replace hM := hk292z
  try dsimp only at hM
  refine W.region rfl ?_
  refine s_val (x_mv (v := I (i2 : Int)) rfl) ?_
  refine s_val (x_ari (a := (i2 : Int)) (b := 1) (r := (i2 : Int) + 1) rfl rfl rfl (by omega)) ?_
  refine s_val (x_as (v := I ((i2 : Int) + 1)) rfl) ?_
  refine s_nil ?_
  exact ⟨m107z, lt108z, l4, i2 + 1, v_l4, rw_l4, B_l4, _, upds_of _ _ ⟨rfl, rfl, rfl, rfl, rfl, rfl, rfl, rfl, rfl, trivial⟩, M.e_inl hM hN110z, H, hr_l4⟩
 replace hM := M.e_f hM c112z
 simp only [decide_eq_true_eq, decide_eq_false_iff_not, beq_iff_eq, bne_iff_ne, beq_eq_false_iff_ne, bne_eq_false_iff_eq, ne_eq, Decidable.not_not] at c112z
 refine W.exit ?_
 have hX313z := M.e_inr hM hN110z
 subst hX313z
 replace hM := hk103z
 try dsimp only at hM
 refine W.seq ?_
 refine W.seq ?_
 refine W.region rfl ?_
 refine s_val (x_fa (a := .pointer (some ⟨b_16, 0, none⟩)) (v := .pointer (some ⟨b_16, 1, none⟩)) rfl (fa_blk (o := 0) Fd26_1 Sz24)) ?_
 refine s_val (x_ld (p := .pointer (some ⟨b_16, 1, none⟩)) (v := v_l7) rfl (ldb_sc Sc24 (H.blk (k := 0) rfl) rfl)) ?_
 have hl314z := ((deSl (H.get (k := 2) rfl))).len_le
 refine s_val (x_lenS T24.und rfl (deSl (H.get (k := 2) rfl))) ?_
 refine s_val (x_ari (a := (l7.length : Int)) (b := 1) (r := (l7.length : Int) - 1) rfl rfl rfl (by omega)) ?_
 refine s_val (x_as (v := I ((l7.length : Int) - 1)) rfl) ?_
 refine s_nil ?_
 refine W.block ?_
 obtain ⟨ex315z, hi316z, hk317z⟩ := M.e_bind hM
 obtain ⟨m0_, hi316z⟩ := M.e_iter hi316z
 refine W.loop (fun m σ W => ∃ (s3 : Int) (s4 : Int) (l10 : List Old10) (i3 : Int) (v_l10 : Value) (rw_l10 : List (Raw 3)) (B_l10 : Base) (ρ : Env), σ = upds ρ [(13, .pointer (some ⟨b_7, 0, none⟩)), (15, .pointer (some ⟨nb0_8, 0, none⟩)), (16, I (r02 + r3)), (17, I ((r02 + r3) + r4)), (18, I r5), (19, I r6), (21, .pointer (some ⟨b_9, 0, none⟩)), (27, .pointer (some ⟨b_16, 0, none⟩)), (31, I i3)] /\ M.iterN (zaS order) m (s3, s4, l10, i3) = some ex315z /\ St w W [cBlk b_16 [v_l, v_l10, I (r02 + r6), I (r03 + r6)] 26, cOwn (α := Yr) 41 v_l l, cDO 43 3 v_l10 rw_l10 l10, cRo B_l10, cBlk b_10 [I s, I s2] 35, cBlk b_9 [I r002, I r012] 35, cBlk nb0_8 [v_order, I s3, I s4] 101, cBlk b_7 [u0_2, u1_3, I r02, I r03] 26, cOwn (α := Yr) 41 u0_2 r00, cOwn (α := Raw 3) 43 u1_3 rr2_4, cRo Bs3_5, cOwn (α := Int) 3 u4_6 r12, cBlk nb0_1 [v_numbers, I q1, I q2] 101] R /\ rw_l10.length = l10.length) ?_ ?_
 ·exact ⟨_, q12, q22, l7, (l7.length : Int) - 1, v_l7, rw_l7, B_l7, _, upds_of _ _ ⟨rfl, rfl, rfl, rfl, rfl, rfl, rfl, rfl, rfl, trivial⟩, hi316z, H, hr_l7⟩
 rintro m320z σ w318z ⟨s3, s4, l10, i3, v_l10, rw_l10, B_l10, ρ, rfl, hI319z, H, hr_l10⟩
 obtain ⟨m321z, lt322z, x323z, hM, hN324z⟩ := M.e_iterN hI319z
 simp only [zaS] at hM
 clear hI319z
 refine W.seq ?_
 refine W.seq ?_
 refine W.region rfl ?_
 refine s_val (x_mv (v := I i3) rfl) ?_
 refine s_val (x_cmp (kd := .i64) (a := i3) (b := 0) (r := decide (0 < i3)) rfl rfl rfl) ?_
 refine s_nil ?_
 refine W.cond (decide (0 < i3)) rfl (fun c325z => ?_) (fun c325z => ?_)
 ·replace hM := M.e_t hM c325z
  simp only [decide_eq_true_eq, decide_eq_false_iff_not, beq_iff_eq, bne_iff_ne, beq_eq_false_iff_ne, bne_eq_false_iff_eq, ne_eq, Decidable.not_not] at c325z
  refine W.skip ?_
  refine W.seq ?_
  refine W.block ?_
  refine W.seq ?_
  refine W.region rfl ?_
  refine s_val (x_mv (v := .pointer (some ⟨nb0_8, 0, none⟩)) rfl) ?_
  refine s_val (x_mv (v := I i3) rfl) ?_
  obtain ⟨sd326z, hM⟩ := M.e_grd hM
  simp only [Bool.and_eq_true, decide_eq_true_eq] at sd326z
  refine s_val (x_ari (a := i3) (b := 1) (r := i3 + 1) rfl rfl rfl (by omega)) ?_
  obtain ⟨r328z, hx327z, hM⟩ := M.e_bind hM
  refine s_call cf14 [.pointer (some ⟨nb0_8, 0, none⟩), I (i3 + 1)] rfl (zaa order s3 s4 (i3 + 1) (hC_order.app _) hs_order hx327z _ (St.give (L := [cBlk nb0_8 [v_order, I s3, I s4] 101, cBlk b_16 [v_l, v_l10, I (r02 + r6), I (r03 + r6)] 26, cOwn (α := Yr) 41 v_l l, cDO 43 3 v_l10 rw_l10 l10, cRo B_l10, cBlk b_10 [I s, I s2] 35, cBlk b_9 [I r002, I r012] 35, cBlk b_7 [u0_2, u1_3, I r02, I r03] 26, cOwn (α := Yr) 41 u0_2 r00, cOwn (α := Raw 3) 43 u1_3 rr2_4, cRo Bs3_5, cOwn (α := Int) 3 u4_6 r12, cBlk nb0_1 [v_numbers, I q1, I q2] 101]) (A := [cBlk nb0_8 [v_order, I s3, I s4] 101]) (T := [cBlk b_16 [v_l, v_l10, I (r02 + r6), I (r03 + r6)] 26, cOwn (α := Yr) 41 v_l l, cDO 43 3 v_l10 rw_l10 l10, cRo B_l10, cBlk b_10 [I s, I s2] 35, cBlk b_9 [I r002, I r012] 35, cBlk b_7 [u0_2, u1_3, I r02, I r03] 26, cOwn (α := Yr) 41 u0_2 r00, cOwn (α := Raw 3) 43 u1_3 rr2_4, cRo Bs3_5, cOwn (α := Int) 3 u4_6 r12, cBlk nb0_1 [v_numbers, I q1, I q2] 101]) (H.pick [6, 0, 1, 2, 3, 4, 5, 7, 8, 9, 10, 11, 12] (by decide) rfl) rfl)) ?_
  rintro vq w329z ⟨r8, q13, q23, hr330z, hvq, H2_⟩
  subst hr330z
  subst vq
  try dsimp only at hM
  replace H : St w w329z [cBlk nb0_8 [v_order, I q13, I q23] 101, cBlk b_16 [v_l, v_l10, I (r02 + r6), I (r03 + r6)] 26, cOwn (α := Yr) 41 v_l l, cDO 43 3 v_l10 rw_l10 l10, cRo B_l10, cBlk b_10 [I s, I s2] 35, cBlk b_9 [I r002, I r012] 35, cBlk b_7 [u0_2, u1_3, I r02, I r03] 26, cOwn (α := Yr) 41 u0_2 r00, cOwn (α := Raw 3) 43 u1_3 rr2_4, cRo Bs3_5, cOwn (α := Int) 3 u4_6 r12, cBlk nb0_1 [v_numbers, I q1, I q2] 101] R := H.pick [6, 0, 1, 2, 3, 4, 5, 7, 8, 9, 10, 11, 12] (by decide) rfl |>.back H2_ rfl
  clear H2_
  refine s_val (x_as (v := I r8) rfl) ?_
  refine s_nil ?_
  refine W.drawT (fun W => St w W [cBlk nb0_8 [v_order, I q13, I q23] 101, cBlk b_16 [v_l, v_l10, I (r02 + r6), I (r03 + r6)] 26, cOwn (α := Yr) 41 v_l l, cRo B_l10, cBlk b_10 [I s, I s2] 35, cBlk b_9 [I r002, I r012] 35, cBlk b_7 [u0_2, u1_3, I r02, I r03] 26, cOwn (α := Yr) 41 u0_2 r00, cOwn (α := Raw 3) 43 u1_3 rr2_4, cRo Bs3_5, cOwn (α := Int) 3 u4_6 r12, cBlk nb0_1 [v_numbers, I q1, I q2] 101] R) (.q 0 (.q 1 (.q 2 (.q 3 (.q 4 (.q 5 (.q 6 (.q 7 (.q 8 (.q 11 (.q 12 (.q 13 (.l2 9 (.l2 10 (.l 14 (.l 15 (.l 16 (.l 17 (.l 18 (.l 19 .nil)))))) 14 (.l2 10 (.l 15 (.l 16 (.l 17 (.l 18 (.l 19 .nil))))) 15 (.l 10 (.l 16 (.l 17 (.l 18 (.l 19 .nil))))))) 14 (.l2 9 (.l2 10 (.l 15 (.l 16 (.l 17 (.l 18 (.l 19 .nil))))) 15 (.l 10 (.l 16 (.l 17 (.l 18 (.l 19 .nil)))))) 15 (.l 9 (.l 10 (.l 16 (.l 17 (.l 18 (.l 19 .nil)))))))))))))))))))) mixed (by decide +kernel) rfl ?_
  intro w331z hx_
  replace H : St w w331z [cBlk nb0_8 [v_order, I q13, I q23] 101, cBlk b_16 [v_l, v_l10, I (r02 + r6), I (r03 + r6)] 26, cOwn (α := Yr) 41 v_l l, cDO 43 3 v_l10 rw_l10 l10, cRo B_l10, cBlk b_10 [I s, I s2] 35, cBlk b_9 [I r002, I r012] 35, cBlk b_7 [u0_2, u1_3, I r02, I r03] 26, cOwn (α := Yr) 41 u0_2 r00, cOwn (α := Raw 3) 43 u1_3 rr2_4, cRo Bs3_5, cOwn (α := Int) 3 u4_6 r12, cBlk nb0_1 [v_numbers, I q1, I q2] 101] R := H.ext hx_
  clear hx_
  refine ⟨(H.pick [0, 1, 2, 4, 5, 6, 7, 8, 9, 10, 11, 12] (by decide) rfl), ?_⟩
  refine t_q rfl (fun w' H => x_fa (a := .pointer (some ⟨b_16, 0, none⟩)) (v := .pointer (some ⟨b_16, 1, none⟩)) rfl (fa_blk (o := 0) Fd26_1 Sz24)) ?_
  refine t_q rfl (fun w' H => x_ld (p := .pointer (some ⟨b_16, 1, none⟩)) (v := v_l10) rfl (ldb_sc Sc24 (H.blk (k := 1) rfl) rfl)) ?_
  refine t_q rfl (fun w' H => x_mv (v := I i3) rfl) ?_
  refine t_q rfl (fun w' H => x_fa (a := .pointer (some ⟨b_16, 0, none⟩)) (v := .pointer (some ⟨b_16, 1, none⟩)) rfl (fa_blk (o := 0) Fd26_1 Sz24)) ?_
  refine t_q rfl (fun w' H => x_ld (p := .pointer (some ⟨b_16, 1, none⟩)) (v := v_l10) rfl (ldb_sc Sc24 (H.blk (k := 1) rfl) rfl)) ?_
  refine t_q rfl (fun w' H => x_mv (v := I r8) rfl) ?_
  refine t_q rfl (fun w' H => x_fa (a := .pointer (some ⟨b_16, 0, none⟩)) (v := .pointer (some ⟨b_16, 1, none⟩)) rfl (fa_blk (o := 0) Fd26_1 Sz24)) ?_
  refine t_q rfl (fun w' H => x_ld (p := .pointer (some ⟨b_16, 1, none⟩)) (v := v_l10) rfl (ldb_sc Sc24 (H.blk (k := 1) rfl) rfl)) ?_
  refine t_q rfl (fun w' H => x_mv (v := I r8) rfl) ?_
  refine t_q rfl (fun w' H => x_fa (a := .pointer (some ⟨b_16, 0, none⟩)) (v := .pointer (some ⟨b_16, 1, none⟩)) rfl (fa_blk (o := 0) Fd26_1 Sz24)) ?_
  refine t_q rfl (fun w' H => x_ld (p := .pointer (some ⟨b_16, 1, none⟩)) (v := v_l10) rfl (ldb_sc Sc24 (H.blk (k := 1) rfl) rfl)) ?_
  refine t_q rfl (fun w' H => x_mv (v := I i3) rfl) ?_
  obtain ⟨sd332z, hM⟩ := M.e_grd hM
  simp only [Bool.and_eq_true, decide_eq_true_eq] at sd332z
  obtain ⟨sd336z, hM⟩ := M.e_grd hM
  simp only [Bool.and_eq_true, decide_eq_true_eq] at sd336z
  refine t_l2 rfl rfl ?_ ?_
  ·skip
   refine s_val (x_ix (a := v_l10) (b := I r8) (v := vat v_l10 4 (Int.toNat r8)) rfl rfl (Sl.ix (α := Old10) T24.und T24.size (deSl (H.get (k := 3) rfl)) (by omega) (by omega))) ?_
   have hvc_q350z := Sl.cells (deSl (H.get (k := 3) rfl))
   have hvo_q350z := Sl.oc (deSl (H.get (k := 3) rfl))
   refine s_nil ⟨(H.pick [0, 1, 2, 4, 5, 6, 7, 8, 9, 10, 11, 12] (by decide) rfl), ?_⟩
   refine t_l2 rfl rfl ?_ ?_
   ·skip
    obtain ⟨u351z, ha353z, hs352z⟩ := Old10_atA (deSl (H.get (k := 3) rfl)) (i := r8) (by omega) (by omega)
    replace hs352z : Sl _ u351z (l10.getD (Int.toNat r8) default).passed := hs352z
    have hl_hs352z := hs352z.len_le
    refine s_val (x_ld (p := vat v_l10 4 (Int.toNat r8)) (v := .agg #[I ((l10.getD (Int.toNat r8) default).src), I ((l10.getD (Int.toNat r8) default).dst), I ((l10.getD (Int.toNat r8) default).stage), u351z]) rfl (ld_ag Ag43 Sz43 (At.mono ha353z (deLe _ (H.get (k := 3) rfl))))) ?_
    refine s_nil ⟨(H.pick [0, 1, 2, 4, 5, 6, 7, 8, 9, 10, 11, 12] (by decide) rfl), ?_⟩
    refine t_l rfl ?_
    refine s_val (x_ix (a := v_l10) (b := I i3) (v := vat v_l10 4 (Int.toNat i3)) rfl rfl (Sl.ix (α := Old10) T24.und T24.size (deSl (H.get (k := 3) rfl)) (by omega) (by omega))) ?_
    refine s_nil ⟨(H.pick [0, 1, 2, 4, 5, 6, 7, 8, 9, 10, 11, 12] (by decide) rfl), ?_⟩
    refine t_l rfl ?_
    obtain ⟨u354z, ha356z, hs355z⟩ := Old10_atA (deSl (H.get (k := 3) rfl)) (i := i3) (by omega) (by omega)
    replace hs355z : Sl _ u354z (l10.getD (Int.toNat i3) default).passed := hs355z
    have hl_hs355z := hs355z.len_le
    refine s_val (x_ld (p := vat v_l10 4 (Int.toNat i3)) (v := .agg #[I ((l10.getD (Int.toNat i3) default).src), I ((l10.getD (Int.toNat i3) default).dst), I ((l10.getD (Int.toNat i3) default).stage), u354z]) rfl (ld_ag Ag43 Sz43 (At.mono ha356z (deLe _ (H.get (k := 3) rfl))))) ?_
    refine s_nil ⟨(H.pick [0, 1, 2, 4, 5, 6, 7, 8, 9, 10, 11, 12] (by decide) rfl), ?_⟩
    refine t_l rfl ?_
    refine s_val (x_ix (a := v_l10) (b := I i3) (v := vat v_l10 4 (Int.toNat i3)) rfl rfl (Sl.ix (α := Old10) T24.und T24.size (deSl (H.get (k := 3) rfl)) (by omega) (by omega))) ?_
    refine s_nil ⟨(H.pick [0, 1, 2, 4, 5, 6, 7, 8, 9, 10, 11, 12] (by decide) rfl), ?_⟩
    refine t_l rfl ?_
    have hu361z := doUA (H.get (k := 3) rfl) (deLe _ (H.get (k := 3) rfl)) (i := r8) (by omega) (by omega) ha353z
    have hu362z := doUA (H.get (k := 3) rfl) (deLe _ (H.get (k := 3) rfl)) (i := i3) (by omega) (by omega) ha356z
    refine t_sw1 (k := 3) (i := i3) (j := r8) (dl := l10) H rfl Sz43 (by omega) (by omega) (by omega) (by omega) hu361z rfl rfl ?_
    intro w358z H
    replace H : St w w358z [cBlk nb0_8 [v_order, I q13, I q23] 101, cBlk b_16 [v_l, v_l10, I (r02 + r6), I (r03 + r6)] 26, cOwn (α := Yr) 41 v_l l, cDX 43 3 v_l10 (Int.toNat i3) (Int.toNat r8) rw_l10 l10, cRo B_l10, cBlk b_10 [I s, I s2] 35, cBlk b_9 [I r002, I r012] 35, cBlk b_7 [u0_2, u1_3, I r02, I r03] 26, cOwn (α := Yr) 41 u0_2 r00, cOwn (α := Raw 3) 43 u1_3 rr2_4, cRo Bs3_5, cOwn (α := Int) 3 u4_6 r12, cBlk nb0_1 [v_numbers, I q1, I q2] 101] R := H
    refine s_nil ⟨(H.pick [0, 1, 2, 4, 5, 6, 7, 8, 9, 10, 11, 12] (by decide) rfl), ?_⟩
    refine t_l rfl ?_
    refine s_val (x_ix (a := v_l10) (b := I r8) (v := vat v_l10 4 (Int.toNat r8)) rfl rfl (Sl.ix (α := Raw 3) T24.und T24.size (dxSl (H.get (k := 3) rfl)) (by omega) (by rw [List.length_set]; have hu_ := hr_l10; omega))) ?_
    refine s_nil ⟨(H.pick [0, 1, 2, 4, 5, 6, 7, 8, 9, 10, 11, 12] (by decide) rfl), ?_⟩
    refine t_l rfl ?_
    refine t_sw2 (k := 3) (i := i3) (j := r8) (dl := l10) H rfl Sz43 (by omega) (by omega) (by omega) (by omega) hu362z rfl rfl ?_
    intro w364z us365z hr366z H
    replace H : St w w364z [cBlk nb0_8 [v_order, I q13, I q23] 101, cBlk b_16 [v_l, v_l10, I (r02 + r6), I (r03 + r6)] 26, cOwn (α := Yr) 41 v_l l, cDO 43 3 v_l10 us365z ((l10.set (Int.toNat i3) (l10.getD (Int.toNat r8) default)).set (Int.toNat r8) (l10.getD (Int.toNat i3) default)), cRo B_l10, cBlk b_10 [I s, I s2] 35, cBlk b_9 [I r002, I r012] 35, cBlk b_7 [u0_2, u1_3, I r02, I r03] 26, cOwn (α := Yr) 41 u0_2 r00, cOwn (α := Raw 3) 43 u1_3 rr2_4, cRo Bs3_5, cOwn (α := Int) 3 u4_6 r12, cBlk nb0_1 [v_numbers, I q1, I q2] 101] R := H
    refine s_nil ⟨(H.pick [0, 1, 2, 4, 5, 6, 7, 8, 9, 10, 11, 12] (by decide) rfl), ?_⟩
    refine t_nil ?_
    refine W.region rfl ?_
    refine s_val (x_mv (v := I i3) rfl) ?_
    obtain ⟨sd367z, hM⟩ := M.e_grd hM
    simp only [Bool.and_eq_true, decide_eq_true_eq] at sd367z
    refine s_val (x_ari (a := i3) (b := 1) (r := i3 - 1) rfl rfl rfl (by omega)) ?_
    refine s_val (x_as (v := I (i3 - 1)) rfl) ?_
    refine s_nil ?_
    exact ⟨m321z, lt322z, q13, q23, (l10.set (Int.toNat i3) (l10.getD (Int.toNat r8) default)).set (Int.toNat r8) (l10.getD (Int.toNat i3) default), i3 - 1, v_l10, us365z, B_l10, _, upds_of _ _ ⟨rfl, rfl, rfl, rfl, rfl, rfl, rfl, rfl, rfl, trivial⟩, M.e_inl hM hN324z, (H.pick [1, 2, 3, 4, 5, 6, 0, 7, 8, 9, 10, 11, 12] (by decide) rfl), hr366z⟩
   skip
   refine s_val (x_ix (a := v_l10) (b := I i3) (v := vat v_l10 4 (Int.toNat i3)) rfl rfl (Sl.ix (α := Old10) T24.und T24.size (deSl (H.get (k := 3) rfl)) (by omega) (by omega))) ?_
   refine s_nil ⟨(H.pick [0, 1, 2, 4, 5, 6, 7, 8, 9, 10, 11, 12] (by decide) rfl), ?_⟩
   refine t_l2 rfl rfl ?_ ?_
   ·skip
    obtain ⟨u368z, ha370z, hs369z⟩ := Old10_atA (deSl (H.get (k := 3) rfl)) (i := r8) (by omega) (by omega)
    replace hs369z : Sl _ u368z (l10.getD (Int.toNat r8) default).passed := hs369z
    have hl_hs369z := hs369z.len_le
    refine s_val (x_ld (p := vat v_l10 4 (Int.toNat r8)) (v := .agg #[I ((l10.getD (Int.toNat r8) default).src), I ((l10.getD (Int.toNat r8) default).dst), I ((l10.getD (Int.toNat r8) default).stage), u368z]) rfl (ld_ag Ag43 Sz43 (At.mono ha370z (deLe _ (H.get (k := 3) rfl))))) ?_
    refine s_nil ⟨(H.pick [0, 1, 2, 4, 5, 6, 7, 8, 9, 10, 11, 12] (by decide) rfl), ?_⟩
    refine t_l rfl ?_
    obtain ⟨u371z, ha373z, hs372z⟩ := Old10_atA (deSl (H.get (k := 3) rfl)) (i := i3) (by omega) (by omega)
    replace hs372z : Sl _ u371z (l10.getD (Int.toNat i3) default).passed := hs372z
    have hl_hs372z := hs372z.len_le
    refine s_val (x_ld (p := vat v_l10 4 (Int.toNat i3)) (v := .agg #[I ((l10.getD (Int.toNat i3) default).src), I ((l10.getD (Int.toNat i3) default).dst), I ((l10.getD (Int.toNat i3) default).stage), u371z]) rfl (ld_ag Ag43 Sz43 (At.mono ha373z (deLe _ (H.get (k := 3) rfl))))) ?_
    refine s_nil ⟨(H.pick [0, 1, 2, 4, 5, 6, 7, 8, 9, 10, 11, 12] (by decide) rfl), ?_⟩
    refine t_l rfl ?_
    refine s_val (x_ix (a := v_l10) (b := I i3) (v := vat v_l10 4 (Int.toNat i3)) rfl rfl (Sl.ix (α := Old10) T24.und T24.size (deSl (H.get (k := 3) rfl)) (by omega) (by omega))) ?_
    refine s_nil ⟨(H.pick [0, 1, 2, 4, 5, 6, 7, 8, 9, 10, 11, 12] (by decide) rfl), ?_⟩
    refine t_l rfl ?_
    have hu378z := doUA (H.get (k := 3) rfl) (deLe _ (H.get (k := 3) rfl)) (i := r8) (by omega) (by omega) ha370z
    have hu379z := doUA (H.get (k := 3) rfl) (deLe _ (H.get (k := 3) rfl)) (i := i3) (by omega) (by omega) ha373z
    refine t_sw1 (k := 3) (i := i3) (j := r8) (dl := l10) H rfl Sz43 (by omega) (by omega) (by omega) (by omega) hu378z rfl rfl ?_
    intro w375z H
    replace H : St w w375z [cBlk nb0_8 [v_order, I q13, I q23] 101, cBlk b_16 [v_l, v_l10, I (r02 + r6), I (r03 + r6)] 26, cOwn (α := Yr) 41 v_l l, cDX 43 3 v_l10 (Int.toNat i3) (Int.toNat r8) rw_l10 l10, cRo B_l10, cBlk b_10 [I s, I s2] 35, cBlk b_9 [I r002, I r012] 35, cBlk b_7 [u0_2, u1_3, I r02, I r03] 26, cOwn (α := Yr) 41 u0_2 r00, cOwn (α := Raw 3) 43 u1_3 rr2_4, cRo Bs3_5, cOwn (α := Int) 3 u4_6 r12, cBlk nb0_1 [v_numbers, I q1, I q2] 101] R := H
    refine s_nil ⟨(H.pick [0, 1, 2, 4, 5, 6, 7, 8, 9, 10, 11, 12] (by decide) rfl), ?_⟩
    refine t_l rfl ?_
    refine s_val (x_ix (a := v_l10) (b := I r8) (v := vat v_l10 4 (Int.toNat r8)) rfl rfl (Sl.ix (α := Raw 3) T24.und T24.size (dxSl (H.get (k := 3) rfl)) (by omega) (by rw [List.length_set]; have hu_ := hr_l10; omega))) ?_
    refine s_nil ⟨(H.pick [0, 1, 2, 4, 5, 6, 7, 8, 9, 10, 11, 12] (by decide) rfl), ?_⟩
    refine t_l rfl ?_
    refine t_sw2 (k := 3) (i := i3) (j := r8) (dl := l10) H rfl Sz43 (by omega) (by omega) (by omega) (by omega) hu379z rfl rfl ?_
    intro w381z us382z hr383z H
    replace H : St w w381z [cBlk nb0_8 [v_order, I q13, I q23] 101, cBlk b_16 [v_l, v_l10, I (r02 + r6), I (r03 + r6)] 26, cOwn (α := Yr) 41 v_l l, cDO 43 3 v_l10 us382z ((l10.set (Int.toNat i3) (l10.getD (Int.toNat r8) default)).set (Int.toNat r8) (l10.getD (Int.toNat i3) default)), cRo B_l10, cBlk b_10 [I s, I s2] 35, cBlk b_9 [I r002, I r012] 35, cBlk b_7 [u0_2, u1_3, I r02, I r03] 26, cOwn (α := Yr) 41 u0_2 r00, cOwn (α := Raw 3) 43 u1_3 rr2_4, cRo Bs3_5, cOwn (α := Int) 3 u4_6 r12, cBlk nb0_1 [v_numbers, I q1, I q2] 101] R := H
    refine s_nil ⟨(H.pick [0, 1, 2, 4, 5, 6, 7, 8, 9, 10, 11, 12] (by decide) rfl), ?_⟩
    refine t_nil ?_
    refine W.region rfl ?_
    refine s_val (x_mv (v := I i3) rfl) ?_
    obtain ⟨sd384z, hM⟩ := M.e_grd hM
    simp only [Bool.and_eq_true, decide_eq_true_eq] at sd384z
    refine s_val (x_ari (a := i3) (b := 1) (r := i3 - 1) rfl rfl rfl (by omega)) ?_
    refine s_val (x_as (v := I (i3 - 1)) rfl) ?_
    refine s_nil ?_
    exact ⟨m321z, lt322z, q13, q23, (l10.set (Int.toNat i3) (l10.getD (Int.toNat r8) default)).set (Int.toNat r8) (l10.getD (Int.toNat i3) default), i3 - 1, v_l10, us382z, B_l10, _, upds_of _ _ ⟨rfl, rfl, rfl, rfl, rfl, rfl, rfl, rfl, rfl, trivial⟩, M.e_inl hM hN324z, (H.pick [1, 2, 3, 4, 5, 6, 0, 7, 8, 9, 10, 11, 12] (by decide) rfl), hr383z⟩
   skip
   obtain ⟨u385z, ha387z, hs386z⟩ := Old10_atA (deSl (H.get (k := 3) rfl)) (i := i3) (by omega) (by omega)
   replace hs386z : Sl _ u385z (l10.getD (Int.toNat i3) default).passed := hs386z
   have hl_hs386z := hs386z.len_le
   refine s_val (x_ld (p := vat v_l10 4 (Int.toNat i3)) (v := .agg #[I ((l10.getD (Int.toNat i3) default).src), I ((l10.getD (Int.toNat i3) default).dst), I ((l10.getD (Int.toNat i3) default).stage), u385z]) rfl (ld_ag Ag43 Sz43 (At.mono ha387z (deLe _ (H.get (k := 3) rfl))))) ?_
   refine s_nil ⟨(H.pick [0, 1, 2, 4, 5, 6, 7, 8, 9, 10, 11, 12] (by decide) rfl), ?_⟩
   refine t_l rfl ?_
   obtain ⟨u388z, ha390z, hs389z⟩ := Old10_atA (deSl (H.get (k := 3) rfl)) (i := r8) (by omega) (by omega)
   replace hs389z : Sl _ u388z (l10.getD (Int.toNat r8) default).passed := hs389z
   have hl_hs389z := hs389z.len_le
   refine s_val (x_ld (p := vat v_l10 4 (Int.toNat r8)) (v := .agg #[I ((l10.getD (Int.toNat r8) default).src), I ((l10.getD (Int.toNat r8) default).dst), I ((l10.getD (Int.toNat r8) default).stage), u388z]) rfl (ld_ag Ag43 Sz43 (At.mono ha390z (deLe _ (H.get (k := 3) rfl))))) ?_
   refine s_nil ⟨(H.pick [0, 1, 2, 4, 5, 6, 7, 8, 9, 10, 11, 12] (by decide) rfl), ?_⟩
   refine t_l rfl ?_
   refine s_val (x_ix (a := v_l10) (b := I i3) (v := vat v_l10 4 (Int.toNat i3)) rfl rfl (Sl.ix (α := Old10) T24.und T24.size (deSl (H.get (k := 3) rfl)) (by omega) (by omega))) ?_
   refine s_nil ⟨(H.pick [0, 1, 2, 4, 5, 6, 7, 8, 9, 10, 11, 12] (by decide) rfl), ?_⟩
   refine t_l rfl ?_
   have hu395z := doUA (H.get (k := 3) rfl) (deLe _ (H.get (k := 3) rfl)) (i := r8) (by omega) (by omega) ha390z
   have hu396z := doUA (H.get (k := 3) rfl) (deLe _ (H.get (k := 3) rfl)) (i := i3) (by omega) (by omega) ha387z
   refine t_sw1 (k := 3) (i := i3) (j := r8) (dl := l10) H rfl Sz43 (by omega) (by omega) (by omega) (by omega) hu395z rfl rfl ?_
   intro w392z H
   replace H : St w w392z [cBlk nb0_8 [v_order, I q13, I q23] 101, cBlk b_16 [v_l, v_l10, I (r02 + r6), I (r03 + r6)] 26, cOwn (α := Yr) 41 v_l l, cDX 43 3 v_l10 (Int.toNat i3) (Int.toNat r8) rw_l10 l10, cRo B_l10, cBlk b_10 [I s, I s2] 35, cBlk b_9 [I r002, I r012] 35, cBlk b_7 [u0_2, u1_3, I r02, I r03] 26, cOwn (α := Yr) 41 u0_2 r00, cOwn (α := Raw 3) 43 u1_3 rr2_4, cRo Bs3_5, cOwn (α := Int) 3 u4_6 r12, cBlk nb0_1 [v_numbers, I q1, I q2] 101] R := H
   refine s_nil ⟨(H.pick [0, 1, 2, 4, 5, 6, 7, 8, 9, 10, 11, 12] (by decide) rfl), ?_⟩
   refine t_l rfl ?_
   refine s_val (x_ix (a := v_l10) (b := I r8) (v := vat v_l10 4 (Int.toNat r8)) rfl rfl (Sl.ix (α := Raw 3) T24.und T24.size (dxSl (H.get (k := 3) rfl)) (by omega) (by rw [List.length_set]; have hu_ := hr_l10; omega))) ?_
   refine s_nil ⟨(H.pick [0, 1, 2, 4, 5, 6, 7, 8, 9, 10, 11, 12] (by decide) rfl), ?_⟩
   refine t_l rfl ?_
   refine t_sw2 (k := 3) (i := i3) (j := r8) (dl := l10) H rfl Sz43 (by omega) (by omega) (by omega) (by omega) hu396z rfl rfl ?_
   intro w398z us399z hr400z H
   replace H : St w w398z [cBlk nb0_8 [v_order, I q13, I q23] 101, cBlk b_16 [v_l, v_l10, I (r02 + r6), I (r03 + r6)] 26, cOwn (α := Yr) 41 v_l l, cDO 43 3 v_l10 us399z ((l10.set (Int.toNat i3) (l10.getD (Int.toNat r8) default)).set (Int.toNat r8) (l10.getD (Int.toNat i3) default)), cRo B_l10, cBlk b_10 [I s, I s2] 35, cBlk b_9 [I r002, I r012] 35, cBlk b_7 [u0_2, u1_3, I r02, I r03] 26, cOwn (α := Yr) 41 u0_2 r00, cOwn (α := Raw 3) 43 u1_3 rr2_4, cRo Bs3_5, cOwn (α := Int) 3 u4_6 r12, cBlk nb0_1 [v_numbers, I q1, I q2] 101] R := H
   refine s_nil ⟨(H.pick [0, 1, 2, 4, 5, 6, 7, 8, 9, 10, 11, 12] (by decide) rfl), ?_⟩
   refine t_nil ?_
   refine W.region rfl ?_
   refine s_val (x_mv (v := I i3) rfl) ?_
   obtain ⟨sd401z, hM⟩ := M.e_grd hM
   simp only [Bool.and_eq_true, decide_eq_true_eq] at sd401z
   refine s_val (x_ari (a := i3) (b := 1) (r := i3 - 1) rfl rfl rfl (by omega)) ?_
   refine s_val (x_as (v := I (i3 - 1)) rfl) ?_
   refine s_nil ?_
   exact ⟨m321z, lt322z, q13, q23, (l10.set (Int.toNat i3) (l10.getD (Int.toNat r8) default)).set (Int.toNat r8) (l10.getD (Int.toNat i3) default), i3 - 1, v_l10, us399z, B_l10, _, upds_of _ _ ⟨rfl, rfl, rfl, rfl, rfl, rfl, rfl, rfl, rfl, trivial⟩, M.e_inl hM hN324z, (H.pick [1, 2, 3, 4, 5, 6, 0, 7, 8, 9, 10, 11, 12] (by decide) rfl), hr400z⟩
  skip
  refine s_val (x_ix (a := v_l10) (b := I i3) (v := vat v_l10 4 (Int.toNat i3)) rfl rfl (Sl.ix (α := Old10) T24.und T24.size (deSl (H.get (k := 3) rfl)) (by omega) (by omega))) ?_
  have hvc_q402z := Sl.cells (deSl (H.get (k := 3) rfl))
  have hvo_q402z := Sl.oc (deSl (H.get (k := 3) rfl))
  refine s_nil ⟨(H.pick [0, 1, 2, 4, 5, 6, 7, 8, 9, 10, 11, 12] (by decide) rfl), ?_⟩
  refine t_l2 rfl rfl ?_ ?_
  ·skip
   refine s_val (x_ix (a := v_l10) (b := I r8) (v := vat v_l10 4 (Int.toNat r8)) rfl rfl (Sl.ix (α := Old10) T24.und T24.size (deSl (H.get (k := 3) rfl)) (by omega) (by omega))) ?_
   refine s_nil ⟨(H.pick [0, 1, 2, 4, 5, 6, 7, 8, 9, 10, 11, 12] (by decide) rfl), ?_⟩
   refine t_l2 rfl rfl ?_ ?_
   ·skip
    obtain ⟨u403z, ha405z, hs404z⟩ := Old10_atA (deSl (H.get (k := 3) rfl)) (i := r8) (by omega) (by omega)
    replace hs404z : Sl _ u403z (l10.getD (Int.toNat r8) default).passed := hs404z
    have hl_hs404z := hs404z.len_le
    refine s_val (x_ld (p := vat v_l10 4 (Int.toNat r8)) (v := .agg #[I ((l10.getD (Int.toNat r8) default).src), I ((l10.getD (Int.toNat r8) default).dst), I ((l10.getD (Int.toNat r8) default).stage), u403z]) rfl (ld_ag Ag43 Sz43 (At.mono ha405z (deLe _ (H.get (k := 3) rfl))))) ?_
    refine s_nil ⟨(H.pick [0, 1, 2, 4, 5, 6, 7, 8, 9, 10, 11, 12] (by decide) rfl), ?_⟩
    refine t_l rfl ?_
    obtain ⟨u406z, ha408z, hs407z⟩ := Old10_atA (deSl (H.get (k := 3) rfl)) (i := i3) (by omega) (by omega)
    replace hs407z : Sl _ u406z (l10.getD (Int.toNat i3) default).passed := hs407z
    have hl_hs407z := hs407z.len_le
    refine s_val (x_ld (p := vat v_l10 4 (Int.toNat i3)) (v := .agg #[I ((l10.getD (Int.toNat i3) default).src), I ((l10.getD (Int.toNat i3) default).dst), I ((l10.getD (Int.toNat i3) default).stage), u406z]) rfl (ld_ag Ag43 Sz43 (At.mono ha408z (deLe _ (H.get (k := 3) rfl))))) ?_
    refine s_nil ⟨(H.pick [0, 1, 2, 4, 5, 6, 7, 8, 9, 10, 11, 12] (by decide) rfl), ?_⟩
    refine t_l rfl ?_
    refine s_val (x_ix (a := v_l10) (b := I i3) (v := vat v_l10 4 (Int.toNat i3)) rfl rfl (Sl.ix (α := Old10) T24.und T24.size (deSl (H.get (k := 3) rfl)) (by omega) (by omega))) ?_
    refine s_nil ⟨(H.pick [0, 1, 2, 4, 5, 6, 7, 8, 9, 10, 11, 12] (by decide) rfl), ?_⟩
    refine t_l rfl ?_
    have hu413z := doUA (H.get (k := 3) rfl) (deLe _ (H.get (k := 3) rfl)) (i := r8) (by omega) (by omega) ha405z
    have hu414z := doUA (H.get (k := 3) rfl) (deLe _ (H.get (k := 3) rfl)) (i := i3) (by omega) (by omega) ha408z
    refine t_sw1 (k := 3) (i := i3) (j := r8) (dl := l10) H rfl Sz43 (by omega) (by omega) (by omega) (by omega) hu413z rfl rfl ?_
    intro w410z H
    replace H : St w w410z [cBlk nb0_8 [v_order, I q13, I q23] 101, cBlk b_16 [v_l, v_l10, I (r02 + r6), I (r03 + r6)] 26, cOwn (α := Yr) 41 v_l l, cDX 43 3 v_l10 (Int.toNat i3) (Int.toNat r8) rw_l10 l10, cRo B_l10, cBlk b_10 [I s, I s2] 35, cBlk b_9 [I r002, I r012] 35, cBlk b_7 [u0_2, u1_3, I r02, I r03] 26, cOwn (α := Yr) 41 u0_2 r00, cOwn (α := Raw 3) 43 u1_3 rr2_4, cRo Bs3_5, cOwn (α := Int) 3 u4_6 r12, cBlk nb0_1 [v_numbers, I q1, I q2] 101] R := H
    refine s_nil ⟨(H.pick [0, 1, 2, 4, 5, 6, 7, 8, 9, 10, 11, 12] (by decide) rfl), ?_⟩
    refine t_l rfl ?_
    refine s_val (x_ix (a := v_l10) (b := I r8) (v := vat v_l10 4 (Int.toNat r8)) rfl rfl (Sl.ix (α := Raw 3) T24.und T24.size (dxSl (H.get (k := 3) rfl)) (by omega) (by rw [List.length_set]; have hu_ := hr_l10; omega))) ?_
    refine s_nil ⟨(H.pick [0, 1, 2, 4, 5, 6, 7, 8, 9, 10, 11, 12] (by decide) rfl), ?_⟩
    refine t_l rfl ?_
    refine t_sw2 (k := 3) (i := i3) (j := r8) (dl := l10) H rfl Sz43 (by omega) (by omega) (by omega) (by omega) hu414z rfl rfl ?_
    intro w416z us417z hr418z H
    replace H : St w w416z [cBlk nb0_8 [v_order, I q13, I q23] 101, cBlk b_16 [v_l, v_l10, I (r02 + r6), I (r03 + r6)] 26, cOwn (α := Yr) 41 v_l l, cDO 43 3 v_l10 us417z ((l10.set (Int.toNat i3) (l10.getD (Int.toNat r8) default)).set (Int.toNat r8) (l10.getD (Int.toNat i3) default)), cRo B_l10, cBlk b_10 [I s, I s2] 35, cBlk b_9 [I r002, I r012] 35, cBlk b_7 [u0_2, u1_3, I r02, I r03] 26, cOwn (α := Yr) 41 u0_2 r00, cOwn (α := Raw 3) 43 u1_3 rr2_4, cRo Bs3_5, cOwn (α := Int) 3 u4_6 r12, cBlk nb0_1 [v_numbers, I q1, I q2] 101] R := H
    refine s_nil ⟨(H.pick [0, 1, 2, 4, 5, 6, 7, 8, 9, 10, 11, 12] (by decide) rfl), ?_⟩
    refine t_nil ?_
    refine W.region rfl ?_
    refine s_val (x_mv (v := I i3) rfl) ?_
    obtain ⟨sd419z, hM⟩ := M.e_grd hM
    simp only [Bool.and_eq_true, decide_eq_true_eq] at sd419z
    refine s_val (x_ari (a := i3) (b := 1) (r := i3 - 1) rfl rfl rfl (by omega)) ?_
    refine s_val (x_as (v := I (i3 - 1)) rfl) ?_
    refine s_nil ?_
    exact ⟨m321z, lt322z, q13, q23, (l10.set (Int.toNat i3) (l10.getD (Int.toNat r8) default)).set (Int.toNat r8) (l10.getD (Int.toNat i3) default), i3 - 1, v_l10, us417z, B_l10, _, upds_of _ _ ⟨rfl, rfl, rfl, rfl, rfl, rfl, rfl, rfl, rfl, trivial⟩, M.e_inl hM hN324z, (H.pick [1, 2, 3, 4, 5, 6, 0, 7, 8, 9, 10, 11, 12] (by decide) rfl), hr418z⟩
   skip
   obtain ⟨u420z, ha422z, hs421z⟩ := Old10_atA (deSl (H.get (k := 3) rfl)) (i := i3) (by omega) (by omega)
   replace hs421z : Sl _ u420z (l10.getD (Int.toNat i3) default).passed := hs421z
   have hl_hs421z := hs421z.len_le
   refine s_val (x_ld (p := vat v_l10 4 (Int.toNat i3)) (v := .agg #[I ((l10.getD (Int.toNat i3) default).src), I ((l10.getD (Int.toNat i3) default).dst), I ((l10.getD (Int.toNat i3) default).stage), u420z]) rfl (ld_ag Ag43 Sz43 (At.mono ha422z (deLe _ (H.get (k := 3) rfl))))) ?_
   refine s_nil ⟨(H.pick [0, 1, 2, 4, 5, 6, 7, 8, 9, 10, 11, 12] (by decide) rfl), ?_⟩
   refine t_l rfl ?_
   obtain ⟨u423z, ha425z, hs424z⟩ := Old10_atA (deSl (H.get (k := 3) rfl)) (i := r8) (by omega) (by omega)
   replace hs424z : Sl _ u423z (l10.getD (Int.toNat r8) default).passed := hs424z
   have hl_hs424z := hs424z.len_le
   refine s_val (x_ld (p := vat v_l10 4 (Int.toNat r8)) (v := .agg #[I ((l10.getD (Int.toNat r8) default).src), I ((l10.getD (Int.toNat r8) default).dst), I ((l10.getD (Int.toNat r8) default).stage), u423z]) rfl (ld_ag Ag43 Sz43 (At.mono ha425z (deLe _ (H.get (k := 3) rfl))))) ?_
   refine s_nil ⟨(H.pick [0, 1, 2, 4, 5, 6, 7, 8, 9, 10, 11, 12] (by decide) rfl), ?_⟩
   refine t_l rfl ?_
   refine s_val (x_ix (a := v_l10) (b := I i3) (v := vat v_l10 4 (Int.toNat i3)) rfl rfl (Sl.ix (α := Old10) T24.und T24.size (deSl (H.get (k := 3) rfl)) (by omega) (by omega))) ?_
   refine s_nil ⟨(H.pick [0, 1, 2, 4, 5, 6, 7, 8, 9, 10, 11, 12] (by decide) rfl), ?_⟩
   refine t_l rfl ?_
   have hu430z := doUA (H.get (k := 3) rfl) (deLe _ (H.get (k := 3) rfl)) (i := r8) (by omega) (by omega) ha425z
   have hu431z := doUA (H.get (k := 3) rfl) (deLe _ (H.get (k := 3) rfl)) (i := i3) (by omega) (by omega) ha422z
   refine t_sw1 (k := 3) (i := i3) (j := r8) (dl := l10) H rfl Sz43 (by omega) (by omega) (by omega) (by omega) hu430z rfl rfl ?_
   intro w427z H
   replace H : St w w427z [cBlk nb0_8 [v_order, I q13, I q23] 101, cBlk b_16 [v_l, v_l10, I (r02 + r6), I (r03 + r6)] 26, cOwn (α := Yr) 41 v_l l, cDX 43 3 v_l10 (Int.toNat i3) (Int.toNat r8) rw_l10 l10, cRo B_l10, cBlk b_10 [I s, I s2] 35, cBlk b_9 [I r002, I r012] 35, cBlk b_7 [u0_2, u1_3, I r02, I r03] 26, cOwn (α := Yr) 41 u0_2 r00, cOwn (α := Raw 3) 43 u1_3 rr2_4, cRo Bs3_5, cOwn (α := Int) 3 u4_6 r12, cBlk nb0_1 [v_numbers, I q1, I q2] 101] R := H
   refine s_nil ⟨(H.pick [0, 1, 2, 4, 5, 6, 7, 8, 9, 10, 11, 12] (by decide) rfl), ?_⟩
   refine t_l rfl ?_
   refine s_val (x_ix (a := v_l10) (b := I r8) (v := vat v_l10 4 (Int.toNat r8)) rfl rfl (Sl.ix (α := Raw 3) T24.und T24.size (dxSl (H.get (k := 3) rfl)) (by omega) (by rw [List.length_set]; have hu_ := hr_l10; omega))) ?_
   refine s_nil ⟨(H.pick [0, 1, 2, 4, 5, 6, 7, 8, 9, 10, 11, 12] (by decide) rfl), ?_⟩
   refine t_l rfl ?_
   refine t_sw2 (k := 3) (i := i3) (j := r8) (dl := l10) H rfl Sz43 (by omega) (by omega) (by omega) (by omega) hu431z rfl rfl ?_
   intro w433z us434z hr435z H
   replace H : St w w433z [cBlk nb0_8 [v_order, I q13, I q23] 101, cBlk b_16 [v_l, v_l10, I (r02 + r6), I (r03 + r6)] 26, cOwn (α := Yr) 41 v_l l, cDO 43 3 v_l10 us434z ((l10.set (Int.toNat i3) (l10.getD (Int.toNat r8) default)).set (Int.toNat r8) (l10.getD (Int.toNat i3) default)), cRo B_l10, cBlk b_10 [I s, I s2] 35, cBlk b_9 [I r002, I r012] 35, cBlk b_7 [u0_2, u1_3, I r02, I r03] 26, cOwn (α := Yr) 41 u0_2 r00, cOwn (α := Raw 3) 43 u1_3 rr2_4, cRo Bs3_5, cOwn (α := Int) 3 u4_6 r12, cBlk nb0_1 [v_numbers, I q1, I q2] 101] R := H
   refine s_nil ⟨(H.pick [0, 1, 2, 4, 5, 6, 7, 8, 9, 10, 11, 12] (by decide) rfl), ?_⟩
   refine t_nil ?_
   refine W.region rfl ?_
   refine s_val (x_mv (v := I i3) rfl) ?_
   obtain ⟨sd436z, hM⟩ := M.e_grd hM
   simp only [Bool.and_eq_true, decide_eq_true_eq] at sd436z
   refine s_val (x_ari (a := i3) (b := 1) (r := i3 - 1) rfl rfl rfl (by omega)) ?_
   refine s_val (x_as (v := I (i3 - 1)) rfl) ?_
   refine s_nil ?_
   exact ⟨m321z, lt322z, q13, q23, (l10.set (Int.toNat i3) (l10.getD (Int.toNat r8) default)).set (Int.toNat r8) (l10.getD (Int.toNat i3) default), i3 - 1, v_l10, us434z, B_l10, _, upds_of _ _ ⟨rfl, rfl, rfl, rfl, rfl, rfl, rfl, rfl, rfl, trivial⟩, M.e_inl hM hN324z, (H.pick [1, 2, 3, 4, 5, 6, 0, 7, 8, 9, 10, 11, 12] (by decide) rfl), hr435z⟩
  skip
  obtain ⟨u437z, ha439z, hs438z⟩ := Old10_atA (deSl (H.get (k := 3) rfl)) (i := i3) (by omega) (by omega)
  replace hs438z : Sl _ u437z (l10.getD (Int.toNat i3) default).passed := hs438z
  have hl_hs438z := hs438z.len_le
  refine s_val (x_ld (p := vat v_l10 4 (Int.toNat i3)) (v := .agg #[I ((l10.getD (Int.toNat i3) default).src), I ((l10.getD (Int.toNat i3) default).dst), I ((l10.getD (Int.toNat i3) default).stage), u437z]) rfl (ld_ag Ag43 Sz43 (At.mono ha439z (deLe _ (H.get (k := 3) rfl))))) ?_
  refine s_nil ⟨(H.pick [0, 1, 2, 4, 5, 6, 7, 8, 9, 10, 11, 12] (by decide) rfl), ?_⟩
  refine t_l rfl ?_
  refine s_val (x_ix (a := v_l10) (b := I r8) (v := vat v_l10 4 (Int.toNat r8)) rfl rfl (Sl.ix (α := Old10) T24.und T24.size (deSl (H.get (k := 3) rfl)) (by omega) (by omega))) ?_
  refine s_nil ⟨(H.pick [0, 1, 2, 4, 5, 6, 7, 8, 9, 10, 11, 12] (by decide) rfl), ?_⟩
  refine t_l rfl ?_
  obtain ⟨u440z, ha442z, hs441z⟩ := Old10_atA (deSl (H.get (k := 3) rfl)) (i := r8) (by omega) (by omega)
  replace hs441z : Sl _ u440z (l10.getD (Int.toNat r8) default).passed := hs441z
  have hl_hs441z := hs441z.len_le
  refine s_val (x_ld (p := vat v_l10 4 (Int.toNat r8)) (v := .agg #[I ((l10.getD (Int.toNat r8) default).src), I ((l10.getD (Int.toNat r8) default).dst), I ((l10.getD (Int.toNat r8) default).stage), u440z]) rfl (ld_ag Ag43 Sz43 (At.mono ha442z (deLe _ (H.get (k := 3) rfl))))) ?_
  refine s_nil ⟨(H.pick [0, 1, 2, 4, 5, 6, 7, 8, 9, 10, 11, 12] (by decide) rfl), ?_⟩
  refine t_l rfl ?_
  refine s_val (x_ix (a := v_l10) (b := I i3) (v := vat v_l10 4 (Int.toNat i3)) rfl rfl (Sl.ix (α := Old10) T24.und T24.size (deSl (H.get (k := 3) rfl)) (by omega) (by omega))) ?_
  refine s_nil ⟨(H.pick [0, 1, 2, 4, 5, 6, 7, 8, 9, 10, 11, 12] (by decide) rfl), ?_⟩
  refine t_l rfl ?_
  have hu447z := doUA (H.get (k := 3) rfl) (deLe _ (H.get (k := 3) rfl)) (i := r8) (by omega) (by omega) ha442z
  have hu448z := doUA (H.get (k := 3) rfl) (deLe _ (H.get (k := 3) rfl)) (i := i3) (by omega) (by omega) ha439z
  refine t_sw1 (k := 3) (i := i3) (j := r8) (dl := l10) H rfl Sz43 (by omega) (by omega) (by omega) (by omega) hu447z rfl rfl ?_
  intro w444z H
  replace H : St w w444z [cBlk nb0_8 [v_order, I q13, I q23] 101, cBlk b_16 [v_l, v_l10, I (r02 + r6), I (r03 + r6)] 26, cOwn (α := Yr) 41 v_l l, cDX 43 3 v_l10 (Int.toNat i3) (Int.toNat r8) rw_l10 l10, cRo B_l10, cBlk b_10 [I s, I s2] 35, cBlk b_9 [I r002, I r012] 35, cBlk b_7 [u0_2, u1_3, I r02, I r03] 26, cOwn (α := Yr) 41 u0_2 r00, cOwn (α := Raw 3) 43 u1_3 rr2_4, cRo Bs3_5, cOwn (α := Int) 3 u4_6 r12, cBlk nb0_1 [v_numbers, I q1, I q2] 101] R := H
  refine s_nil ⟨(H.pick [0, 1, 2, 4, 5, 6, 7, 8, 9, 10, 11, 12] (by decide) rfl), ?_⟩
  refine t_l rfl ?_
  refine s_val (x_ix (a := v_l10) (b := I r8) (v := vat v_l10 4 (Int.toNat r8)) rfl rfl (Sl.ix (α := Raw 3) T24.und T24.size (dxSl (H.get (k := 3) rfl)) (by omega) (by rw [List.length_set]; have hu_ := hr_l10; omega))) ?_
  refine s_nil ⟨(H.pick [0, 1, 2, 4, 5, 6, 7, 8, 9, 10, 11, 12] (by decide) rfl), ?_⟩
  refine t_l rfl ?_
  refine t_sw2 (k := 3) (i := i3) (j := r8) (dl := l10) H rfl Sz43 (by omega) (by omega) (by omega) (by omega) hu448z rfl rfl ?_
  intro w450z us451z hr452z H
  replace H : St w w450z [cBlk nb0_8 [v_order, I q13, I q23] 101, cBlk b_16 [v_l, v_l10, I (r02 + r6), I (r03 + r6)] 26, cOwn (α := Yr) 41 v_l l, cDO 43 3 v_l10 us451z ((l10.set (Int.toNat i3) (l10.getD (Int.toNat r8) default)).set (Int.toNat r8) (l10.getD (Int.toNat i3) default)), cRo B_l10, cBlk b_10 [I s, I s2] 35, cBlk b_9 [I r002, I r012] 35, cBlk b_7 [u0_2, u1_3, I r02, I r03] 26, cOwn (α := Yr) 41 u0_2 r00, cOwn (α := Raw 3) 43 u1_3 rr2_4, cRo Bs3_5, cOwn (α := Int) 3 u4_6 r12, cBlk nb0_1 [v_numbers, I q1, I q2] 101] R := H
  refine s_nil ⟨(H.pick [0, 1, 2, 4, 5, 6, 7, 8, 9, 10, 11, 12] (by decide) rfl), ?_⟩
  refine t_nil ?_
  refine W.region rfl ?_
  refine s_val (x_mv (v := I i3) rfl) ?_
  obtain ⟨sd453z, hM⟩ := M.e_grd hM
  simp only [Bool.and_eq_true, decide_eq_true_eq] at sd453z
  refine s_val (x_ari (a := i3) (b := 1) (r := i3 - 1) rfl rfl rfl (by omega)) ?_
  refine s_val (x_as (v := I (i3 - 1)) rfl) ?_
  refine s_nil ?_
  exact ⟨m321z, lt322z, q13, q23, (l10.set (Int.toNat i3) (l10.getD (Int.toNat r8) default)).set (Int.toNat r8) (l10.getD (Int.toNat i3) default), i3 - 1, v_l10, us451z, B_l10, _, upds_of _ _ ⟨rfl, rfl, rfl, rfl, rfl, rfl, rfl, rfl, rfl, trivial⟩, M.e_inl hM hN324z, (H.pick [1, 2, 3, 4, 5, 6, 0, 7, 8, 9, 10, 11, 12] (by decide) rfl), hr452z⟩
 replace hM := M.e_f hM c325z
 simp only [decide_eq_true_eq, decide_eq_false_iff_not, beq_iff_eq, bne_iff_ne, beq_eq_false_iff_ne, bne_eq_false_iff_eq, ne_eq, Decidable.not_not] at c325z
 refine W.exit ?_
 have hX454z := M.e_inr hM hN324z
 subst hX454z
 replace hM := hk317z
 try dsimp only at hM
 refine W.seq ?_
 refine W.region rfl ?_
 refine s_val (x_ld (p := .pointer (some ⟨b_16, 0, none⟩)) (v := .agg #[v_l, v_l10, I (r02 + r6), I (r03 + r6)]) rfl (ldb_ag (ds := [v_l, v_l10, I (r02 + r6), I (r03 + r6)]) Ag26 Sz26 (H.blk (k := 0) rfl) rfl rfl)) ?_
 refine s_val (x_mv (v := I (r02 + r3)) rfl) ?_
 refine s_val (x_mv (v := I r6) rfl) ?_
 obtain ⟨sd455z, hM⟩ := M.e_grd hM
 simp only [Bool.and_eq_true, decide_eq_true_eq] at sd455z
 refine s_val (x_ari (a := r02 + r3) (b := r6) (r := (r02 + r3) + r6) rfl rfl rfl (by omega)) ?_
 refine s_val (x_mv (v := I ((r02 + r3) + r4)) rfl) ?_
 refine s_val (x_mv (v := I r6) rfl) ?_
 obtain ⟨sd456z, hM⟩ := M.e_grd hM
 simp only [Bool.and_eq_true, decide_eq_true_eq] at sd456z
 refine s_val (x_ari (a := (r02 + r3) + r4) (b := r6) (r := ((r02 + r3) + r4) + r6) rfl rfl rfl (by omega)) ?_
 refine s_val (x_mv (v := I r5) rfl) ?_
 obtain ⟨r458z, hx457z, hM⟩ := M.e_bind hM
 refine s_call cf15 [.agg #[v_l, v_l10, I (r02 + r6), I (r03 + r6)], I ((r02 + r3) + r6), I (((r02 + r3) + r4) + r6), I r5] rfl (zao l l10 (r02 + r6) (r03 + r6) ((r02 + r3) + r6) (((r02 + r3) + r4) + r6) r5 (Reads.of (k := 1) rfl ownLe) (ownSl (H.get (k := 1) rfl)) (Reads.of (k := 2) rfl deLe) (deSl (H.get (k := 2) rfl)) hx457z _ (St.give (T := [cBlk b_16 [v_l, v_l10, I (r02 + r6), I (r03 + r6)] 26, cOwn (α := Yr) 41 v_l l, cDO 43 3 v_l10 rw_l10 l10, cRo B_l10, cBlk b_10 [I s, I s2] 35, cBlk b_9 [I r002, I r012] 35, cBlk nb0_8 [v_order, I s3, I s4] 101, cBlk b_7 [u0_2, u1_3, I r02, I r03] 26, cOwn (α := Yr) 41 u0_2 r00, cOwn (α := Raw 3) 43 u1_3 rr2_4, cRo Bs3_5, cOwn (α := Int) 3 u4_6 r12, cBlk nb0_1 [v_numbers, I q1, I q2] 101]) H rfl)) ?_
 rintro vq w459z ⟨r005, r015, r18, hr460z, hvq, H2_⟩
 subst hr460z
 subst vq
 try dsimp only at hM
 replace H : St w w459z [cBlk b_16 [v_l, v_l10, I (r02 + r6), I (r03 + r6)] 26, cOwn (α := Yr) 41 v_l l, cDO 43 3 v_l10 rw_l10 l10, cRo B_l10, cBlk b_10 [I s, I s2] 35, cBlk b_9 [I r002, I r012] 35, cBlk nb0_8 [v_order, I s3, I s4] 101, cBlk b_7 [u0_2, u1_3, I r02, I r03] 26, cOwn (α := Yr) 41 u0_2 r00, cOwn (α := Raw 3) 43 u1_3 rr2_4, cRo Bs3_5, cOwn (α := Int) 3 u4_6 r12, cBlk nb0_1 [v_numbers, I q1, I q2] 101] R := H.back H2_ rfl
 clear H2_
 refine s_val (x_mv (v := .tuple #[.agg #[I r005, I r015], I r18]) rfl) ?_
 refine s_val (x_ext (vs := [.agg #[I r005, I r015], I r18]) (v := .agg #[I r005, I r015]) rfl rfl) ?_
 refine s_val (x_ext (vs := [.agg #[I r005, I r015], I r18]) (v := I r18) rfl rfl) ?_
 refine t_alloc (cs := [I 0, I 0]) H Al35 rfl ?_
 intro b_17 w461z H
 refine t_st (k := 0) (b := b_17) (off := 0) (cs := [I 0, I 0]) (vs := [I r005, I r015]) (cs' := [I r005, I r015]) (v := .agg #[I r005, I r015]) (L' := [cBlk b_17 [I r005, I r015] 35, cBlk b_16 [v_l, v_l10, I (r02 + r6), I (r03 + r6)] 26, cOwn (α := Yr) 41 v_l l, cDO 43 3 v_l10 rw_l10 l10, cRo B_l10, cBlk b_10 [I s, I s2] 35, cBlk b_9 [I r002, I r012] 35, cBlk nb0_8 [v_order, I s3, I s4] 101, cBlk b_7 [u0_2, u1_3, I r02, I r03] 26, cOwn (α := Yr) 41 u0_2 r00, cOwn (α := Raw 3) 43 u1_3 rr2_4, cRo Bs3_5, cOwn (α := Int) 3 u4_6 r12, cBlk nb0_1 [v_numbers, I q1, I q2] 101]) H rfl rfl rfl Sz35 rfl rfl rfl rfl rfl rfl ?_
 intro w462z H
 refine s_val (x_as (v := I r18) rfl) ?_
 refine s_nil ?_
 refine W.seq ?_
 refine W.region rfl ?_
 refine s_val (x_ld (p := .pointer (some ⟨b_7, 0, none⟩)) (v := .agg #[u0_2, u1_3, I r02, I r03]) rfl (ldb_ag (ds := [u0_2, u1_3, I r02, I r03]) Ag26 Sz26 (H.blk (k := 8) rfl) rfl rfl)) ?_
 refine s_val (x_mv (v := I (r02 + r3)) rfl) ?_
 refine s_val (x_mv (v := I ((r02 + r3) + r4)) rfl) ?_
 obtain ⟨r464z, hx463z, hM⟩ := M.e_bind hM
 refine s_call cf17 [.agg #[u0_2, u1_3, I r02, I r03], I (r02 + r3), I ((r02 + r3) + r4), I 1] rfl (zbu r00 r01 r02 r03 (r02 + r3) ((r02 + r3) + r4) 1 (Reads.of (k := 9) rfl ownLe) (ownSl (H.get (k := 9) rfl)) (Reads.sup (Reads.of (k := 10) rfl ownLe) (Reads.of (k := 11) rfl roLe)) (rowSl rfl (H.get (k := 10) rfl) (roLe _ (H.get (k := 11) rfl)) hf9z) hx463z _ (St.give (T := [cBlk b_17 [I r005, I r015] 35, cBlk b_16 [v_l, v_l10, I (r02 + r6), I (r03 + r6)] 26, cOwn (α := Yr) 41 v_l l, cDO 43 3 v_l10 rw_l10 l10, cRo B_l10, cBlk b_10 [I s, I s2] 35, cBlk b_9 [I r002, I r012] 35, cBlk nb0_8 [v_order, I s3, I s4] 101, cBlk b_7 [u0_2, u1_3, I r02, I r03] 26, cOwn (α := Yr) 41 u0_2 r00, cOwn (α := Raw 3) 43 u1_3 rr2_4, cRo Bs3_5, cOwn (α := Int) 3 u4_6 r12, cBlk nb0_1 [v_numbers, I q1, I q2] 101]) H rfl)) ?_
 rintro vq w465z ⟨r006, r016, r19, hr466z, hvq, H2_⟩
 subst hr466z
 subst vq
 try dsimp only at hM
 replace H : St w w465z [cBlk b_17 [I r005, I r015] 35, cBlk b_16 [v_l, v_l10, I (r02 + r6), I (r03 + r6)] 26, cOwn (α := Yr) 41 v_l l, cDO 43 3 v_l10 rw_l10 l10, cRo B_l10, cBlk b_10 [I s, I s2] 35, cBlk b_9 [I r002, I r012] 35, cBlk nb0_8 [v_order, I s3, I s4] 101, cBlk b_7 [u0_2, u1_3, I r02, I r03] 26, cOwn (α := Yr) 41 u0_2 r00, cOwn (α := Raw 3) 43 u1_3 rr2_4, cRo Bs3_5, cOwn (α := Int) 3 u4_6 r12, cBlk nb0_1 [v_numbers, I q1, I q2] 101] R := H.back H2_ rfl
 clear H2_
 refine s_val (x_mv (v := .tuple #[.agg #[I r006, I r016], I r19]) rfl) ?_
 refine s_val (x_ext (vs := [.agg #[I r006, I r016], I r19]) (v := .agg #[I r006, I r016]) rfl rfl) ?_
 refine s_val (x_ext (vs := [.agg #[I r006, I r016], I r19]) (v := I r19) rfl rfl) ?_
 refine t_alloc (cs := [I 0, I 0]) H Al35 rfl ?_
 intro b_18 w467z H
 refine t_st (k := 0) (b := b_18) (off := 0) (cs := [I 0, I 0]) (vs := [I r006, I r016]) (cs' := [I r006, I r016]) (v := .agg #[I r006, I r016]) (L' := [cBlk b_18 [I r006, I r016] 35, cBlk b_17 [I r005, I r015] 35, cBlk b_16 [v_l, v_l10, I (r02 + r6), I (r03 + r6)] 26, cOwn (α := Yr) 41 v_l l, cDO 43 3 v_l10 rw_l10 l10, cRo B_l10, cBlk b_10 [I s, I s2] 35, cBlk b_9 [I r002, I r012] 35, cBlk nb0_8 [v_order, I s3, I s4] 101, cBlk b_7 [u0_2, u1_3, I r02, I r03] 26, cOwn (α := Yr) 41 u0_2 r00, cOwn (α := Raw 3) 43 u1_3 rr2_4, cRo Bs3_5, cOwn (α := Int) 3 u4_6 r12, cBlk nb0_1 [v_numbers, I q1, I q2] 101]) H rfl rfl rfl Sz35 rfl rfl rfl rfl rfl rfl ?_
 intro w468z H
 refine s_val (x_as (v := I r19) rfl) ?_
 refine s_nil ?_
 refine W.seq ?_
 refine W.region rfl ?_
 refine s_val (x_ld (p := .pointer (some ⟨b_16, 0, none⟩)) (v := .agg #[v_l, v_l10, I (r02 + r6), I (r03 + r6)]) rfl (ldb_ag (ds := [v_l, v_l10, I (r02 + r6), I (r03 + r6)]) Ag26 Sz26 (H.blk (k := 2) rfl) rfl rfl)) ?_
 refine s_val (x_mv (v := I (r02 + r3)) rfl) ?_
 refine s_val (x_mv (v := I r6) rfl) ?_
 refine s_val (x_ari (a := r02 + r3) (b := r6) (r := (r02 + r3) + r6) rfl rfl rfl (by omega)) ?_
 refine s_val (x_mv (v := I ((r02 + r3) + r4)) rfl) ?_
 refine s_val (x_mv (v := I r6) rfl) ?_
 refine s_val (x_ari (a := (r02 + r3) + r4) (b := r6) (r := ((r02 + r3) + r4) + r6) rfl rfl rfl (by omega)) ?_
 obtain ⟨r470z, hx469z, hM⟩ := M.e_bind hM
 refine s_call cf17 [.agg #[v_l, v_l10, I (r02 + r6), I (r03 + r6)], I ((r02 + r3) + r6), I (((r02 + r3) + r4) + r6), I 1] rfl (zbu l l10 (r02 + r6) (r03 + r6) ((r02 + r3) + r6) (((r02 + r3) + r4) + r6) 1 (Reads.of (k := 3) rfl ownLe) (ownSl (H.get (k := 3) rfl)) (Reads.of (k := 4) rfl deLe) (deSl (H.get (k := 4) rfl)) hx469z _ (St.give (T := [cBlk b_18 [I r006, I r016] 35, cBlk b_17 [I r005, I r015] 35, cBlk b_16 [v_l, v_l10, I (r02 + r6), I (r03 + r6)] 26, cOwn (α := Yr) 41 v_l l, cDO 43 3 v_l10 rw_l10 l10, cRo B_l10, cBlk b_10 [I s, I s2] 35, cBlk b_9 [I r002, I r012] 35, cBlk nb0_8 [v_order, I s3, I s4] 101, cBlk b_7 [u0_2, u1_3, I r02, I r03] 26, cOwn (α := Yr) 41 u0_2 r00, cOwn (α := Raw 3) 43 u1_3 rr2_4, cRo Bs3_5, cOwn (α := Int) 3 u4_6 r12, cBlk nb0_1 [v_numbers, I q1, I q2] 101]) H rfl)) ?_
 rintro vq w471z ⟨r007, r017, r110, hr472z, hvq, H2_⟩
 subst hr472z
 subst vq
 try dsimp only at hM
 replace H : St w w471z [cBlk b_18 [I r006, I r016] 35, cBlk b_17 [I r005, I r015] 35, cBlk b_16 [v_l, v_l10, I (r02 + r6), I (r03 + r6)] 26, cOwn (α := Yr) 41 v_l l, cDO 43 3 v_l10 rw_l10 l10, cRo B_l10, cBlk b_10 [I s, I s2] 35, cBlk b_9 [I r002, I r012] 35, cBlk nb0_8 [v_order, I s3, I s4] 101, cBlk b_7 [u0_2, u1_3, I r02, I r03] 26, cOwn (α := Yr) 41 u0_2 r00, cOwn (α := Raw 3) 43 u1_3 rr2_4, cRo Bs3_5, cOwn (α := Int) 3 u4_6 r12, cBlk nb0_1 [v_numbers, I q1, I q2] 101] R := H.back H2_ rfl
 clear H2_
 refine s_val (x_mv (v := .tuple #[.agg #[I r007, I r017], I r110]) rfl) ?_
 refine s_val (x_ext (vs := [.agg #[I r007, I r017], I r110]) (v := .agg #[I r007, I r017]) rfl rfl) ?_
 refine s_val (x_ext (vs := [.agg #[I r007, I r017], I r110]) (v := I r110) rfl rfl) ?_
 refine t_alloc (cs := [I 0, I 0]) H Al35 rfl ?_
 intro b_19 w473z H
 refine t_st (k := 0) (b := b_19) (off := 0) (cs := [I 0, I 0]) (vs := [I r007, I r017]) (cs' := [I r007, I r017]) (v := .agg #[I r007, I r017]) (L' := [cBlk b_19 [I r007, I r017] 35, cBlk b_18 [I r006, I r016] 35, cBlk b_17 [I r005, I r015] 35, cBlk b_16 [v_l, v_l10, I (r02 + r6), I (r03 + r6)] 26, cOwn (α := Yr) 41 v_l l, cDO 43 3 v_l10 rw_l10 l10, cRo B_l10, cBlk b_10 [I s, I s2] 35, cBlk b_9 [I r002, I r012] 35, cBlk nb0_8 [v_order, I s3, I s4] 101, cBlk b_7 [u0_2, u1_3, I r02, I r03] 26, cOwn (α := Yr) 41 u0_2 r00, cOwn (α := Raw 3) 43 u1_3 rr2_4, cRo Bs3_5, cOwn (α := Int) 3 u4_6 r12, cBlk nb0_1 [v_numbers, I q1, I q2] 101]) H rfl rfl rfl Sz35 rfl rfl rfl rfl rfl rfl ?_
 intro w474z H
 refine s_val (x_as (v := I r110) rfl) ?_
 refine s_nil ?_
 refine W.seq ?_
 refine W.region rfl ?_
 refine s_val (x_mv (v := I r18) rfl) ?_
 refine s_val (x_cmp (kd := .i64) (a := r18) (b := 0) (r := r18 == 0) rfl rfl rfl) ?_
 refine s_val (x_mv (v := B (r18 == 0)) rfl) ?_
 refine g_val (r18 == 0) (gy_t rfl) (fun hg => x_mv (v := I r19) rfl) ?_
 refine g_val (r18 == 0) (gy_t rfl) (fun hg => x_cmp (kd := .i64) (a := r19) (b := 0) (r := r19 == 0) (gd_of (c := r18 == 0) hg (I r19)) rfl rfl) ?_
 refine s_val (x_pand (b := r18 == 0) (r := r19 == 0) rfl (fun hb => gd_of (c := r18 == 0) (by first | exact hb | (rw [hb]; rfl) | simp_all) (B (r19 == 0))) rfl) ?_
 refine s_val (x_mv (v := B ((r18 == 0) && (r19 == 0))) rfl) ?_
 refine g_val ((r18 == 0) && (r19 == 0)) (gy_t rfl) (fun hg => x_mv (v := I r110) rfl) ?_
 refine g_val ((r18 == 0) && (r19 == 0)) (gy_t rfl) (fun hg => x_cmp (kd := .i64) (a := r110) (b := 0) (r := r110 == 0) (gd_of (c := ((r18 == 0) && (r19 == 0))) hg (I r110)) rfl rfl) ?_
 refine s_val (x_pand (b := ((r18 == 0) && (r19 == 0))) (r := r110 == 0) rfl (fun hb => gd_of (c := ((r18 == 0) && (r19 == 0))) (by first | exact hb | (rw [hb]; rfl) | simp_all) (B (r110 == 0))) rfl) ?_
 refine s_val (x_mv (v := B (((r18 == 0) && (r19 == 0)) && (r110 == 0))) rfl) ?_
 refine g_val (((r18 == 0) && (r19 == 0)) && (r110 == 0)) (gy_t rfl) (fun hg => x_ld (p := .pointer (some ⟨b_17, 0, none⟩)) (v := .agg #[I r005, I r015]) rfl (ldb_ag (ds := [I r005, I r015]) Ag35 Sz35 (H.blk (k := 2) rfl) rfl rfl)) ?_
 refine g_val (((r18 == 0) && (r19 == 0)) && (r110 == 0)) (gy_t rfl) (fun hg => x_ld (p := .pointer (some ⟨b_9, 0, none⟩)) (v := .agg #[I r002, I r012]) rfl (ldb_ag (ds := [I r002, I r012]) Ag35 Sz35 (H.blk (k := 8) rfl) rfl rfl)) ?_
 refine g_val (((r18 == 0) && (r19 == 0)) && (r110 == 0)) (gy_t rfl) (fun hg => x_eqS (eqT35 (⟨(r005 : Int), (r015 : Int)⟩ : Span) (⟨(r002 : Int), (r012 : Int)⟩ : Span) _) gdT35 (gd_of (c := (((r18 == 0) && (r19 == 0)) && (r110 == 0))) hg (.agg #[I r005, I r015])) (gd_of (c := (((r18 == 0) && (r19 == 0)) && (r110 == 0))) hg (.agg #[I r002, I r012]))) ?_
 refine s_val (x_pand (b := (((r18 == 0) && (r19 == 0)) && (r110 == 0))) (r := decide ((⟨(r005 : Int), (r015 : Int)⟩ : Span) = (⟨(r002 : Int), (r012 : Int)⟩ : Span))) rfl (fun hb => gd_of (c := (((r18 == 0) && (r19 == 0)) && (r110 == 0))) (by first | exact hb | (rw [hb]; rfl) | simp_all) (B (decide ((⟨(r005 : Int), (r015 : Int)⟩ : Span) = (⟨(r002 : Int), (r012 : Int)⟩ : Span))))) rfl) ?_
 refine s_val (x_mv (v := B ((((r18 == 0) && (r19 == 0)) && (r110 == 0)) && (decide ((⟨(r005 : Int), (r015 : Int)⟩ : Span) = (⟨(r002 : Int), (r012 : Int)⟩ : Span))))) rfl) ?_
 refine g_val ((((r18 == 0) && (r19 == 0)) && (r110 == 0)) && (decide ((⟨(r005 : Int), (r015 : Int)⟩ : Span) = (⟨(r002 : Int), (r012 : Int)⟩ : Span)))) (gy_t rfl) (fun hg => x_ld (p := .pointer (some ⟨b_18, 0, none⟩)) (v := .agg #[I r006, I r016]) rfl (ldb_ag (ds := [I r006, I r016]) Ag35 Sz35 (H.blk (k := 1) rfl) rfl rfl)) ?_
 refine g_val ((((r18 == 0) && (r19 == 0)) && (r110 == 0)) && (decide ((⟨(r005 : Int), (r015 : Int)⟩ : Span) = (⟨(r002 : Int), (r012 : Int)⟩ : Span)))) (gy_t rfl) (fun hg => x_ld (p := .pointer (some ⟨b_19, 0, none⟩)) (v := .agg #[I r007, I r017]) rfl (ldb_ag (ds := [I r007, I r017]) Ag35 Sz35 (H.blk (k := 0) rfl) rfl rfl)) ?_
 refine g_val ((((r18 == 0) && (r19 == 0)) && (r110 == 0)) && (decide ((⟨(r005 : Int), (r015 : Int)⟩ : Span) = (⟨(r002 : Int), (r012 : Int)⟩ : Span)))) (gy_t rfl) (fun hg => x_eqS (eqT35 (⟨(r006 : Int), (r016 : Int)⟩ : Span) (⟨(r007 : Int), (r017 : Int)⟩ : Span) _) gdT35 (gd_of (c := ((((r18 == 0) && (r19 == 0)) && (r110 == 0)) && (decide ((⟨(r005 : Int), (r015 : Int)⟩ : Span) = (⟨(r002 : Int), (r012 : Int)⟩ : Span))))) hg (.agg #[I r006, I r016])) (gd_of (c := ((((r18 == 0) && (r19 == 0)) && (r110 == 0)) && (decide ((⟨(r005 : Int), (r015 : Int)⟩ : Span) = (⟨(r002 : Int), (r012 : Int)⟩ : Span))))) hg (.agg #[I r007, I r017]))) ?_
 refine s_val (x_pand (b := ((((r18 == 0) && (r19 == 0)) && (r110 == 0)) && (decide ((⟨(r005 : Int), (r015 : Int)⟩ : Span) = (⟨(r002 : Int), (r012 : Int)⟩ : Span))))) (r := decide ((⟨(r006 : Int), (r016 : Int)⟩ : Span) = (⟨(r007 : Int), (r017 : Int)⟩ : Span))) rfl (fun hb => gd_of (c := ((((r18 == 0) && (r19 == 0)) && (r110 == 0)) && (decide ((⟨(r005 : Int), (r015 : Int)⟩ : Span) = (⟨(r002 : Int), (r012 : Int)⟩ : Span))))) (by first | exact hb | (rw [hb]; rfl) | simp_all) (B (decide ((⟨(r006 : Int), (r016 : Int)⟩ : Span) = (⟨(r007 : Int), (r017 : Int)⟩ : Span))))) rfl) ?_
 refine s_val (x_mv (v := B (((((r18 == 0) && (r19 == 0)) && (r110 == 0)) && (decide ((⟨(r005 : Int), (r015 : Int)⟩ : Span) = (⟨(r002 : Int), (r012 : Int)⟩ : Span)))) && (decide ((⟨(r006 : Int), (r016 : Int)⟩ : Span) = (⟨(r007 : Int), (r017 : Int)⟩ : Span))))) rfl) ?_
 obtain ⟨r9, hx475z, hM⟩ := M.e_bind hM
 refine t_gcall (((((r18 == 0) && (r19 == 0)) && (r110 == 0)) && (decide ((⟨(r005 : Int), (r015 : Int)⟩ : Span) = (⟨(r002 : Int), (r012 : Int)⟩ : Span)))) && (decide ((⟨(r006 : Int), (r016 : Int)⟩ : Span) = (⟨(r007 : Int), (r017 : Int)⟩ : Span)))) (gy_t rfl) cf18 (B r9) (fun _ => []) (fun _ => rfl) H (fun hg => (zcy (M.e_opt hx475z hg) _ (H.give (A := []) rfl)).mono fun v_ w_ ⟨y_, hr_, hv_, H_⟩ => by subst hr_; exact ⟨hv_, H.via H_⟩) ?_
 intro w476z H
 refine s_val (x_pand (b := (((((r18 == 0) && (r19 == 0)) && (r110 == 0)) && (decide ((⟨(r005 : Int), (r015 : Int)⟩ : Span) = (⟨(r002 : Int), (r012 : Int)⟩ : Span)))) && (decide ((⟨(r006 : Int), (r016 : Int)⟩ : Span) = (⟨(r007 : Int), (r017 : Int)⟩ : Span))))) (r := r9) rfl (fun hb => gd_of (c := (((((r18 == 0) && (r19 == 0)) && (r110 == 0)) && (decide ((⟨(r005 : Int), (r015 : Int)⟩ : Span) = (⟨(r002 : Int), (r012 : Int)⟩ : Span)))) && (decide ((⟨(r006 : Int), (r016 : Int)⟩ : Span) = (⟨(r007 : Int), (r017 : Int)⟩ : Span))))) (by first | exact hb | (rw [hb]; rfl) | simp_all) (B r9)) rfl) ?_
 refine s_val (x_as (v := B ((((((r18 == 0) && (r19 == 0)) && (r110 == 0)) && (decide ((⟨(r005 : Int), (r015 : Int)⟩ : Span) = (⟨(r002 : Int), (r012 : Int)⟩ : Span)))) && (decide ((⟨(r006 : Int), (r016 : Int)⟩ : Span) = (⟨(r007 : Int), (r017 : Int)⟩ : Span)))) && r9)) rfl) ?_
 refine s_nil ?_
 refine W.ret ?_
 have hr_ := M.e_pure hM
 exact ⟨_, resE_tmp rfl, ⟨((((((r18 == 0) && (r19 == 0)) && (r110 == 0)) && (decide ((⟨(r005 : Int), (r015 : Int)⟩ : Span) = (⟨(r002 : Int), (r012 : Int)⟩ : Span)))) && (decide ((⟨(r006 : Int), (r016 : Int)⟩ : Span) = (⟨(r007 : Int), (r017 : Int)⟩ : Span)))) && r9), hr_, rfl, (H.pick [] (by decide) rfl)⟩⟩

end Go.Proofs.Ytcgalcbkkijkhaa
end
