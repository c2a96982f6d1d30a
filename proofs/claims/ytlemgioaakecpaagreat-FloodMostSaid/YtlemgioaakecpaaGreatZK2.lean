/- Part 2 of the texts on which the proof rests. Conditions: none. -/
import Derived.ScopeJumps
import Derived.Below
import Derived.Maps.RangeRun
import Derived.Test.YtlemgioaakecpaaGreatProg
import Derived.Shelf.SlIterI.Nil
import Derived.Shelf.SortM.Plain
import Derived.Shelf.SortM.SortNone
import Derived.WideKeyRuns
import Derived.Test.YtlemgioaakecpaaGreatZK1
set_option linter.unusedVariables false
set_option linter.unusedSimpArgs false
set_option linter.unusedSectionVars false
namespace Go.Nm
open Go
def ivO (r : Raw 0) : Value := r.cs.getD 0 (.bool false)
def OldM (r : Raw 0) (_ : List Int) : Prop := r.cs = [ivO r]
def psd (dl : List (List Int)) : List (List Int) := dl
theorem psd_len (dl : List (List Int)) : (psd dl).length = dl.length := rfl
theorem psd_get (dl : List (List Int)) (i : Nat) : (psd dl).getD i [] = dl.getD i default := rfl
def cDO (e1 e2 : TypeId) (v : Value) (us : List (Raw 0)) (dl : List (List Int)) : Chunk where
  D b := (cDp ivO e1 e2 v us (psd dl)).D b
  ex := true
  ok w := (cDp ivO e1 e2 v us (psd dl)).ok w /\ us.length = dl.length /\ ∀ i, i < dl.length -> OldM (us.getD i default) (dl.getD i default)
  st w w' h hs k := ⟨(cDp ivO e1 e2 v us (psd dl)).st w w' h.1 hs k, h.2⟩
  bd w b h hb := (cDp ivO e1 e2 v us (psd dl)).bd w b h.1 hb
theorem St.reS {w0 w : World} {L L' R : List Chunk} {k : Nat} {c c' : Chunk} (H : St w0 w L R) (hk : L[k]? = some c) (hx : c.ex = true) (hD : ∀ b, c'.D b -> c.D b) (ho : c'.ok w) (hL : L.set k c' = L') : St w0 w L' R :=
  H.set hk hx (.refl w) (fun _ _ _ => rfl) (fun b hb => .inl (hD b hb)) ho hL
theorem setGet {α : Type} {L : List α} {k : Nat} {c : α} (h : k < L.length) : (L.set k c)[k]? = some c := by simp [h]
/-- The cells of the inner rows. -/
def inC : List (Raw 0) -> List (List Int) -> Cells
  | u :: us, t :: T => Cells.sup (rowC (ivO u) (t.flatMap Flat.enc)) (inC us T)
  | _, _ => fun _ => none
def deC (v : Value) (us : List (Raw 0)) (dl : List (List Int)) : Cells := Cells.sup (rowC v (us.flatMap Flat.enc)) (inC us (psd dl))
section
variable {e1 e2 : TypeId} {v : Value} {us : List (Raw 0)} {dl : List (List Int)} {w0 w : World} {L L' R : List Chunk}
theorem inLe : ∀ (us : List (Raw 0)) (T : List (List Int)), (∀ p ∈ us.zip T, (cOwn e2 (ivO p.1) p.2).ok w) -> (inC us T).Le w.cell?
  | [], _, _ => fun _ _ h => by simp [inC] at h
  | _ :: _, [], _ => fun _ _ h => by simp [inC] at h
  | u :: us, t :: T, h => Cells.sup_le (ownLe w (h (u, t) (by simp))) (inLe us T fun p hp => h p (by simp [hp]))
theorem inGet : ∀ (us : List (Raw 0)) (T : List (List Int)), (∀ p ∈ us.zip T, (cOwn e2 (ivO p.1) p.2).ok w) -> ∀ i, i < us.length -> i < T.length -> (rowC (ivO (us.getD i default)) ((T.getD i []).flatMap Flat.enc)).Le (inC us T)
  | [], _, _, _, h, _ => by simp at h
  | _ :: _, [], _, _, _, h => by simp at h
  | u :: us, t :: T, h, 0, _, _ => Cells.sup_l _ _
  | u :: us, t :: T, h, i + 1, h1, h2 => by
    have ih := inGet us T (fun p hp => h p (by simp [hp])) i (by simpa using h1) (by simpa using h2)
    exact ih.trans (Cells.sup_r (ownLe w (h (u, t) (by simp))) (inLe us T fun p hp => h p (by simp [hp])))
theorem doRows (h : (cDO e1 e2 v us dl).ok w) : ∀ p ∈ us.zip (psd dl), (cOwn e2 (ivO p.1) p.2).ok w := fun p hp =>
  (show Sep w (dpL ivO e1 e2 v us (psd dl)) from h.1).get (List.mem_cons_of_mem _ (List.mem_map.2 ⟨p, hp, rfl⟩))
theorem doOuter (h : (cDO e1 e2 v us dl).ok w) : (cOwn e1 v us).ok w := dpOuter h.1
theorem doLen (h : (cDO e1 e2 v us dl).ok w) : us.length = dl.length := h.2.1
theorem doRow (h : (cDO e1 e2 v us dl).ok w) {i : Nat} (hi : i < dl.length) : (cOwn e2 (ivO (us.getD i default)) (dl.getD i default)).ok w := by
  have := dpRow h.1 (by rw [psd_len]; exact h.2.1) (i := i) (by rw [psd_len]; exact hi)
  rw [psd_get] at this
  exact this
theorem deLe : ∀ w, (cDO e1 e2 v us dl).ok w -> (deC v us dl).Le w.cell? := fun w h => Cells.sup_le (ownLe w (doOuter h)) (inLe us _ (doRows h))
theorem repR_of {C : Cells} : ∀ (us : List (Raw 0)) (dl : List (List Int)), us.length = dl.length -> (∀ i, i < dl.length -> OldM (us.getD i default) (dl.getD i default) /\ Sl C (ivO (us.getD i default)) (dl.getD i default)) -> RepR (α := List Int) C us dl
  | [], [], _, _ => .nil
  | [], _ :: _, h, _ => by simp at h
  | _ :: _, [], h, _ => by simp at h
  | u :: us, o :: dl, h, k => by
    have h0 := k 0 (by simp)
    refine .cons ⟨ivO u, h0.1, h0.2⟩ (repR_of us dl (by simpa using h) fun i hi => ?_)
    have := k (i + 1) (by simpa using hi)
    exact this
theorem deRep (h : (cDO e1 e2 v us dl).ok w) : RepR (α := List Int) (inC us (psd dl)) us dl := repR_of us dl h.2.1 fun i hi => ⟨h.2.2 i hi, by
  have hl := h.2.1
  have := (ownSl (doRow h hi)).mono (inGet (e2 := e2) (w := w) us (psd dl) (doRows h) i (by omega) (by rw [psd_len]; exact hi) |> fun x => by rw [psd_get] at x; exact x)
  exact this⟩
theorem deSl (h : (cDO e1 e2 v us dl).ok w) : Sl (deC v us dl) v dl := rowSl rfl (doOuter h) (inLe us _ (doRows h)) (deRep h)
theorem doAt (h : (cDO e1 e2 v us dl).ok w) {i : Int} (h0 : 0 <= i) (h1 : i < dl.length) : At w.cell? (vat v 1 i.toNat) (us.getD i.toNat default).cs := by
  have hl := doLen h
  obtain ⟨cs, ha, hr⟩ := (ownSl (doOuter h)).atI h0 (by omega) default
  have : cs = (us.getD i.toNat default).cs := hr
  subst this
  exact ha.mono (ownLe w (doOuter h))
theorem ld1 (r : Raw 0) : r.cs = [ivO r] := by
  have h := r.len
  unfold ivO
  match hr : r.cs, h with
  | [x], _ => rfl
theorem doLd (h : (cDO e1 e2 v us dl).ok w) {i : Int} (h0 : 0 <= i) (h1 : i < dl.length) : At w.cell? (vat v 1 i.toNat) [ivO (us.getD i.toNat default)] := by
  have := doAt h h0 h1
  rwa [ld1] at this
theorem St.nilDo (H : St w0 w L R) (e1 e2 : TypeId) : St w0 w (cDO e1 e2 (.slice none 0 0) [] [] :: L) R := by
  have H1 := H.nilDp (α := Int) (iv := ivO) e1 e2
  exact H1.reS (k := 0) (c' := cDO e1 e2 (.slice none 0 0) [] []) rfl rfl (fun b hb => hb) ⟨H1.get (k := 0) rfl, rfl, fun i hi => by simp at hi⟩ rfl
variable {P : Program} {all rest : List Oper} {Q : Post} {σ : Env} {d : Nat} {ty : TypeId} {pos : String} {af : Array Edge}
/-- One element more. -/
theorem t_doapp {t by' : Nat} {z : Value} {x y : Operand} (S : SlT P t e1 1 by' z) (hb : Nat.blt 0 by' = true) {rv vy : Value} {sv : Raw 0} {o : List Int} {C : Cells} (H : St w0 w (cDO e1 e2 v us dl :: cOwn e2 rv o :: L) R) (hrv : sv.cs = [rv]) (hx : ev σ x = v) (hy : ev σ y = vy)
    (hs : Sl C vy [sv]) (hle : C.Le w.cell?) (hn : (dl.length + 1) * by' <= 140737488355328)
    (kk : ∀ v' w', St w0 w' (cDO e1 e2 v' (us ++ [sv]) (dl ++ [o]) :: L) R -> SL P all Q rest (upd σ d v') w') :
    SL P all Q (⟨some d, .call ⟨.builtin .append, #[x, y], #[t, t]⟩, ty, pos, af, none⟩ :: rest) σ w := by
  have hok := H.get (k := 0) rfl
  have H1 : St w0 w (cDp ivO e1 e2 v us (psd dl) :: cOwn e2 rv o :: L) R := H.reS (k := 0) (c := cDO e1 e2 v us dl) (c' := cDp ivO e1 e2 v us (psd dl)) rfl rfl (fun b hb => hb) hok.1 rfl
  have hiv : ivO sv = rv := by unfold ivO; rw [hrv]; rfl
  refine t_dpapp (α := Int) (β := Raw 0) S hb H1 (by rw [psd_len]; exact hok.2.1) hiv hx hy hs hle (by rw [psd_len]; exact hn) fun v' w' H2 => kk v' w' ?_
  have hpe : psd dl ++ [o] = psd (dl ++ [o]) := by simp [psd]
  rw [hpe] at H2
  refine H2.reS (k := 0) (c' := cDO e1 e2 v' (us ++ [sv]) (dl ++ [o])) rfl rfl (fun b hb => hb) ⟨H2.get (k := 0) rfl, by simp [hok.2.1], fun i hi => ?_⟩ rfl
  rw [List.length_append, List.length_singleton] at hi
  have hl := hok.2.1
  by_cases e : i < dl.length
  · rw [show (us ++ [sv]).getD i default = us.getD i default from by simp [List.getD, List.getElem?_append_left (show i < us.length by omega)], show (dl ++ [o]).getD i default = dl.getD i default from by simp [List.getD, List.getElem?_append_left e]]
    exact hok.2.2 i e
  · obtain rfl : i = dl.length := by omega
    rw [show (us ++ [sv]).getD dl.length default = sv from by rw [← hl]; simp [List.getD], show (dl ++ [o]).getD dl.length default = o from by simp [List.getD]]
    unfold OldM
    rw [hiv, hrv]
/-- A store into the outer row, the inner ones beside it. -/
theorem t_outst {X : List Chunk} {dst : Option Nat} {t k n off : Nat} {x y : Operand} {val : Value} (H : St w0 w L R) (hk : L[k]? = some (cAll (cOwn (α := Raw 0) e1 v us :: X))) (hs : (P.info? t).map (·.size) = some n) {i : Int} (h0 : 0 <= i) (h1 : i < us.length)
    (a' : Raw 0) (hx : ev σ x = fat (vat v 1 i.toNat) off) (hy : ev σ y = val) (vs : List Value) (hv : val.cells = vs.toArray) (hn : vs.length = n) (hoff : off + n <= 1) (hone : ∀ u ∈ vs, u.oneCell' = true)
    (he : a'.cs = (us.getD i.toNat default).cs.take off ++ vs ++ (us.getD i.toNat default).cs.drop (off + vs.length))
    (kk : ∀ w', St w0 w' (L.set k (cAll (cOwn (α := Raw 0) e1 v (us.set i.toNat a') :: X))) R -> SL P all Q rest (updo σ dst undef) w') : SL P all Q (⟨dst, .store t x y, ty, pos, af, none⟩ :: rest) σ w := by
  have hok : Sep w (cOwn (α := Raw 0) e1 v us :: X) := H.get hk
  obtain ⟨w', hr, ho, hg⟩ := OwnF.fst (P := P) (t := t) (hok.1 : OwnF 0 e1 w v us) hs (k := i.toNat) (by omega) _ a' (getD_some us (k := i.toNat) (by omega) default) vs hv hn hoff hone he
  refine s_skp (w' := w') ?_ (kk w' ?_)
  · have hx' : ev σ x = fat (vat v (Elt.sz (Raw 0)) i.toNat) off := hx
    simp [execOp, hx', hy, hr]
  refine H.set (c' := cAll (cOwn (α := Raw 0) e1 v (us.set i.toNat a') :: X)) hk rfl hg.keep (fun b hb hne => hg.blk b hb (fun hc => hne ⟨cOwn (α := Raw 0) e1 v us, by simp, hc⟩)) (fun b hb => ?_) ?_ rfl
  · obtain ⟨c, hc, hd⟩ := hb
    rcases List.mem_cons.1 hc with rfl | hc
    · exact .inl ⟨cOwn (α := Raw 0) e1 v us, by simp, hd⟩
    · exact .inl ⟨c, List.mem_cons_of_mem _ hc, hd⟩
  · exact Sep.set (c := cOwn (α := Raw 0) e1 v us) (c' := cOwn (α := Raw 0) e1 v (us.set i.toNat a')) rfl hg.size (fun b hb hne => hg.blk b hb hne) (fun b hb => .inl hb) ho 0 _ hok rfl
/-- A row that has grown, or shrunk, and is not yet stored. -/
def cDG (e1 e2 : TypeId) (v : Value) (us : List (Raw 0)) (dl : List (List Int)) (i : Nat) (v' : Value) (row : List Int) : Chunk where
  D b := (cAll ((dpL ivO e1 e2 v us (psd dl)).set (i + 1) (cOwn e2 v' row))).D b
  ex := true
  ok w := (cAll ((dpL ivO e1 e2 v us (psd dl)).set (i + 1) (cOwn e2 v' row))).ok w /\ us.length = dl.length
  st w w' h hs k := ⟨(cAll ((dpL ivO e1 e2 v us (psd dl)).set (i + 1) (cOwn e2 v' row))).st w w' h.1 hs k, h.2⟩
  bd w b h hb := (cAll ((dpL ivO e1 e2 v us (psd dl)).set (i + 1) (cOwn e2 v' row))).bd w b h.1 hb
theorem St.inner {k : Nat} (H : St w0 w L R) (hk : L[k]? = some (cDO e1 e2 v us dl)) {i : Nat} (hi : i < dl.length) {v' : Value} {row : List Int} {w' : World} (ho : OwnF 0 e2 w' v' row) (hg : Grow 0 (ivO (us.getD i default)) w w') (hne : ∀ b, b < w.heap.size -> (ivO (us.getD i default)).ownBlock ≠ some b -> v'.ownBlock ≠ some b) : St w0 w' (L.set k (cDG e1 e2 v us dl i v' row)) R := by
  have hok := H.get hk
  have hl := hok.2.1
  have hc : (dpL ivO e1 e2 v us (psd dl))[i + 1]? = some (cOwn e2 (ivO (us.getD i default)) (dl.getD i default)) := dpGet hl hi
  have new : ∀ b, (cOwn e2 v' row).D b -> (cOwn e2 (ivO (us.getD i default)) (dl.getD i default)).D b ∨ w.heap.size <= b := fun b hb => by
    by_cases h : b < w.heap.size
    · by_cases h2 : (ivO (us.getD i default)).ownBlock = some b
      · exact .inl h2
      · exact absurd hb (hne b h h2)
    · exact .inr (by omega)
  refine H.set (c' := cDG e1 e2 v us dl i v' row) hk rfl hg.keep (fun b hb hn => hg.blk b hb (fun hc' => hn ⟨_, List.mem_of_getElem? hc, hc'⟩)) (fun b hb => ?_) ⟨?_, hl⟩ rfl
  · obtain ⟨c, hc', hd⟩ := hb
    rcases List.mem_or_eq_of_mem_set hc' with hc' | rfl
    · exact .inl ⟨c, hc', hd⟩
    · rcases new b hd with q | q
      · exact .inl ⟨_, List.mem_of_getElem? hc, q⟩
      · exact .inr q
  · exact Sep.set (c := cOwn e2 (ivO (us.getD i default)) (dl.getD i default)) (c' := cOwn e2 v' row) rfl hg.size (fun b hb hn => hg.blk b hb hn) new ho (i + 1) _ hok.1 hc
/-- A row grows. -/
theorem t_dogrow {t by' k : Nat} {z : Value} {x y : Operand} (S : SlT P t e2 1 by' z) (hb : Nat.blt 0 by' = true) (H : St w0 w L R) (hk : L[k]? = some (cDO e1 e2 v us dl)) {i : Int} (h0 : 0 <= i) (h1 : i < dl.length) {vy : Value} {l2 : List Int} {C : Cells} (hx : ev σ x = ivO (us.getD i.toNat default)) (hy : ev σ y = vy)
    (hs : Sl C vy l2) (hle : C.Le w.cell?) (hn : ((dl.getD i.toNat default).length + l2.length) * by' <= 140737488355328)
    (kk : ∀ v' w', v'.oneCell' = true -> St w0 w' (L.set k (cDG e1 e2 v us dl i.toNat v' (dl.getD i.toNat default ++ l2))) R -> SL P all Q rest (upd σ d v') w') :
    SL P all Q (⟨some d, .call ⟨.builtin .append, #[x, y], #[t, t]⟩, ty, pos, af, none⟩ :: rest) σ w := by
  have hok := H.get hk
  have hi : i.toNat < dl.length := by omega
  refine s_app (α := Int) S hx hy (doRow hok hi) hs hle (Nat.zero_le _) hn (len63 hb hn) fun v' w' ho hg hne => kk v' w' (sl_one (ownSl (e := e2) ho)) (H.inner hk hi ho hg hne)
/-- The row that has grown, or shrunk, is stored. -/
theorem t_doput {dst : Option Nat} {t k : Nat} {x y : Operand} {v' : Value} {row : List Int} {i : Int} (H : St w0 w L R) (hk : L[k]? = some (cDG e1 e2 v us dl i.toNat v' row)) (hs : (P.info? t).map (·.size) = some 1) (h0 : 0 <= i) (h1 : i < dl.length) (hx : ev σ x = vat v 1 i.toNat) (hy : ev σ y = v') (hone : v'.oneCell' = true)
    (kk : ∀ w' us', us'.length = (dl.set i.toNat row).length -> St w0 w' (L.set k (cDO e1 e2 v us' (dl.set i.toNat row))) R -> SL P all Q rest (updo σ dst undef) w') : SL P all Q (⟨dst, .store t x y, ty, pos, af, none⟩ :: rest) σ w := by
  have hok := H.get hk
  have hkl := (List.getElem?_eq_some_iff.1 hk).1
  have hl := hok.2
  have hi : i.toNat < dl.length := by omega
  have hiu : i.toNat < us.length := by omega
  have e : (dpL ivO e1 e2 v us (psd dl)).set (i.toNat + 1) (cOwn e2 v' row) = cOwn e1 v us :: ((us.zip dl).map fun p => cOwn e2 (ivO p.1) p.2).set i.toNat (cOwn e2 v' row) := by
    unfold dpL psd
    rw [List.set_cons_succ]
  have H1 : St w0 w (L.set k (cAll (cOwn (α := Raw 0) e1 v us :: ((us.zip dl).map fun p => cOwn e2 (ivO p.1) p.2).set i.toNat (cOwn e2 v' row)))) R := by
    rw [← e]
    exact H.reS (c' := cAll ((dpL ivO e1 e2 v us (psd dl)).set (i.toNat + 1) (cOwn e2 v' row))) hk rfl (fun _ hb => hb) hok.1 rfl
  obtain ⟨r, hr⟩ : ∃ r : Raw 0, r.cs = [v'] := ⟨⟨[v'], rfl, fun u hu => by rw [List.mem_singleton] at hu; rw [hu]; exact hone⟩, rfl⟩
  have hir : ivO r = v' := by unfold ivO; rw [hr]; rfl
  have hou : (cOwn (α := Raw 0) e1 v us).ok w := (show Sep w (_ :: _) from H1.get (setGet hkl)).1
  have hfv : fat (vat v 1 i.toNat) 0 = vat v 1 i.toNat := by
    obtain ⟨b, o, e⟩ := (ownSl hou).pl h0 (by omega)
    rw [show (1 : Nat) = Elt.sz (Raw 0) from rfl, e]
    simp [fat, add_lit]
  have hlen : v'.cells = #[v'] := oneCell_cells hone
  refine t_outst (off := 0) (n := 1) H1 (setGet hkl) hs h0 (by omega) r (by rw [hfv]; exact hx) hy [v'] (by rw [hlen]) rfl (by omega) (by simpa using hone) ?_ fun w' H2 => kk w' (us.set i.toNat r) (by simp [hl]) ?_
  · have := (us.getD i.toNat default).len
    rw [hr, List.drop_of_length_le (by rw [this]; simp)]
    rfl
  · rw [List.set_set] at H2
    have e3 : (cOwn (α := Raw 0) e1 v (us.set i.toNat r) :: ((us.zip dl).map fun p => cOwn e2 (ivO p.1) p.2).set i.toNat (cOwn e2 v' row)) = dpL ivO e1 e2 v (us.set i.toNat r) (psd (dl.set i.toNat row)) := by
      unfold dpL psd
      congr 1
      apply List.ext_getElem?
      intro j
      rw [List.getElem?_set, List.getElem?_map]
      by_cases hj : i.toNat = j
      · subst hj
        rw [if_pos rfl, if_pos (by simp; omega), List.getElem?_map, (List.getElem?_zip_eq_some (z := (r, row))).2 ⟨by simp [hiu], by simp [hi]⟩]
        simp [hir]
      · rw [if_neg hj, List.getElem?_map]
        congr 1
        simp only [List.zip, List.getElem?_zipWith, List.getElem?_set_ne hj]
    rw [e3] at H2
    exact H2.reS (k := k) (c := cAll (dpL ivO e1 e2 v (us.set i.toNat r) (psd (dl.set i.toNat row)))) (c' := cDO e1 e2 v (us.set i.toNat r) (dl.set i.toNat row)) (setGet hkl) rfl (fun _ hb => hb) ⟨H2.get (setGet hkl), by simp [hl], fun j _ => ld1 _⟩ (by rw [List.set_set])
end
section
variable {P : Program} {w : World}
/-- Elements are appended where there is room. -/
theorem app_room {α : Type} [Flat α] {t ty e by' : Nat} {z : Value} (T : SlT P t e (Elt.sz α) by' z) {g cap : Nat} {cur : Array Value} {l l2 : List α} (hg : w.heap[g]? = some (.cells cur e (0, 0))) (hcs : cur.size = cap * Elt.sz α)
    (hroom : l.length + l2.length <= cap) (htake : cur.toList.take (l.length * Elt.sz α) = l.flatMap Flat.enc) {C : Cells} {vy : Value} (hs : Sl C vy l2) (hle : C.Le w.cell?) :
    ∃ cs : Array Value, (Builtin.append_ #[t, t] ty #[.slice (some ⟨g, 0, none⟩) l.length cap, vy]).run P w = .ok (.slice (some ⟨g, 0, none⟩) (l.length + l2.length) cap) (w.setRow g cs) /\ cs.size = cur.size /\ cs.toList.take ((l.length + l2.length) * Elt.sz α) = (l ++ l2).flatMap Flat.enc := by
  obtain ⟨i, hi, hz, hsz, hby⟩ := T.parts
  by_cases h0 : l2 = []
  · subst h0
    obtain ⟨a, c, hv⟩ := hs.slen
    simp only [List.length_nil] at hv
    subst hv
    refine ⟨cur, ?_, rfl, by simpa using htake⟩
    rw [setRow_self w g cur e (0, 0) hg]
    have hl0 : (loadCells (a.getD ⟨0, 0, none⟩) 0).run P w = .ok #[] w := rfl
    have hcap : l.length <= cap := by omega
    cases a <;> simp [Builtin.append_, run_underlying T.und, sizeOf, typeInfo, hi, Builtin.lenOf, Builtin.firstCells, loadCells, loadCellsFrom, hcap, storeCells]
  · obtain ⟨a, c, hvy, hlc, hcm, hh⟩ := hs.ex
    have hpos : 0 < l2.length := List.length_pos_iff.2 h0
    obtain ⟨b, o, cs0, ha, _, _⟩ := hh 0 l2[0] (by simp)
    subst ha
    have hnews : ∀ j u, (l2.flatMap Flat.enc : List Value)[j]? = some u -> w.cell? ((⟨b, o, none⟩ : Addr).add j) = some u := by
      intro j u hj
      obtain ⟨k, x, r, hk, hr, hjk⟩ := flat_inv l2 j u hj
      obtain ⟨b', o', cs, hab, hrep, hy⟩ := hh k x hk
      have hcs := Flat.rep_iff.1 hrep
      subst hcs
      simp only [Option.some.injEq, Addr.mk.injEq, and_true] at hab
      obtain ⟨rfl, rfl⟩ := hab
      rw [add_lit, hjk]
      have := hle _ _ (hy r u hr)
      rwa [Nat.add_assoc] at this
    have hl2 := flat_len l2
    have hfit : l.length * i.size + (l2.flatMap Flat.enc : List Value).length <= cur.size := by rw [hl2, hcs, hsz, ← Nat.add_mul]; exact Nat.mul_le_mul_right _ hroom
    have hr := run_append_room (P := P) w t ty e i T.und hi g l.length cap cur hg ⟨b, o, none⟩ l2.length c (l2.flatMap Flat.enc) (by rw [hl2, hsz]) hnews (flat_one l2) hroom hfit
    rw [← hvy] at hr
    refine ⟨_, hr, ?_, ?_⟩
    · rw [hsz] at hfit ⊢
      simp only [List.size_toArray, List.length_append, List.length_take, List.length_drop, Array.length_toList]
      omega
    · rw [hsz, List.flatMap_append]
      have e1 : (cur.toList.take (l.length * Elt.sz α) ++ l2.flatMap Flat.enc).length = (l.length + l2.length) * Elt.sz α := by
        rw [htake, List.length_append, flat_len, flat_len, Nat.add_mul]
      show (cur.toList.take (l.length * Elt.sz α) ++ l2.flatMap Flat.enc ++ _).take _ = _
      rw [← e1, List.take_left, htake]
theorem slice_hi {t e : TypeId} {sz : Nat} (hu : P.underlying t = some (.slice e)) (hs : (P.info? e).map (·.size) = some sz) {g n c i : Nat} (h2 : i <= n) (h3 : n <= c) : (Instr.sliceAt t (.slice (some ⟨g, 0, none⟩) n c) none (some (I i)) none).run P w = .ok (.slice (some ⟨g, 0, none⟩) i c) w := by
  have e1 : i <= c := Nat.le_trans h2 h3
  simp [Instr.sliceAt, Instr.slice, Instr.sliceBounds, Instr.sliceBound, asIntOf, run_underlying hu, run_sizeOf hs, Addr.add]
  intro h
  omega
/-- What is ahead of an element and what is behind it, put together in place. -/
theorem own_del {α : Type} [Flat α] {t e by' : Nat} {z : Value} (T : SlT P t e (Elt.sz α) by' z) {v : Value} {l : List α} (ho : OwnF 0 e w v l) {i : Int} (h0 : 0 <= i) (h1 : i < l.length) :
    ∃ u1 u2, (∀ w, (Instr.sliceAt t v none (some (I i)) none).run P w = .ok u1 w) /\ (∀ w, (Instr.sliceAt t v (some (I (i + 1))) none none).run P w = .ok u2 w) ∧
      ∀ (w : World) (ty : TypeId), OwnF 0 e w v l -> ∃ v' w', (Builtin.append_ #[t, t] ty #[u1, u2]).run P w = .ok v' w' /\ OwnF 0 e w' v' (l.take i.toNat ++ l.drop (i.toNat + 1)) /\ Grow 0 v w w' /\ ∀ b, b < w.heap.size -> v.ownBlock ≠ some b -> v'.ownBlock ≠ some b := by
  obtain ⟨i, rfl⟩ := Int.eq_ofNat_of_zero_le h0
  rw [Int.toNat_natCast]
  have hi : i < l.length := by omega
  obtain ⟨u2, r2, _⟩ := sl_lo (P := P) T.und T.size ho.sl (i := (i : Int) + 1) (by omega) (by omega)
  rcases ho.2 with ⟨rfl, hn⟩ | ⟨g, cap, cur, rfl, hb, hg, hc, hm, hcs, htake⟩
  · omega
  refine ⟨.slice (some ⟨g, 0, none⟩) i cap, u2, fun w => slice_hi (w := w) (i := i) T.und T.size (by omega) hc, r2, fun w ty ho => ?_⟩
  rcases ho.2 with ⟨h, hn⟩ | ⟨g', cap', cur, hv, hb, hg, hc, hm, hcs, htake⟩
  · omega
  obtain ⟨rfl, rfl⟩ : g = g' /\ cap = cap' := by
    simp only [Value.slice.injEq, Option.some.injEq, Addr.mk.injEq, and_true, true_and] at hv
    exact ⟨hv.1, hv.2⟩
  obtain ⟨u2', r2', s2⟩ := sl_lo (P := P) T.und T.size ho.sl (i := (i : Int) + 1) (by omega) (by omega)
  have eu : u2 = u2' := by
    have q1 := r2 w
    have q2 := r2' w
    rw [q1] at q2
    injection q2
  subst eu
  rw [show ((i : Int) + 1).toNat = i + 1 by omega] at s2
  have hl1 : (l.take i).length = i := by rw [List.length_take]; omega
  have hsp := T.pos
  have ht1 : cur.toList.take ((l.take i).length * Elt.sz α) = (l.take i).flatMap Flat.enc := by
    have e1 : ((l.take i).flatMap Flat.enc : List Value).length = i * Elt.sz α := by rw [flat_len, hl1]
    have e2 : (l.flatMap Flat.enc : List Value) = (l.take i).flatMap Flat.enc ++ (l.drop i).flatMap Flat.enc := by rw [← List.flatMap_append, List.take_append_drop]
    rw [hl1, ← e1]
    have e3 : cur.toList.take ((l.take i).flatMap Flat.enc : List Value).length = (cur.toList.take (l.length * Elt.sz α)).take ((l.take i).flatMap Flat.enc : List Value).length := by
      rw [List.take_take, e1, Nat.min_eq_left (Nat.mul_le_mul_right _ (by omega))]
    rw [e3, htake, e2, List.take_left]
  obtain ⟨cs, ra, rs, rt⟩ := app_room (P := P) (ty := ty) T (l := l.take i) (l2 := l.drop (i + 1)) hg hcs (by rw [hl1, List.length_drop]; omega) ht1 s2 (frm_le _ _)
  rw [hl1] at ra
  have hl2 : i + (l.drop (i + 1)).length = l.length - 1 := by rw [List.length_drop]; omega
  have hl3 : (l.take i ++ l.drop (i + 1)).length = l.length - 1 := by rw [List.length_append, hl1, hl2]
  rw [hl2] at ra
  rw [hl1, hl2] at rt
  have hg1 := setRow_heap w g cur cs e (0, 0) hg
  refine ⟨_, _, ra, ⟨flat_len _, .inr ⟨g, cap, cs, by rw [hl3], hb, hg1, by rw [hl3]; omega, hm, by rw [rs, hcs], by rw [hl3]; exact rt⟩⟩, ⟨rfl, rfl, by simp [World.setRow], fun b _ hne => ?_, fun g' hg' => Nat.zero_le _, fun a => by rw [frozen_setRow]⟩, fun b _ hne => hne⟩
  exact setRow_other _ g b _ (fun e => hne (by rw [e]; rfl))
theorem drop_sub {α : Type} (l : List α) (i : Nat) : (l.take i ++ l.drop (i + 1)).Sublist l := by
  conv => rhs; rw [← List.take_append_drop i l]
  refine List.Sublist.append (List.Sublist.refl _) ?_
  rw [← List.drop_drop]
  exact List.drop_sublist 1 _
theorem del_zip {α β : Type} (us : List α) (dl : List β) (i : Nat) (h : us.length = dl.length) : (us.take i ++ us.drop (i + 1)).zip (dl.take i ++ dl.drop (i + 1)) = (us.zip dl).take i ++ (us.zip dl).drop (i + 1) := by
  rw [List.zip_append (by simp [h])]
  simp only [List.zip, List.take_zipWith, List.drop_zipWith]
end
section
variable {e1 e2 : TypeId} {v : Value} {us : List (Raw 0)} {dl : List (List Int)} {w0 w : World} {L L' R : List Chunk} {P : Program} {all rest : List Oper} {Q : Post} {σ : Env} {d : Nat} {ty : TypeId} {pos : String} {af : Array Edge}
/-- A row is taken out. -/
theorem t_dodel {t k : Nat} {x y : Operand} {u1 u2 : Value} (H : St w0 w L R) (hk : L[k]? = some (cDO e1 e2 v us dl)) {i : Int} (h0 : 0 <= i) (h1 : i < dl.length) (hx : ev σ x = u1) (hy : ev σ y = u2)
    (hap : ∀ (w : World) (ty : TypeId), OwnF 0 e1 w v us -> ∃ v' w', (Builtin.append_ #[t, t] ty #[u1, u2]).run P w = .ok v' w' /\ OwnF 0 e1 w' v' (us.take i.toNat ++ us.drop (i.toNat + 1)) /\ Grow 0 v w w' /\ ∀ b, b < w.heap.size -> v.ownBlock ≠ some b -> v'.ownBlock ≠ some b)
    (kk : ∀ v' w' us', us'.length = (dl.take i.toNat ++ dl.drop (i.toNat + 1)).length -> St w0 w' (L.set k (cDO e1 e2 v' us' (dl.take i.toNat ++ dl.drop (i.toNat + 1)))) R -> SL P all Q rest (upd σ d v') w') :
    SL P all Q (⟨some d, .call ⟨.builtin .append, #[x, y], #[t, t]⟩, ty, pos, af, none⟩ :: rest) σ w := by
  have hok := H.get hk
  have hl := hok.2.1
  obtain ⟨v', w', hr, ho, hg, hne⟩ := hap w ty (doOuter hok)
  have hln : (us.take i.toNat ++ us.drop (i.toNat + 1)).length = (dl.take i.toNat ++ dl.drop (i.toNat + 1)).length := by simp [hl]
  refine s_any (v := v') (w' := w') (by simp [execOp, resolve, invoke, builtin, hx, hy, hr]) (kk v' w' _ hln ?_)
  have new : ∀ b, (cOwn e1 v' (us.take i.toNat ++ us.drop (i.toNat + 1))).D b -> (cOwn e1 v us).D b ∨ w.heap.size <= b := fun b hb => by
    by_cases h : b < w.heap.size
    · by_cases h2 : v.ownBlock = some b
      · exact .inl h2
      · exact absurd hb (hne b h h2)
    · exact .inr (by omega)
  have hsep : Sep w' ((dpL ivO e1 e2 v us (psd dl)).set 0 (cOwn e1 v' (us.take i.toNat ++ us.drop (i.toNat + 1)))) := Sep.set (c := cOwn e1 v us) rfl hg.size (fun b hb hn => hg.blk b hb hn) new ho 0 _ hok.1 rfl
  have hsub : (dpL ivO e1 e2 v' (us.take i.toNat ++ us.drop (i.toNat + 1)) (psd (dl.take i.toNat ++ dl.drop (i.toNat + 1)))).Sublist ((dpL ivO e1 e2 v us (psd dl)).set 0 (cOwn e1 v' (us.take i.toNat ++ us.drop (i.toNat + 1)))) := by
    unfold dpL psd
    rw [List.set_cons_zero]
    refine List.Sublist.cons_cons _ (List.Sublist.map _ ?_)
    rw [del_zip us dl i.toNat hl]
    exact drop_sub _ _
  refine H.set (c' := cDO e1 e2 v' (us.take i.toNat ++ us.drop (i.toNat + 1)) (dl.take i.toNat ++ dl.drop (i.toNat + 1))) hk rfl hg.keep (fun b hb hn => hg.blk b hb (fun hc' => hn ⟨cOwn e1 v us, by simp [dpL], hc'⟩)) (fun b hb => ?_) ⟨?_, hln, fun j _ => ld1 _⟩ rfl
  · obtain ⟨c, hc, hd⟩ := hb
    have hc := hsub.subset hc
    rcases List.mem_or_eq_of_mem_set hc with hc | rfl
    · exact .inl ⟨c, hc, hd⟩
    · rcases new b hd with q | q
      · exact .inl ⟨cOwn e1 v us, by simp [dpL], q⟩
      · exact .inr q
  · show Sep w' _
    rw [Sep.iff] at hsep ⊢
    exact ⟨fun c hc => hsep.1 c (hsub.subset hc), hsep.2.sublist hsub⟩
/-- A row loses an element. -/
theorem t_doshrink {t k : Nat} {x y : Operand} {u1 u2 : Value} {i j : Int} (H : St w0 w L R) (hk : L[k]? = some (cDO e1 e2 v us dl)) (h0 : 0 <= i) (h1 : i < dl.length) (hx : ev σ x = u1) (hy : ev σ y = u2)
    (hap : ∀ (w : World) (ty : TypeId), OwnF 0 e2 w (ivO (us.getD i.toNat default)) (dl.getD i.toNat default) -> ∃ v' w', (Builtin.append_ #[t, t] ty #[u1, u2]).run P w = .ok v' w' /\ OwnF 0 e2 w' v' ((dl.getD i.toNat default).take j.toNat ++ (dl.getD i.toNat default).drop (j.toNat + 1)) /\ Grow 0 (ivO (us.getD i.toNat default)) w w' /\ ∀ b, b < w.heap.size -> (ivO (us.getD i.toNat default)).ownBlock ≠ some b -> v'.ownBlock ≠ some b)
    (kk : ∀ v' w', v'.oneCell' = true -> St w0 w' (L.set k (cDG e1 e2 v us dl i.toNat v' ((dl.getD i.toNat default).take j.toNat ++ (dl.getD i.toNat default).drop (j.toNat + 1)))) R -> SL P all Q rest (upd σ d v') w') :
    SL P all Q (⟨some d, .call ⟨.builtin .append, #[x, y], #[t, t]⟩, ty, pos, af, none⟩ :: rest) σ w := by
  have hok := H.get hk
  have hi : i.toNat < dl.length := by omega
  obtain ⟨v', w', hr, ho, hg, hne⟩ := hap w ty (doRow hok hi)
  exact s_any (v := v') (w' := w') (by simp [execOp, resolve, invoke, builtin, hx, hy, hr]) (kk v' w' (sl_one (ownSl (e := e2) ho)) (H.inner hk hi ho hg hne))
end
end Go.Nm
namespace Go.Nm
open Go
section
variable {P : Program} {ops : Array Oper} {md : Region.Mode} {C : World -> Prop} {zs : List Nat}
def onOf (md : Region.Mode) (ops : Array Oper) (j : Nat) : List Nat := match ops[j]? with
  | some o => (o.after.toList.filter (Region.binds md)).map (·.on)
  | none => []
def downs (md : Region.Mode) (ops : Array Oper) (z : Nat) : List Nat := (List.range ops.size).reverse.foldl (fun acc j => bif acc.contains j then onOf md ops j ++ acc else acc) (onOf md ops z)
/-- What an operation that is listed comes behind is listed, too. -/
def ClosedL (md : Region.Mode) (ops : Array Oper) (listed : Array Bool) : Prop := ∀ j, listed.getD j false = true -> ∀ i ∈ onOf md ops j, listed.getD i false = true
theorem onOf_ready {listed : Array Bool} {j : Nat} (hj : j ∈ Region.ready md ops listed) : ∀ i ∈ onOf md ops j, listed.getD i false = true := by
  obtain ⟨_, o, ho, hall⟩ := mem_ready.1 hj
  intro i hi
  unfold onOf at hi
  simp only [ho] at hi
  obtain ⟨e, he, rfl⟩ := List.mem_map.1 hi
  rw [List.mem_filter] at he
  exact hall e (by simpa using he.1) he.2
theorem ClosedL.set {listed : Array Bool} {j : Nat} (h : ClosedL md ops listed) (hj : j ∈ Region.ready md ops listed) : ClosedL md ops (listed.setIfInBounds j true) := fun k hk i hi => by
  refine getD_set_true ?_
  by_cases e : j = k
  · subst e
    exact onOf_ready hj i hi
  · rw [getD_set_ne false e] at hk
    exact h k hk i hi
theorem downs_listed {listed : Array Bool} {z : Nat} (h : ClosedL md ops listed) (hz : z ∈ Region.ready md ops listed) : ∀ i ∈ downs md ops z, listed.getD i false = true := by
  unfold downs
  generalize hacc : onOf md ops z = acc
  have h0 : ∀ i ∈ acc, listed.getD i false = true := fun i hi => onOf_ready hz i (by rw [hacc]; exact hi)
  clear hacc
  generalize (List.range ops.size).reverse = l
  induction l generalizing acc with
  | nil => exact h0
  | cons j r ih =>
    rw [List.foldl_cons]
    refine ih _ fun i hi => ?_
    cases hc : acc.contains j with
    | false => rw [hc] at hi; exact h0 i hi
    | true =>
      rw [hc] at hi
      rcases List.mem_append.1 hi with hi | hi
      · exact h j (h0 j (by simpa using hc)) i hi
      · exact h0 i hi
def wpAnyS (P : Program) (md : Region.Mode) (ops : Array Oper) (C : World -> Prop) (zs : List Nat) (Q : Act -> World -> Prop) : Nat -> Array Bool -> Act -> World -> Prop
  | 0, listed, a, w => Region.ready md ops listed = [] /\ Q a w
  | fuel + 1, listed, a, w =>
    (Region.ready md ops listed = [] -> Q a w) ∧
    ∀ i ∈ Region.ready md ops listed, lOp P ops i (fun a' w' => (i ∉ zs -> C w') /\ wpAnyS P md ops C zs Q fuel (listed.setIfInBounds i true) a' w') a w
theorem wpAny_of_S {r : Option Nat} {Q : Act -> World -> Prop} {Q' : Exit -> Act -> World -> Prop} (hQ : ∀ a w, Q a w -> Q' .normal a w) : ∀ (fuel : Nat) (listed : Array Bool) (a : Act) (w : World),
    wpAnyS P md ops C zs Q fuel listed a w -> wpAnyIn (FR r) 0 P md ops Q' fuel listed a w
  | 0, _, _, _, h => ⟨h.1, hQ _ _ h.2⟩
  | fuel + 1, _, _, _, h => ⟨fun h0 => hQ _ _ (h.1 h0), fun i hi => lOp_wpOp (lOp_mono (fun a' w' hh => wpAny_of_S hQ fuel _ a' w' hh.2) (h.2 i hi))⟩
theorem wpAnyS_first {Q : Act -> World -> Prop} {i : Nat} {oi : Oper} {v : Value} (hi : ops[i]? = some oi) (hz : i ∉ zs) (hb : ∀ z ∈ zs, i ∈ downs md ops z) (hsel : ∀ (j : Nat) (o : Oper) cs b, ops[j]? = some o -> o.op ≠ .select cs b) :
    ∀ (fuel : Nat) (listed : Array Bool) (a : Act) (w : World), C w -> ClosedL md ops listed →
      (∀ j oj, ops[j]? = some oj -> j ≠ i -> listed.getD j true = false -> (∀ e ∈ oj.after, Region.binds md e = true -> e.on ≠ i) -> oi.apart ops oj = true) →
      i ∈ Region.ready md ops listed -> YV P ops C oi v a →
      wpAnyS P md ops C zs Q fuel (listed.setIfInBounds i true) (a.put oi.dst v) w -> wpAnyS P md ops C zs Q (fuel + 1) listed a w := by
  intro fuel
  induction fuel with
  | zero =>
    intro listed a w hC _ _ hr hy H
    refine ⟨fun h => (by rw [h] at hr; cases hr), fun j hj => ?_⟩
    by_cases hji : j = i
    · subst hji; exact hy.lOp hi hC ⟨fun _ => hC, H⟩
    · have := ready_mono hj hji
      rw [H.1] at this
      cases this
  | succ fuel ih =>
    intro listed a w hC hcl hfree hr hy H
    refine ⟨fun h => (by rw [h] at hr; cases hr), fun j hj => ?_⟩
    by_cases hji : j = i
    · subst hji; exact hy.lOp hi hC ⟨fun _ => hC, H⟩
    · have h1 := H.2 j (ready_mono hj hji)
      obtain ⟨hjun, oj, hoj, hall⟩ := mem_ready.1 hj
      have hno : ¬ listed.getD i false = true := fun h1 => by
        have h0 := (mem_ready.1 hr).1
        rcases Nat.lt_or_ge i listed.size with h' | h'
        · simp [h'] at h0 h1; rw [h0] at h1; cases h1
        · simp [Array.getElem?_eq_none h'] at h1
      have hnot : ∀ e ∈ oj.after, Region.binds md e = true -> e.on ≠ i := fun e he hb heq => by
        have h1 := hall e he hb
        rw [heq] at h1
        exact hno h1
      have hjz : j ∉ zs := fun e => hno (downs_listed hcl hj i (hb j e))
      have h2 := lOp_put hoj (hfree j oj hoj hji hjun hnot) (fun cs b => hsel i oi cs b hi) (fun cs b => hsel j oj cs b hoj) hy h1
      have hfree' : ∀ k ok, ops[k]? = some ok -> k ≠ i -> (listed.setIfInBounds j true).getD k true = false →
          (∀ e ∈ ok.after, Region.binds md e = true -> e.on ≠ i) -> oi.apart ops ok = true := fun k ok hk hki hun hno => by
        refine hfree k ok hk hki ?_ hno
        by_cases hjk : j = k
        · subst hjk; exact hjun
        · rw [getD_set_ne true hjk] at hun; exact hun
      refine lOp_mono (fun a' w' h3 => ⟨fun _ => h3.2.1 hjz, ih (listed.setIfInBounds j true) a' w' (h3.2.1 hjz) (hcl.set hj) hfree' (ready_mono hr (Ne.symm hji)) h3.1 ?_⟩) h2
      rw [Array.setIfInBounds_comm _ _ hji]
      exact h3.2.2
def canonRow (md : Region.Mode) (ops : Array Oper) : List Nat -> Array Bool -> Bool
  | [], listed => (Region.ready md ops listed).isEmpty
  | z :: r, listed => (Region.ready md ops listed == [z]) && canonRow md ops r (listed.setIfInBounds z true)
def canonTS (md : Region.Mode) (ops : Array Oper) (zs : List Nat) : Ord -> Nat -> Array Bool -> Bool
  | .nil, 0, listed => canonRow md ops zs listed
  | .q k r, n + 1, listed => (Region.ready md ops listed).contains k && Region.free md ops listed k && !zs.contains k && zs.all (fun z => (downs md ops z).contains k) && canonTS md ops zs r n (listed.setIfInBounds k true)
  | .l k r, n + 1, listed => (Region.ready md ops listed == [k]) && !zs.contains k && canonTS md ops zs r n (listed.setIfInBounds k true)
  | .l2 k1 r1 k2 r2, n + 1, listed => (Region.ready md ops listed == [k1, k2]) && !zs.contains k1 && !zs.contains k2 && canonTS md ops zs r1 n (listed.setIfInBounds k1 true) && canonTS md ops zs r2 n (listed.setIfInBounds k2 true)
  | _, _, _ => false
def runRow (P : Program) (ops : Array Oper) (Q : Act -> World -> Prop) : List Nat -> Act -> World -> Prop
  | [], a, w => Q a w
  | z :: r, a, w => lOp P ops z (fun a' w' => runRow P ops Q r a' w') a w
def runTS (P : Program) (ops : Array Oper) (C : World -> Prop) (zs : List Nat) (Q : Act -> World -> Prop) : Ord -> Act -> World -> Prop
  | .nil, a, w => runRow P ops Q zs a w
  | .q k r, a, w => ∃ o v, ops[k]? = some o /\ YV P ops C o v a /\ runTS P ops C zs Q r (a.put o.dst v) w
  | .l k r, a, w => lOp P ops k (fun a' w' => C w' /\ runTS P ops C zs Q r a' w') a w
  | .l2 k1 r1 k2 r2, a, w => lOp P ops k1 (fun a' w' => C w' /\ runTS P ops C zs Q r1 a' w') a w /\ lOp P ops k2 (fun a' w' => C w' /\ runTS P ops C zs Q r2 a' w') a w
  | .l3 _ _ _ _ _ _, _, _ => False
theorem wpAnyS_row {Q : Act -> World -> Prop} : ∀ (l : List Nat), (∀ z ∈ l, z ∈ zs) -> ∀ (listed : Array Bool) (a : Act) (w : World), canonRow md ops l listed = true -> runRow P ops Q l a w -> wpAnyS P md ops C zs Q l.length listed a w
  | [], _, _, _, _, hB, h => ⟨by simpa [canonRow] using hB, h⟩
  | z :: r, hz, listed, a, w, hB, h => by
    simp only [canonRow, Bool.and_eq_true, beq_iff_eq] at hB
    obtain ⟨hr, hB'⟩ := hB
    refine ⟨fun h0 => by rw [hr] at h0; simp at h0, fun i hi => ?_⟩
    rw [hr] at hi
    obtain rfl : i = z := by simpa using hi
    exact lOp_mono (fun a' w' hh => ⟨fun h => absurd (hz i (by simp)) h, wpAnyS_row r (fun y hy => hz y (by simp [hy])) _ _ _ hB' hh⟩) h
theorem wpAnyS_canonT {Q : Act -> World -> Prop} (hs : Region.noSelect ops = true) : ∀ (l : Ord) (n : Nat) (listed : Array Bool) (a : Act) (w : World), C w -> ClosedL md ops listed →
    canonTS md ops zs l n listed = true -> runTS P ops C zs Q l a w -> wpAnyS P md ops C zs Q (n + zs.length) listed a w
  | .nil, 0, listed, a, w, _, _, hB, h => by
    rw [Nat.zero_add]
    exact wpAnyS_row zs (fun _ h => h) _ _ _ (by simpa only [canonTS] using hB) h
  | .q k r, n + 1, listed, a, w, hC, hcl, hB, h => by
    simp only [canonTS, Bool.and_eq_true, Bool.not_eq_true', List.all_eq_true] at hB
    obtain ⟨⟨⟨⟨hr, hf⟩, hz⟩, hb⟩, hB'⟩ := hB
    obtain ⟨o, v, h0, hy, hK⟩ := h
    have hr' : k ∈ Region.ready md ops listed := by simpa using hr
    rw [Nat.succ_add]
    exact wpAnyS_first h0 (by simpa using hz) (fun z hz => by simpa using hb z hz) (Region.noSelect_spec hs) (n + zs.length) listed a w hC hcl (Region.free_spec h0 hf) hr' hy (wpAnyS_canonT hs r n _ _ _ hC (hcl.set hr') hB' hK)
  | .l k r, n + 1, listed, a, w, hC, hcl, hB, h => by
    simp only [canonTS, Bool.and_eq_true, beq_iff_eq] at hB
    obtain ⟨⟨hr, _⟩, hB'⟩ := hB
    rw [Nat.succ_add]
    refine ⟨fun h0 => by rw [hr] at h0; simp at h0, fun i hi => ?_⟩
    have hc := hcl.set hi
    rw [hr] at hi
    obtain rfl : i = k := by simpa using hi
    exact lOp_mono (fun a' w' hh => ⟨fun _ => hh.1, wpAnyS_canonT hs r n _ _ _ hh.1 hc hB' hh.2⟩) h
  | .l2 k1 r1 k2 r2, n + 1, listed, a, w, hC, hcl, hB, h => by
    simp only [canonTS, Bool.and_eq_true, beq_iff_eq] at hB
    obtain ⟨⟨⟨⟨hr, _⟩, _⟩, hB1⟩, hB2⟩ := hB
    rw [Nat.succ_add]
    refine ⟨fun h0 => by rw [hr] at h0; simp at h0, fun i hi => ?_⟩
    have hc := hcl.set hi
    rw [hr] at hi
    rcases List.mem_cons.1 hi with rfl | hi
    · exact lOp_mono (fun a' w' hh => ⟨fun _ => hh.1, wpAnyS_canonT hs r1 n _ _ _ hh.1 hc hB1 hh.2⟩) h.1
    · obtain rfl : i = k2 := by simpa using hi
      exact lOp_mono (fun a' w' hh => ⟨fun _ => hh.1, wpAnyS_canonT hs r2 n _ _ _ hh.1 hc hB2 hh.2⟩) h.2
  | .nil, _ + 1, _, _, _, _, _, hB, _ => by simp [canonTS] at hB
  | .q _ _, 0, _, _, _, _, _, hB, _ => by simp [canonTS] at hB
  | .l _ _, 0, _, _, _, _, _, hB, _ => by simp [canonTS] at hB
  | .l2 _ _ _ _, 0, _, _, _, _, _, hB, _ => by simp [canonTS] at hB
  | .l3 _ _ _ _ _ _, _, _, _, _, _, _, _, h => h.elim
theorem ClosedL.none (n : Nat) : ClosedL md ops (Array.replicate n false) := fun j h => by
  rcases Nat.lt_or_ge j n with h' | h'
  · simp [h'] at h
  · simp [Array.getElem?_replicate, Nat.not_lt.2 h'] at h
end
def SLR (P : Program) (all : List Oper) (Q : Post) : List Nat -> Env -> World -> Prop
  | [], σ, w => Q .normal σ w
  | z :: r, σ, w => ∃ o, all[z]? = some o /\ SL P all (loudQ (fun _ => True) (SLR P all Q r)) [o] σ w
def SLTS (P : Program) (all : List Oper) (C : World -> Prop) (zs : List Nat) (Q : Post) : Ord -> Env -> World -> Prop
  | .nil, σ, w => SLR P all Q zs σ w
  | .q k r, σ, w => ∃ o v, all[k]? = some o /\ (bif wantedE all o σ then ∀ w', C w' -> (execOp (ev σ) o).run P w' = .ok (.value v) w' else v = undef) /\ SLTS P all C zs Q r (updo σ o.dst v) w
  | .l k r, σ, w => ∃ o, all[k]? = some o /\ SL P all (loudQ C (SLTS P all C zs Q r)) [o] σ w
  | .l2 k1 r1 k2 r2, σ, w => (∃ o, all[k1]? = some o /\ SL P all (loudQ C (SLTS P all C zs Q r1)) [o] σ w) /\ ∃ o, all[k2]? = some o /\ SL P all (loudQ C (SLTS P all C zs Q r2)) [o] σ w
  | .l3 _ _ _ _ _ _, _, _ => False
theorem SLR_run {P : Program} {ds : List Deferred} {n : Nat} {Q : Post} (all : List Oper) (hok : ∀ o ∈ all, ∀ d, o.dst = some d -> d < n) : ∀ (l : List Nat) (σ : Env) (w : World) (a : Act), Fr ds n σ a →
    SLR P all Q l σ w -> runRow P all.toArray (fun a' w' => ∃ σ', Fr ds n σ' a' /\ Q .normal σ' w') l a w
  | [], σ, _, _, ha, h => ⟨σ, ha, h⟩
  | _ :: r, _, _, _, ha, ⟨_, ho, h⟩ => lOp_mono (fun _ _ hh => hh.2) (SL_lOp all hok (fun σ' w' a' ha' h' => SLR_run all hok r σ' w' a' ha' h') ho ha h)
theorem SLTS_runTS {P : Program} {ds : List Deferred} {n : Nat} {C : World -> Prop} {zs : List Nat} {Q : Post} (all : List Oper) (hok : ∀ o ∈ all, ∀ d, o.dst = some d -> d < n) : ∀ (l : Ord) (σ : Env) (w : World) (a : Act), Fr ds n σ a →
    SLTS P all C zs Q l σ w -> runTS P all.toArray C zs (fun a' w' => ∃ σ', Fr ds n σ' a' /\ Q .normal σ' w') l a w
  | .nil, σ, w, a, ha, h => SLR_run all hok zs σ w a ha h
  | .q k r, σ, w, a, ha, ⟨o, v, ho, hv, hK⟩ => by
    have hmem : o ∈ all := List.mem_of_getElem? ho
    refine ⟨o, v, by simpa using ho, ?_, SLTS_runTS all hok r _ _ _ (ha.puto (hok o hmem) v) hK⟩
    unfold YV
    rw [wanted_eq ha all hok, ha.eval]
    cases hw : wantedE all o σ with
    | true => rw [hw] at hv; exact .inl ⟨rfl, hv⟩
    | false => rw [hw] at hv; exact .inr ⟨rfl, hv⟩
  | .l k r, σ, w, a, ha, ⟨o, ho, h⟩ => SL_lOp all hok (fun σ' w' a' ha' h' => SLTS_runTS all hok r σ' w' a' ha' h') ho ha h
  | .l2 k1 r1 k2 r2, σ, w, a, ha, ⟨⟨o, ho, h⟩, ⟨o', ho', h'⟩⟩ =>
    ⟨SL_lOp all hok (fun σ' w' a' ha' h' => SLTS_runTS all hok r1 σ' w' a' ha' h') ho ha h, SL_lOp all hok (fun σ' w' a' ha' h' => SLTS_runTS all hok r2 σ' w' a' ha' h') ho' ha h'⟩
  | .l3 _ _ _ _ _ _, _, _, _, _, h => h.elim
theorem W.drawTS {r : Option Nat} {P : Program} {n : Nat} {Q : Post} {σ : Env} {w : World} {id : Nat} {l : List Oper} (C : World -> Prop) (order : Ord) (m : Nat) (zs : List Nat) (hm : P.follows .mixedOrders = true)
    (hB : (Region.noSelect l.toArray && Nat.beq (m + zs.length) l.length && canonTS .any l.toArray zs order m (Array.replicate l.length false)) = true)
    (hok : okDst n l = true) (h : ∀ w1, Ext w w1 -> C w1 /\ SLTS P l C zs Q order σ w1) : WR r P n (.region id l.toArray true) Q σ w := by
  intro ds a ha
  simp only [Bool.and_eq_true] at hB
  obtain ⟨⟨hs, hl⟩, hB⟩ := hB
  have hl' := Nat.eq_of_beq_eq_true hl
  obtain ⟨hC, hS⟩ := h w.drew (.drew w)
  refine wpIn_region_any hm (wpAny_of_S (C := C) (zs := zs) (Q := fun a' w' => ∃ σ', Fr ds n σ' a' /\ Q .normal σ' w') (fun _ _ h => h) _ _ _ _ ?_)
  have := wpAnyS_canonT (P := P) (md := .any) (Q := fun a' w' => ∃ σ', Fr ds n σ' a' /\ Q .normal σ' w') hs order m (Array.replicate l.length false) a w.drew hC (ClosedL.none _) hB (SLTS_runTS l (okDst_spec hok) order σ w.drew a ha hS)
  rw [hl'] at this
  simpa using this
section
variable {P : Program} {all : List Oper} {C : World -> Prop} {zs : List Nat} {z : Nat} {Q : Post} {r r2 : Ord} {σ : Env} {w : World}
theorem ts_nil (h : SLR P all Q zs σ w) : SLTS P all C zs Q .nil σ w := h
theorem sr_l {o : Oper} (ho : all[z]? = some o) (h : SL P all (loudQ (fun _ => True) (SLR P all Q zs)) [o] σ w) : SLR P all Q (z :: zs) σ w := ⟨o, ho, h⟩
theorem sr_nil (h : Q .normal σ w) : SLR P all Q [] σ w := h
theorem ts_q {k d : Nat} {op : Op} {ty : TypeId} {pos : String} {af : Array Edge} {v : Value} (ho : all[k]? = some ⟨some d, op, ty, pos, af, none⟩)
    (h : ∀ w', C w' -> (execOp (ev σ) ⟨some d, op, ty, pos, af, none⟩).run P w' = .ok (.value v) w') (hk : SLTS P all C zs Q r (upd σ d v) w) : SLTS P all C zs Q (.q k r) σ w :=
  ⟨_, v, ho, h, hk⟩
theorem ts_l {k : Nat} {o : Oper} (ho : all[k]? = some o) (h : SL P all (loudQ C (SLTS P all C zs Q r)) [o] σ w) : SLTS P all C zs Q (.l k r) σ w := ⟨o, ho, h⟩
theorem ts_l2 {k k2 : Nat} {o o2 : Oper} (ho : all[k]? = some o) (ho2 : all[k2]? = some o2) (h : SL P all (loudQ C (SLTS P all C zs Q r)) [o] σ w) (h2 : SL P all (loudQ C (SLTS P all C zs Q r2)) [o2] σ w) :
    SLTS P all C zs Q (.l2 k r k2 r2) σ w := ⟨⟨o, ho, h⟩, ⟨o2, ho2, h2⟩⟩
end
end Go.Nm
namespace Go.Nm
open Go
section
variable {P : Program} {ops : Array Oper} {md : Region.Mode} {C : World -> Prop} {zs fr : List Nat}
/-- No store of the row has come. -/
def Unl (zs : List Nat) (listed : Array Bool) : Prop := ∀ z ∈ zs, listed.getD z false = false
theorem Unl.of {listed : Array Bool} {i : Nat} (h : Unl zs (listed.setIfInBounds i true)) : Unl zs listed := fun z hz => by
  cases q : listed.getD z false with
  | false => rfl
  | true =>
    have := h z hz
    rw [getD_set_true q] at this
    cases this
theorem Unl.set {listed : Array Bool} {i : Nat} (h : Unl zs listed) (hi : i ∉ zs) : Unl zs (listed.setIfInBounds i true) := fun z hz => by
  rw [getD_set_ne false (fun e : i = z => hi (e ▸ hz))]
  exact h z hz
theorem downs_of {listed : Array Bool} {z : Nat} (h : ClosedL md ops listed) (hz : listed.getD z false = true) : ∀ i ∈ downs md ops z, listed.getD i false = true := by
  unfold downs
  generalize hacc : onOf md ops z = acc
  have h0 : ∀ i ∈ acc, listed.getD i false = true := fun i hi => h z hz i (by rw [hacc]; exact hi)
  clear hacc
  generalize (List.range ops.size).reverse = l
  induction l generalizing acc with
  | nil => exact h0
  | cons j r ih =>
    rw [List.foldl_cons]
    refine ih _ fun i hi => ?_
    cases hc : acc.contains j with
    | false => rw [hc] at hi; exact h0 i hi
    | true =>
      rw [hc] at hi
      rcases List.mem_append.1 hi with hi | hi
      · exact h j (h0 j (by simpa using hc)) i hi
      · exact h0 i hi
def wpAnyU (P : Program) (md : Region.Mode) (ops : Array Oper) (C : World -> Prop) (zs : List Nat) (Q : Act -> World -> Prop) : Nat -> Array Bool -> Act -> World -> Prop
  | 0, listed, a, w => Region.ready md ops listed = [] /\ Q a w
  | fuel + 1, listed, a, w =>
    (Region.ready md ops listed = [] -> Q a w) ∧
    ∀ i ∈ Region.ready md ops listed, lOp P ops i (fun a' w' => (i ∉ zs -> Unl zs listed -> C w') /\ wpAnyU P md ops C zs Q fuel (listed.setIfInBounds i true) a' w') a w
theorem wpAny_of_U {r : Option Nat} {Q : Act -> World -> Prop} {Q' : Exit -> Act -> World -> Prop} (hQ : ∀ a w, Q a w -> Q' .normal a w) : ∀ (fuel : Nat) (listed : Array Bool) (a : Act) (w : World),
    wpAnyU P md ops C zs Q fuel listed a w -> wpAnyIn (FR r) 0 P md ops Q' fuel listed a w
  | 0, _, _, _, h => ⟨h.1, hQ _ _ h.2⟩
  | fuel + 1, _, _, _, h => ⟨fun h0 => hQ _ _ (h.1 h0), fun i hi => lOp_wpOp (lOp_mono (fun a' w' hh => wpAny_of_U hQ fuel _ a' w' hh.2) (h.2 i hi))⟩
/-- An operation that gives the same value at any time of a class D of worlds comes first; D holds till a store comes, if this one comes ahead of the stores, or always. -/
theorem wpAnyU_first {Q : Act -> World -> Prop} {D : World -> Prop} {i : Nat} {oi : Oper} {v : Value} (hi : ops[i]? = some oi) (hz : i ∉ zs) (hD : (∀ w, D w) ∨ ((∀ z ∈ zs, i ∈ downs md ops z) /\ ∀ w, C w -> D w)) (hsel : ∀ (j : Nat) (o : Oper) cs b, ops[j]? = some o -> o.op ≠ .select cs b) :
    ∀ (fuel : Nat) (listed : Array Bool) (a : Act) (w : World), (Unl zs listed -> C w) -> ClosedL md ops listed →
      (∀ j oj, ops[j]? = some oj -> j ≠ i -> listed.getD j true = false -> (∀ e ∈ oj.after, Region.binds md e = true -> e.on ≠ i) -> oi.apart ops oj = true) →
      i ∈ Region.ready md ops listed -> YV P ops D oi v a →
      wpAnyU P md ops C zs Q fuel (listed.setIfInBounds i true) (a.put oi.dst v) w -> wpAnyU P md ops C zs Q (fuel + 1) listed a w := by
  have hun : ∀ {listed : Array Bool}, i ∈ Region.ready md ops listed -> ¬ listed.getD i false = true := fun {listed} hr h1 => by
    have h0 := (mem_ready.1 hr).1
    rcases Nat.lt_or_ge i listed.size with h' | h'
    · simp [h'] at h0 h1; rw [h0] at h1; cases h1
    · simp [Array.getElem?_eq_none h'] at h1
  have hdw : ∀ {listed : Array Bool} {w : World}, ClosedL md ops listed -> i ∈ Region.ready md ops listed -> (Unl zs listed -> C w) -> D w := fun {listed w} hcl hr hC => by
    rcases hD with h | ⟨hb, h⟩
    · exact h w
    · refine h w (hC fun z hz' => ?_)
      cases q : listed.getD z false with
      | false => rfl
      | true => exact absurd (downs_of hcl q i (hb z hz')) (hun hr)
  intro fuel
  induction fuel with
  | zero =>
    intro listed a w hC hcl _ hr hy H
    refine ⟨fun h => (by rw [h] at hr; cases hr), fun j hj => ?_⟩
    by_cases hji : j = i
    · subst hji; exact hy.lOp hi (hdw hcl hr hC) ⟨fun _ => hC, H⟩
    · have := ready_mono hj hji
      rw [H.1] at this
      cases this
  | succ fuel ih =>
    intro listed a w hC hcl hfree hr hy H
    refine ⟨fun h => (by rw [h] at hr; cases hr), fun j hj => ?_⟩
    by_cases hji : j = i
    · subst hji; exact hy.lOp hi (hdw hcl hr hC) ⟨fun _ => hC, H⟩
    · have h1 := H.2 j (ready_mono hj hji)
      obtain ⟨hjun, oj, hoj, hall⟩ := mem_ready.1 hj
      have hno := hun hr
      have hnot : ∀ e ∈ oj.after, Region.binds md e = true -> e.on ≠ i := fun e he hb heq => by
        have h1 := hall e he hb
        rw [heq] at h1
        exact hno h1
      have h2 := lOp_put hoj (hfree j oj hoj hji hjun hnot) (fun cs b => hsel i oi cs b hi) (fun cs b => hsel j oj cs b hoj) hy h1
      have hfree' : ∀ k ok, ops[k]? = some ok -> k ≠ i -> (listed.setIfInBounds j true).getD k true = false →
          (∀ e ∈ ok.after, Region.binds md e = true -> e.on ≠ i) -> oi.apart ops ok = true := fun k ok hk hki hun hno => by
        refine hfree k ok hk hki ?_ hno
        by_cases hjk : j = k
        · subst hjk; exact hjun
        · rw [getD_set_ne true hjk] at hun; exact hun
      have hjs : (listed.setIfInBounds j true).getD j false = true := by
        have hlt : j < listed.size := by
          rcases Nat.lt_or_ge j listed.size with h' | h'
          · exact h'
          · simp [Array.getElem?_eq_none h'] at hjun
        simp [hlt]
      refine lOp_mono (fun a' w' h3 => ⟨fun hjz hu => h3.2.1 hjz (hu.set hz), ih (listed.setIfInBounds j true) a' w' (fun hu => ?_) (hcl.set hj) hfree' (ready_mono hr (Ne.symm hji)) h3.1 ?_⟩) h2
      · have hjz : j ∉ zs := fun q => by
          have := hu j q
          rw [hjs] at this; cases this
        exact h3.2.1 hjz (Unl.set hu.of hz)
      · rw [Array.setIfInBounds_comm _ _ hji]
        exact h3.2.2
def canonTU (md : Region.Mode) (ops : Array Oper) (zs fr : List Nat) : Ord -> Nat -> Array Bool -> Bool
  | .nil, 0, listed => canonRow md ops zs listed
  | .q k r, n + 1, listed => (Region.ready md ops listed).contains k && Region.free md ops listed k && !zs.contains k && (fr.contains k || zs.all (fun z => (downs md ops z).contains k)) && canonTU md ops zs fr r n (listed.setIfInBounds k true)
  | .l k r, n + 1, listed => (Region.ready md ops listed == [k]) && !zs.contains k && canonTU md ops zs fr r n (listed.setIfInBounds k true)
  | .l2 k1 r1 k2 r2, n + 1, listed => (Region.ready md ops listed == [k1, k2]) && !zs.contains k1 && !zs.contains k2 && canonTU md ops zs fr r1 n (listed.setIfInBounds k1 true) && canonTU md ops zs fr r2 n (listed.setIfInBounds k2 true)
  | _, _, _ => false
def runTU (P : Program) (ops : Array Oper) (C : World -> Prop) (zs fr : List Nat) (Q : Act -> World -> Prop) : Ord -> Act -> World -> Prop
  | .nil, a, w => runRow P ops Q zs a w
  | .q k r, a, w => ∃ o v, ops[k]? = some o /\ YV P ops (fun w => fr.contains k = false -> C w) o v a /\ runTU P ops C zs fr Q r (a.put o.dst v) w
  | .l k r, a, w => lOp P ops k (fun a' w' => C w' /\ runTU P ops C zs fr Q r a' w') a w
  | .l2 k1 r1 k2 r2, a, w => lOp P ops k1 (fun a' w' => C w' /\ runTU P ops C zs fr Q r1 a' w') a w /\ lOp P ops k2 (fun a' w' => C w' /\ runTU P ops C zs fr Q r2 a' w') a w
  | .l3 _ _ _ _ _ _, _, _ => False
theorem wpAnyU_row {Q : Act -> World -> Prop} : ∀ (l : List Nat), (∀ z ∈ l, z ∈ zs) -> ∀ (listed : Array Bool) (a : Act) (w : World), canonRow md ops l listed = true -> runRow P ops Q l a w -> wpAnyU P md ops C zs Q l.length listed a w
  | [], _, _, _, _, hB, h => ⟨by simpa [canonRow] using hB, h⟩
  | z :: r, hz, listed, a, w, hB, h => by
    simp only [canonRow, Bool.and_eq_true, beq_iff_eq] at hB
    obtain ⟨hr, hB'⟩ := hB
    refine ⟨fun h0 => by rw [hr] at h0; simp at h0, fun i hi => ?_⟩
    rw [hr] at hi
    obtain rfl : i = z := by simpa using hi
    exact lOp_mono (fun a' w' hh => ⟨fun h => absurd (hz i (by simp)) h, wpAnyU_row r (fun y hy => hz y (by simp [hy])) _ _ _ hB' hh⟩) h
theorem wpAnyU_canonT {Q : Act -> World -> Prop} (hs : Region.noSelect ops = true) : ∀ (l : Ord) (n : Nat) (listed : Array Bool) (a : Act) (w : World), C w -> ClosedL md ops listed →
    canonTU md ops zs fr l n listed = true -> runTU P ops C zs fr Q l a w -> wpAnyU P md ops C zs Q (n + zs.length) listed a w
  | .nil, 0, listed, a, w, _, _, hB, h => by
    rw [Nat.zero_add]
    exact wpAnyU_row zs (fun _ h => h) _ _ _ (by simpa only [canonTU] using hB) h
  | .q k r, n + 1, listed, a, w, hC, hcl, hB, h => by
    simp only [canonTU, Bool.and_eq_true, Bool.not_eq_true', Bool.or_eq_true] at hB
    obtain ⟨⟨⟨⟨hr, hf⟩, hz⟩, hb⟩, hB'⟩ := hB
    obtain ⟨o, v, h0, hy, hK⟩ := h
    have hr' : k ∈ Region.ready md ops listed := by simpa using hr
    rw [Nat.succ_add]
    refine wpAnyU_first (D := fun w => fr.contains k = false -> C w) h0 (by simpa using hz) ?_ (Region.noSelect_spec hs) (n + zs.length) listed a w (fun _ => hC) hcl (Region.free_spec h0 hf) hr' hy (wpAnyU_canonT hs r n _ _ _ hC (hcl.set hr') hB' hK)
    rcases hb with hb | hb
    · exact .inl fun w q => by rw [hb] at q; cases q
    · exact .inr ⟨fun z hz => by simpa using List.all_eq_true.1 hb z hz, fun w hw _ => hw⟩
  | .l k r, n + 1, listed, a, w, hC, hcl, hB, h => by
    simp only [canonTU, Bool.and_eq_true, beq_iff_eq] at hB
    obtain ⟨⟨hr, _⟩, hB'⟩ := hB
    rw [Nat.succ_add]
    refine ⟨fun h0 => by rw [hr] at h0; simp at h0, fun i hi => ?_⟩
    have hc := hcl.set hi
    rw [hr] at hi
    obtain rfl : i = k := by simpa using hi
    exact lOp_mono (fun a' w' hh => ⟨fun _ _ => hh.1, wpAnyU_canonT hs r n _ _ _ hh.1 hc hB' hh.2⟩) h
  | .l2 k1 r1 k2 r2, n + 1, listed, a, w, hC, hcl, hB, h => by
    simp only [canonTU, Bool.and_eq_true, beq_iff_eq] at hB
    obtain ⟨⟨⟨⟨hr, _⟩, _⟩, hB1⟩, hB2⟩ := hB
    rw [Nat.succ_add]
    refine ⟨fun h0 => by rw [hr] at h0; simp at h0, fun i hi => ?_⟩
    have hc := hcl.set hi
    rw [hr] at hi
    rcases List.mem_cons.1 hi with rfl | hi
    · exact lOp_mono (fun a' w' hh => ⟨fun _ _ => hh.1, wpAnyU_canonT hs r1 n _ _ _ hh.1 hc hB1 hh.2⟩) h.1
    · obtain rfl : i = k2 := by simpa using hi
      exact lOp_mono (fun a' w' hh => ⟨fun _ _ => hh.1, wpAnyU_canonT hs r2 n _ _ _ hh.1 hc hB2 hh.2⟩) h.2
  | .nil, _ + 1, _, _, _, _, _, hB, _ => by simp [canonTU] at hB
  | .q _ _, 0, _, _, _, _, _, hB, _ => by simp [canonTU] at hB
  | .l _ _, 0, _, _, _, _, _, hB, _ => by simp [canonTU] at hB
  | .l2 _ _ _ _, 0, _, _, _, _, _, hB, _ => by simp [canonTU] at hB
  | .l3 _ _ _ _ _ _, _, _, _, _, _, _, _, h => h.elim
end
def SLTU (P : Program) (all : List Oper) (C : World -> Prop) (zs fr : List Nat) (Q : Post) : Ord -> Env -> World -> Prop
  | .nil, σ, w => SLR P all Q zs σ w
  | .q k r, σ, w => ∃ o v, all[k]? = some o /\ (bif wantedE all o σ then ∀ w', (fr.contains k = false -> C w') -> (execOp (ev σ) o).run P w' = .ok (.value v) w' else v = undef) /\ SLTU P all C zs fr Q r (updo σ o.dst v) w
  | .l k r, σ, w => ∃ o, all[k]? = some o /\ SL P all (loudQ C (SLTU P all C zs fr Q r)) [o] σ w
  | .l2 k1 r1 k2 r2, σ, w => (∃ o, all[k1]? = some o /\ SL P all (loudQ C (SLTU P all C zs fr Q r1)) [o] σ w) /\ ∃ o, all[k2]? = some o /\ SL P all (loudQ C (SLTU P all C zs fr Q r2)) [o] σ w
  | .l3 _ _ _ _ _ _, _, _ => False
theorem SLTU_runTU {P : Program} {ds : List Deferred} {n : Nat} {C : World -> Prop} {zs fr : List Nat} {Q : Post} (all : List Oper) (hok : ∀ o ∈ all, ∀ d, o.dst = some d -> d < n) : ∀ (l : Ord) (σ : Env) (w : World) (a : Act), Fr ds n σ a →
    SLTU P all C zs fr Q l σ w -> runTU P all.toArray C zs fr (fun a' w' => ∃ σ', Fr ds n σ' a' /\ Q .normal σ' w') l a w
  | .nil, σ, w, a, ha, h => SLR_run all hok zs σ w a ha h
  | .q k r, σ, w, a, ha, ⟨o, v, ho, hv, hK⟩ => by
    have hmem : o ∈ all := List.mem_of_getElem? ho
    refine ⟨o, v, by simpa using ho, ?_, SLTU_runTU all hok r _ _ _ (ha.puto (hok o hmem) v) hK⟩
    unfold YV
    rw [wanted_eq ha all hok, ha.eval]
    cases hw : wantedE all o σ with
    | true => rw [hw] at hv; exact .inl ⟨rfl, hv⟩
    | false => rw [hw] at hv; exact .inr ⟨rfl, hv⟩
  | .l k r, σ, w, a, ha, ⟨o, ho, h⟩ => SL_lOp all hok (fun σ' w' a' ha' h' => SLTU_runTU all hok r σ' w' a' ha' h') ho ha h
  | .l2 k1 r1 k2 r2, σ, w, a, ha, ⟨⟨o, ho, h⟩, ⟨o', ho', h'⟩⟩ =>
    ⟨SL_lOp all hok (fun σ' w' a' ha' h' => SLTU_runTU all hok r1 σ' w' a' ha' h') ho ha h, SL_lOp all hok (fun σ' w' a' ha' h' => SLTU_runTU all hok r2 σ' w' a' ha' h') ho' ha h'⟩
  | .l3 _ _ _ _ _ _, _, _, _, _, h => h.elim
theorem W.drawTU {r : Option Nat} {P : Program} {n : Nat} {Q : Post} {σ : Env} {w : World} {id : Nat} {l : List Oper} (C : World -> Prop) (order : Ord) (m : Nat) (zs fr : List Nat) (hm : P.follows .mixedOrders = true)
    (hB : (Region.noSelect l.toArray && Nat.beq (m + zs.length) l.length && canonTU .any l.toArray zs fr order m (Array.replicate l.length false)) = true)
    (hok : okDst n l = true) (h : ∀ w1, Ext w w1 -> C w1 /\ SLTU P l C zs fr Q order σ w1) : WR r P n (.region id l.toArray true) Q σ w := by
  intro ds a ha
  simp only [Bool.and_eq_true] at hB
  obtain ⟨⟨hs, hl⟩, hB⟩ := hB
  have hl' := Nat.eq_of_beq_eq_true hl
  obtain ⟨hC, hS⟩ := h w.drew (.drew w)
  refine wpIn_region_any hm (wpAny_of_U (C := C) (zs := zs) (Q := fun a' w' => ∃ σ', Fr ds n σ' a' /\ Q .normal σ' w') (fun _ _ h => h) _ _ _ _ ?_)
  have := wpAnyU_canonT (P := P) (md := .any) (Q := fun a' w' => ∃ σ', Fr ds n σ' a' /\ Q .normal σ' w') hs order m (Array.replicate l.length false) a w.drew hC (ClosedL.none _) hB (SLTU_runTU l (okDst_spec hok) order σ w.drew a ha hS)
  rw [hl'] at this
  simpa using this
section
variable {P : Program} {all : List Oper} {C : World -> Prop} {zs fr : List Nat} {Q : Post} {r r2 : Ord} {σ : Env} {w : World}
theorem tu_nil (h : SLR P all Q zs σ w) : SLTU P all C zs fr Q .nil σ w := h
theorem tu_q {k d : Nat} {op : Op} {ty : TypeId} {pos : String} {af : Array Edge} {v : Value} (hn : fr.contains k = false) (ho : all[k]? = some ⟨some d, op, ty, pos, af, none⟩)
    (h : ∀ w', C w' -> (execOp (ev σ) ⟨some d, op, ty, pos, af, none⟩).run P w' = .ok (.value v) w') (hk : SLTU P all C zs fr Q r (upd σ d v) w) : SLTU P all C zs fr Q (.q k r) σ w :=
  ⟨_, v, ho, fun w' hw => h w' (hw hn), hk⟩
theorem tu_f {k d : Nat} {op : Op} {ty : TypeId} {pos : String} {af : Array Edge} {v : Value} (ho : all[k]? = some ⟨some d, op, ty, pos, af, none⟩)
    (h : ∀ w', (execOp (ev σ) ⟨some d, op, ty, pos, af, none⟩).run P w' = .ok (.value v) w') (hk : SLTU P all C zs fr Q r (upd σ d v) w) : SLTU P all C zs fr Q (.q k r) σ w :=
  ⟨_, v, ho, fun w' _ => h w', hk⟩
end
end Go.Nm
namespace Go.Nm
open Go
theorem perm_sub {α : Type} [DecidableEq α] : ∀ (a b : List α), a.Nodup -> (∀ x ∈ a, x ∈ b) -> b.length <= a.length -> a.Perm b
  | [], b, _, _, h => by
    have : b = [] := List.length_eq_zero_iff.1 (by simpa using h)
    rw [this]
  | x :: a, b, hn, hs, h => by
    rw [List.nodup_cons] at hn
    have hx := hs x (by simp)
    refine List.Perm.trans (List.Perm.cons x (perm_sub a (b.erase x) hn.2 (fun y hy => ?_) ?_)) (List.perm_cons_erase hx).symm
    · exact (List.mem_erase_of_ne (fun e : y = x => hn.1 (by rw [← e]; exact hy))).2 (hs y (by simp [hy]))
    · rw [List.length_erase_of_mem hx]
      rw [List.length_cons] at h
      omega
theorem inj_map {α β : Type} {f : α -> β} : ∀ {l : List α}, (l.map f).Nodup -> ∀ {x y}, x ∈ l -> y ∈ l -> f x = f y -> x = y
  | [], _, _, _, h, _, _ => by cases h
  | z :: l, hn, x, y, hx, hy, e => by
    rw [List.map_cons, List.nodup_cons] at hn
    rcases List.mem_cons.1 hx with hx | hx <;> rcases List.mem_cons.1 hy with hy | hy
    · rw [hx, hy]
    · exact absurd (List.mem_map.2 ⟨y, hy, by rw [← e, hx]⟩) hn.1
    · exact absurd (List.mem_map.2 ⟨x, hx, by rw [e, hy]⟩) hn.1
    · exact inj_map hn.2 hx hy e
theorem St.perm {w0 w : World} {L L' R : List Chunk} (h : St w0 w L R) (p : L.Perm L') : St w0 w L' R := by
  refine ⟨h.kp, ?_⟩
  have hS := h.sep
  rw [Sep.iff] at hS ⊢
  have q : (L ++ R).Perm (L' ++ R) := p.append_right R
  exact ⟨fun c hc => hS.1 c (q.mem_iff.2 hc), (q.pairwise_iff fun h => Apart.symm h).1 hS.2⟩
/-- What is allocated: where its pointer goes, its type, its cells. -/
abbrev Alc := Nat × TypeId × List Value
def mixE (ds : List Nat) (g : Nat -> Value) (σ : Env) : Env := fun t => bif ds.contains t then g t else σ t
theorem beqF {t d : Nat} (e : t ≠ d) : Nat.beq t d = false := by
  rw [← Bool.not_eq_true]
  exact fun hb => e (Nat.eq_of_beq_eq_true hb)
theorem mix_upd {ds : List Nat} {g : Nat -> Value} {σ : Env} {d : Nat} {v : Value} (h : ds.contains d = false) : upd (mixE ds g σ) d v = mixE ds g (upd σ d v) := by
  funext t
  show (bif Nat.beq t d then v else bif ds.contains t then g t else σ t) = bif ds.contains t then g t else bif Nat.beq t d then v else σ t
  by_cases e : t = d
  · subst e
    rw [h, Nat.beq_refl]
    rfl
  · rw [beqF e]
    rfl
theorem mix_put {ds : List Nat} {g : Nat -> Value} {σ : Env} {d : Nat} {v : Value} (h : ds.contains d = true) : upd (mixE ds g σ) d v = mixE ds (fun t => bif Nat.beq t d then v else g t) σ := by
  funext t
  show (bif Nat.beq t d then v else bif ds.contains t then g t else σ t) = bif ds.contains t then (bif Nat.beq t d then v else g t) else σ t
  by_cases e : t = d
  · subst e
    rw [h, Nat.beq_refl]
    rfl
  · rw [beqF e]
    rfl
def ptrOf (b : Nat) : Value := .pointer (some ⟨b, 0, none⟩)
/-- Behind all of them: each has its block. -/
def FinA : List Alc -> List Chunk -> Env -> (List Chunk -> Env -> Prop) -> Prop
  | [], acc, σ, K => K acc σ
  | (d, t, z) :: r, acc, σ, K => ∀ b, FinA r (acc ++ [cBlk b z t]) (upd σ d (.pointer (some ⟨b, 0, none⟩))) K
theorem FinA.go {K : List Chunk -> Env -> Prop} (b : Nat -> Nat) : ∀ (sp : List Alc) (acc : List Chunk) (σ : Env), FinA sp acc σ K -> K (acc ++ sp.map fun x => cBlk (b x.1) x.2.2 x.2.1) (sp.foldl (fun σ x => upd σ x.1 (ptrOf (b x.1))) σ)
  | [], acc, σ, h => by simpa [FinA] using h
  | (d, t, z) :: r, acc, σ, h => by
    have := FinA.go b r _ _ (h (b d))
    rw [List.append_assoc] at this
    exact this
theorem fold_mix (b : Nat -> Nat) : ∀ (sp : List Alc) (σ : Env), sp.foldl (fun σ x => upd σ x.1 (ptrOf (b x.1))) σ = mixE (sp.map (·.1)) (fun t => ptrOf (b t)) σ
  | [], σ => rfl
  | (d, t, z) :: r, σ => by
    rw [List.foldl_cons, fold_mix b r]
    funext k
    show (bif (r.map fun x : Alc => x.1).contains k then ptrOf (b k) else bif Nat.beq k d then ptrOf (b d) else σ k) = bif (d :: r.map fun x : Alc => x.1).contains k then ptrOf (b k) else σ k
    rw [List.contains_cons]
    by_cases e : k = d
    · subst e
      rw [Nat.beq_refl, beq_self_eq_true, Bool.true_or]
      cases (List.map (fun x : Alc => x.1) r).contains k <;> rfl
    · have h2 : (k == d) = false := beq_eq_false_iff_ne.2 e
      rw [beqF e, h2, Bool.false_or]
      rfl
/-- The check: what may come at each time is the next one of the row, or a block. -/
def canonA (md : Region.Mode) (ops : Array Oper) (A : List Nat) (tail : Ord) (nt : Nat) : Nat -> List (Nat × Bool) -> Array Bool -> Bool
  | 0, [], listed => canonT md ops tail nt listed
  | n + 1, [], listed => !(Region.ready md ops listed).isEmpty && (Region.ready md ops listed).all fun i => A.contains i && canonA md ops A tail nt n [] (listed.setIfInBounds i true)
  | n + 1, (k, true) :: r, listed => (Region.ready md ops listed).contains k && Region.free md ops listed k && canonA md ops A tail nt n r (listed.setIfInBounds k true)
  | n + 1, (k, false) :: r, listed => !(Region.ready md ops listed).isEmpty && (Region.ready md ops listed).all fun i => (i == k && canonA md ops A tail nt n r (listed.setIfInBounds k true)) || (!(i == k) && A.contains i && canonA md ops A tail nt n ((k, false) :: r) (listed.setIfInBounds i true))
  | 0, _ :: _, _ => false
section
variable (P : Program) (all : List Oper) (C : World -> Prop) (w0 : World) (R : List Chunk) (ds : List Nat) (Fin : Env -> List Chunk -> Prop)
/-- The row, whatever blocks there are beside. -/
def SLA : List (Nat × Bool) -> Env -> List Chunk -> Prop
  | [], σ, L => (∀ Lx w, St w0 w (L ++ Lx) R -> C w) /\ Fin σ L
  | (k, true) :: r, σ, L => (∀ Lx w, St w0 w (L ++ Lx) R -> C w) /\ ∃ o d v, all[k]? = some o /\ o.dst = some d /\ o.guard = none /\ ds.contains d = false /\ (∀ g w', C w' -> (execOp (ev (mixE ds g σ)) o).run P w' = .ok (.value v) w') /\ SLA r (upd σ d v) L
  | (k, false) :: r, σ, L => (∀ Lx w, St w0 w (L ++ Lx) R -> C w) /\ ∃ o, all[k]? = some o /\ ∀ g Lx w, St w0 w (L ++ Lx) R -> SL P all (loudQ C fun σ' w' => ∃ σ'' L', σ' = mixE ds g σ'' /\ St w0 w' (L' ++ Lx) R /\ SLA r σ'' L') [o] (mixE ds g σ) w
end
theorem SLA.cl {P : Program} {all : List Oper} {C : World -> Prop} {w0 : World} {R : List Chunk} {ds : List Nat} {Fin : Env -> List Chunk -> Prop} {r : List (Nat × Bool)} {σ : Env} {L : List Chunk} (h : SLA P all C w0 R ds Fin r σ L) : ∀ Lx w, St w0 w (L ++ Lx) R -> C w := by
  match r, h with
  | [], h => exact h.1
  | (k, true) :: r, h => exact h.1
  | (k, false) :: r, h => exact h.1
theorem listed_lt {md : Region.Mode} {ops : Array Oper} {listed : Array Bool} {i : Nat} (h : i ∈ Region.ready md ops listed) : listed.getD i true = false := (mem_ready.1 h).1
/-- How far the allocations are. -/
structure AlS (P : Program) (all : List Oper) (sp : List (Nat × Alc)) (done : List Alc) (g : Nat -> Value) (Lx : List Chunk) : Prop where
  ex : ∃ b : Nat -> Nat, (∀ x ∈ done, g x.1 = ptrOf (b x.1)) /\ Lx.Perm (done.map fun x => cBlk (b x.1) x.2.2 x.2.1)
theorem wpAnyC_A {P : Program} {ds : List Deferred} {n : Nat} {C : World -> Prop} {Q : Post} {md : Region.Mode} (all : List Oper) (hok : ∀ o ∈ all, ∀ d, o.dst = some d -> d < n) (hs : Region.noSelect all.toArray = true) (w0 : World) (R : List Chunk) (sp : List (Nat × Alc)) (tail : Ord) (nt : Nat)
    (hal : ∀ x ∈ sp, ∃ ty pos af, all[x.1]? = some ⟨some x.2.1, .alloc x.2.2.1, ty, pos, af, none⟩ /\ ∃ z, (P.info? x.2.2.1).map (·.zero) = some (some z) /\ z.cells = x.2.2.2.toArray) (hnd : (sp.map fun x => x.2.1).Nodup) (hnd1 : (sp.map fun x => x.1).Nodup) :
    ∀ (m : Nat) (r : List (Nat × Bool)) (listed : Array Bool) (a : Act) (w : World) (σ : Env) (g : Nat -> Value) (L Lx : List Chunk) (done : List (Nat × Alc)) (b : Nat -> Nat),
      (∀ x ∈ done, x ∈ sp /\ listed.getD x.1 true = true) -> done.Nodup -> (∀ x ∈ done, g x.2.1 = ptrOf (b x.2.1)) -> Lx.Perm (done.map fun x => cBlk (b x.2.1) x.2.2.2 x.2.2.1) →
      m + done.length = (r.length + sp.length) →
      Fr ds n (mixE (sp.map fun x => x.2.1) g σ) a -> St w0 w (L ++ Lx) R →
      canonA md all.toArray (sp.map fun x => x.1) tail nt m r listed = true →
      SLA P all C w0 R (sp.map fun x => x.2.1) (fun σ L => FinA (sp.map fun x => x.2) [] σ fun acc σ => ∀ w, St w0 w (L ++ acc) R -> SLT P all C Q tail σ w) r σ L →
      wpAnyC P md all.toArray C (fun a' w' => ∃ σ', Fr ds n σ' a' /\ Q .normal σ' w') (m + nt) listed a w := by
  intro m
  induction m with
  | zero =>
    intro r listed a w σ g L Lx done b hd hdn hg hp hm ha H hB hS
    cases r with
    | cons x r => simp [canonA] at hB
    | nil =>
      simp only [canonA] at hB
      obtain ⟨hcl, hF⟩ := hS
      have hF := FinA.go b _ _ _ hF
      -- all of them are done
      have hperm : done.Perm sp := by
        classical
        exact perm_sub done sp hdn (fun x hx => (hd x hx).1) (by simp at hm; omega)
      have hL : Lx.Perm ((sp.map fun x => x.2).map fun x : Alc => cBlk (b x.1) x.2.2 x.2.1) := by
        rw [List.map_map]
        exact hp.trans (hperm.map _)
      have hσ : mixE (sp.map fun x => x.2.1) g σ = (sp.map fun x => x.2).foldl (fun σ x => upd σ x.1 (ptrOf (b x.1))) σ := by
        rw [fold_mix, List.map_map]
        funext t
        unfold mixE
        by_cases e : (sp.map fun x => x.2.1).contains t = true
        · have e' : (List.map ((fun x : Alc => x.1) ∘ fun x : Nat × Alc => x.2) sp).contains t = true := e
          rw [e, e']
          obtain ⟨x, hx, rfl⟩ := List.mem_map.1 (List.contains_iff_mem.1 e)
          exact hg x (hperm.mem_iff.2 hx)
        · have e1 : (sp.map fun x => x.2.1).contains t = false := by simpa using e
          have e' : (List.map ((fun x : Alc => x.1) ∘ fun x : Nat × Alc => x.2) sp).contains t = false := e1
          rw [e1, e']
          rfl
      rw [hσ] at ha
      rw [List.nil_append] at hF
      have H2 := H.perm (hL.append_left L)
      rw [Nat.zero_add]
      exact wpAnyC_canonT hs tail nt listed a w (hcl _ _ H) hB (SLT_runT all hok tail _ w a ha (hF w H2))
  | succ m ih =>
    intro r listed a w σ g L Lx done b hd hdn hg hp hm ha H hB hS
    have hC := hS.cl _ _ H
    rw [show m + 1 + nt = (m + nt) + 1 by omega]
    -- a block
    have alc : ∀ i, i ∈ Region.ready md all.toArray listed -> (sp.map fun x => x.1).contains i = true -> canonA md all.toArray (sp.map fun x => x.1) tail nt m r (listed.setIfInBounds i true) = true →
        lOp P all.toArray i (fun a' w' => C w' /\ wpAnyC P md all.toArray C (fun a' w' => ∃ σ', Fr ds n σ' a' /\ Q .normal σ' w') (m + nt) (listed.setIfInBounds i true) a' w') a w := by
      intro i hi hiA hB'
      obtain ⟨⟨i', d, t, zs⟩, hx, e0⟩ := List.mem_map.1 (List.contains_iff_mem.1 hiA)
      dsimp only at e0
      subst e0
      obtain ⟨ty, pos, af, ho, z, hz, hzc⟩ := hal _ hx
      dsimp only at ho hz hzc
      have hnew : (i', d, t, zs) ∉ done := fun hh => by
        have h1 := (hd _ hh).2
        have h2 := listed_lt hi
        dsimp only at h1
        rw [h2] at h1
        cases h1
      have hdx : (sp.map fun x => x.2.1).contains d = true := List.contains_iff_mem.2 (List.mem_map.2 ⟨_, hx, rfl⟩)
      refine SL_lOp (C := C) (K := fun σ' w' => ∃ b', σ' = upd (mixE (sp.map fun x => x.2.1) g σ) d (ptrOf b') /\ St w0 w' (cBlk b' zs t :: (L ++ Lx)) R) (K' := fun a' w' => wpAnyC P md all.toArray C (fun a' w' => ∃ σ', Fr ds n σ' a' /\ Q .normal σ' w') (m + nt) (listed.setIfInBounds i' true) a' w') all hok ?_ ho ha ?_
      · rintro σ' w' a' ha' ⟨b', rfl, H'⟩
        rw [mix_put hdx] at ha'
        have hsz : i' < listed.size := by
          have h2 := listed_lt hi
          rcases Nat.lt_or_ge i' listed.size with h' | h'
          · exact h'
          · rw [Array.getD_eq_getD_getElem?, Array.getElem?_eq_none h'] at h2
            cases h2
        have hne : ∀ x ∈ done, x.2.1 ≠ d := fun x hxd e => by
          have h1 := (hd x hxd).1
          have : x = (i', d, t, zs) := inj_map hnd h1 hx e
          rw [this] at hxd
          exact hnew hxd
        refine ih r _ a' w' σ _ L (cBlk b' zs t :: Lx) ((i', d, t, zs) :: done) (fun k => if k = d then b' else b k) ?_ (List.nodup_cons.2 ⟨hnew, hdn⟩) ?_ ?_ (by rw [List.length_cons]; omega) ha' (H'.perm List.perm_middle.symm) hB' hS
        · intro x hx'
          rcases List.mem_cons.1 hx' with rfl | hx'
          · refine ⟨hx, ?_⟩
            dsimp only
            rw [Array.getD_eq_getD_getElem?, Array.getElem?_setIfInBounds_self_of_lt hsz]
            rfl
          · refine ⟨(hd x hx').1, ?_⟩
            by_cases e : i' = x.1
            · rw [← e, Array.getD_eq_getD_getElem?, Array.getElem?_setIfInBounds_self_of_lt hsz]
              rfl
            · rw [getD_set_ne true e]
              exact (hd x hx').2
        · intro x hx'
          rcases List.mem_cons.1 hx' with rfl | hx'
          · dsimp only
            rw [Nat.beq_refl, if_pos rfl]
            rfl
          · have e := hne x hx'
            rw [beqF e, if_neg e]
            exact hg x hx'
        · rw [List.map_cons, if_pos rfl]
          refine List.Perm.cons _ (hp.trans (List.Perm.of_eq (List.map_congr_left fun x hx' => ?_)))
          rw [if_neg (hne x hx')]
      · exact t_alloc (cs := zs) H hz hzc fun b' w' H' => ⟨hS.cl _ _ (H'.perm List.perm_middle.symm), b', rfl, H'⟩
    match r, hS, hB, hm, ih, alc with
    | [], hS, hB, hm, ih, alc =>
      simp only [canonA, Bool.and_eq_true, Bool.not_eq_true', List.isEmpty_eq_false_iff, List.all_eq_true] at hB
      exact ⟨fun h0 => absurd h0 hB.1, fun i hi => alc i hi (hB.2 i hi).1 (hB.2 i hi).2⟩
    | (k, true) :: r, ⟨_, o, d, v, ho, hdst, hgd, hdd, hv, hK⟩, hB, hm, ih, alc =>
      simp only [canonA, Bool.and_eq_true] at hB
      obtain ⟨⟨hr, hf⟩, hB'⟩ := hB
      have hmem : o ∈ all := List.mem_of_getElem? ho
      have ho' : all.toArray[k]? = some o := by simpa using ho
      refine wpAnyC_first ho' (Region.noSelect_spec hs) (m + nt) listed a w hC (Region.free_spec ho' hf) (by simpa using hr) (v := v) ?_ ?_
      · unfold YV
        rw [wanted_eq ha all hok, ha.eval]
        unfold wantedE
        rw [hgd]
        exact .inl ⟨rfl, fun w' hw' => hv g w' hw'⟩
      · rw [hdst]
        have ha2 := ha.put (hok o hmem d hdst) v
        rw [mix_upd hdd] at ha2
        refine ih r _ _ w _ g L Lx done b (fun x hx => ⟨(hd x hx).1, ?_⟩) hdn hg hp (by rw [List.length_cons] at hm; omega) ha2 H hB' hK
        by_cases e : k = x.1
        · have := listed_lt (md := md) (ops := all.toArray) (listed := listed) (i := k) (by simpa using hr)
          rw [e, (hd x hx).2] at this
          cases this
        · rw [getD_set_ne true e]
          exact (hd x hx).2
    | (k, false) :: r, ⟨hcl, o, ho, hK⟩, hB, hm, ih, alc =>
      simp only [canonA, Bool.and_eq_true, Bool.not_eq_true', List.isEmpty_eq_false_iff, List.all_eq_true] at hB
      refine ⟨fun h0 => absurd h0 hB.1, fun i hi => ?_⟩
      have hBi := hB.2 i hi
      by_cases e : i = k
      · subst e
        have hB' : canonA md all.toArray (sp.map fun x => x.1) tail nt m r (listed.setIfInBounds i true) = true := by
          simpa using hBi
        refine (SL_lOp (C := C) (K' := fun a' w' => wpAnyC P md all.toArray C (fun a' w' => ∃ σ', Fr ds n σ' a' /\ Q .normal σ' w') (m + nt) (listed.setIfInBounds i true) a' w') all hok ?_ ho ha (hK g Lx w H))
        rintro σ' w' a' ha' ⟨σ'', L', rfl, H', hS'⟩
        refine ih r _ a' w' σ'' g L' Lx done b (fun x hx => ⟨(hd x hx).1, ?_⟩) hdn hg hp (by rw [List.length_cons] at hm; omega) ha' H' hB' hS'
        by_cases e : i = x.1
        · have := listed_lt hi
          rw [e, (hd x hx).2] at this
          cases this
        · rw [getD_set_ne true e]
          exact (hd x hx).2
      · have h2 : (i == k) = false := beq_eq_false_iff_ne.2 e
        rw [h2] at hBi
        simp only [Bool.false_and, Bool.not_false, Bool.true_and, Bool.false_or, Bool.and_eq_true] at hBi
        exact alc i hi hBi.1 hBi.2
theorem W.drawA {r : Option Nat} {P : Program} {n : Nat} {Q : Post} {σ : Env} {w w0 : World} {id : Nat} {l : List Oper} {L R : List Chunk} (C : World -> Prop) (row : List (Nat × Bool)) (sp : List (Nat × Alc)) (tail : Ord) (nt : Nat) (hm : P.follows .mixedOrders = true)
    (hB : (Region.noSelect l.toArray && Nat.beq (row.length + sp.length + nt) l.length && canonA .any l.toArray (sp.map fun x => x.1) tail nt (row.length + sp.length) row (Array.replicate l.length false)) = true)
    (hok : okDst n l = true) (hal : ∀ x ∈ sp, ∃ ty pos af, l[x.1]? = some ⟨some x.2.1, .alloc x.2.2.1, ty, pos, af, none⟩ /\ ∃ z, (P.info? x.2.2.1).map (·.zero) = some (some z) /\ z.cells = x.2.2.2.toArray) (hnd : (sp.map fun x => x.2.1).Nodup) (hnd1 : (sp.map fun x => x.1).Nodup)
    (H : St w0 w L R) (h : SLA P l C w0 R (sp.map fun x => x.2.1) (fun σ L => FinA (sp.map fun x => x.2) [] σ fun acc σ => ∀ w, St w0 w (L ++ acc) R -> SLT P l C Q tail σ w) row σ L) : WR r P n (.region id l.toArray true) Q σ w := by
  intro ds a ha
  simp only [Bool.and_eq_true] at hB
  obtain ⟨⟨hs, hl⟩, hB⟩ := hB
  have hl' := Nat.eq_of_beq_eq_true hl
  refine wpIn_region_any hm (wpAny_of_C (C := C) (Q := fun a' w' => ∃ σ', Fr ds n σ' a' /\ Q .normal σ' w') (fun _ _ h => h) _ _ _ _ ?_)
  have hself : mixE (sp.map fun x => x.2.1) σ σ = σ := by
    funext t
    unfold mixE
    cases (sp.map fun x => x.2.1).contains t <;> rfl
  have := wpAnyC_A (P := P) (md := .any) (Q := Q) (C := C) (ds := ds) (n := n) l (okDst_spec hok) hs w0 R sp tail nt hal hnd hnd1 (row.length + sp.length) row (Array.replicate l.length false) a w.drew σ σ L [] [] (fun _ => 0) (by simp) List.nodup_nil (by simp) List.Perm.nil (by simp) (by rw [hself]; exact ha) (by rw [List.append_nil]; exact H.ext (.drew w)) hB h
  rw [hl'] at this
  simpa using this
section
variable {P : Program} {all : List Oper} {C : World -> Prop} {w0 : World} {R : List Chunk} {ds : List Nat} {Fin : Env -> List Chunk -> Prop} {r : List (Nat × Bool)} {σ : Env} {L : List Chunk}
theorem sa_nil (h1 : ∀ Lx w, St w0 w (L ++ Lx) R -> C w) (h : Fin σ L) : SLA P all C w0 R ds Fin [] σ L := ⟨h1, h⟩
theorem sa_q {k d : Nat} {op : Op} {ty : TypeId} {pos : String} {af : Array Edge} {v : Value} (h1 : ∀ Lx w, St w0 w (L ++ Lx) R -> C w) (ho : all[k]? = some ⟨some d, op, ty, pos, af, none⟩) (hd : ds.contains d = false)
    (h : ∀ g w', C w' -> (execOp (ev (mixE ds g σ)) ⟨some d, op, ty, pos, af, none⟩).run P w' = .ok (.value v) w') (hk : SLA P all C w0 R ds Fin r (upd σ d v) L) : SLA P all C w0 R ds Fin ((k, true) :: r) σ L :=
  ⟨h1, _, d, v, ho, rfl, rfl, hd, h, hk⟩
theorem sa_l {k : Nat} {o : Oper} (h1 : ∀ Lx w, St w0 w (L ++ Lx) R -> C w) (ho : all[k]? = some o) (h : ∀ g Lx w, St w0 w (L ++ Lx) R -> SL P all (loudQ C fun σ' w' => ∃ σ'' L', σ' = mixE ds g σ'' /\ St w0 w' (L' ++ Lx) R /\ SLA P all C w0 R ds Fin r σ'' L') [o] (mixE ds g σ) w) :
    SLA P all C w0 R ds Fin ((k, false) :: r) σ L := ⟨h1, o, ho, h⟩
end
end Go.Nm
namespace Go.Nm
open Go
section
variable {md : Region.Mode} {ops : Array Oper}
end
end Go.Nm
namespace Go.Nm
open Go
section
variable {P : Program} {ops : Array Oper} {md : Region.Mode} {C : World -> Prop} {z : Nat}
end
section
variable {P : Program} {all : List Oper} {C : World -> Prop} {z : Nat} {Q : Post} {r : List Nat} {σ : Env} {w : World}
end
end Go.Nm
namespace Go.Nm
open Go
section
variable {P : Program} {ops : Array Oper} {md : Region.Mode} {C : World -> Prop} {z : Nat}
end
section
variable {P : Program} {all : List Oper} {C : World -> Prop} {z : Nat} {Q : Post} {r r2 : Ord} {σ : Env} {w : World}
end
end Go.Nm
namespace Go.Nm
open Go
/-- As Q; a jump to the label: K. -/
def jumpQ (l : Nat) (K : Env -> World -> Prop) (Q : Post) : Post
  | .goto l', σ, w => l' = l /\ K σ w
  | e, σ, w => Q e σ w
section
variable {P : Program} {n : Nat} {Q : Post} {σ : Env} {w : World}
theorem W.goto {r : Option Nat} {l : Nat} (h : Q (.goto l) σ w) : WR r P n (.goto l) Q σ w := fun _ _ ha => wpIn_goto ⟨σ, ha, h⟩
theorem W.jump {c rest : Code} (l : Nat) (hf : findLabel c l = some rest) (I : Nat -> Env -> World -> Prop) (first : W P n c (jumpQ l (fun σ w => ∃ m, I m σ w) Q) σ w)
    (pass : ∀ m σ w, I m σ w -> W P n rest (jumpQ l (fun σ' w' => ∃ m', m' < m /\ I m' σ' w') Q) σ w) : W P n (.scope c) Q σ w := by
  intro ds a ha
  classical
  let J : Act -> World -> Prop := fun a w => ∃ m σ, Fr ds n σ a /\ I m σ w
  have hmin : ∀ a w, J a w -> ∃ m, (∃ σ, Fr ds n σ a /\ I m σ w) /\ ∀ m', (∃ σ, Fr ds n σ a /\ I m' σ w) -> m <= m' := by
    rintro a w ⟨m, σ, h1, h2⟩
    have key : ∀ k m, m <= k -> (∃ σ, Fr ds n σ a /\ I m σ w) -> ∃ m, (∃ σ, Fr ds n σ a /\ I m σ w) /\ ∀ m', (∃ σ, Fr ds n σ a /\ I m' σ w) -> m <= m' := by
      intro k
      induction k with
      | zero => intro m hm h; exact ⟨m, h, fun m' _ => by omega⟩
      | succ k ih =>
        intro m hm h
        by_cases hx : ∃ m', m' < m /\ ∃ σ, Fr ds n σ a /\ I m' σ w
        · obtain ⟨m', hlt, h'⟩ := hx
          exact ih m' (by omega) h'
        · exact ⟨m, h, fun m' h' => Nat.le_of_not_lt fun hlt => hx ⟨m', hlt, h'⟩⟩
    exact key m m (Nat.le_refl _) ⟨σ, h1, h2⟩
  let μ : Act -> World -> Nat := fun a w => if h : J a w then (hmin a w h).choose else 0
  refine (wpIn_wide (n := 0)).2 (wp_scope_jumps l J μ hf ?_ ?_)
  · refine wp_mono ((wpIn_wide (n := 0)).1 (first ds a ha)) ?_
    rintro e a' w' ⟨s, hs, h'⟩
    cases e with
    | goto l' => exact ⟨h'.1, h'.2.choose, s, hs, h'.2.choose_spec⟩
    | _ => exact ⟨s, hs, h'⟩
  · intro a w hJ
    obtain ⟨σ, hσ, hI⟩ := (hmin a w hJ).choose_spec.1
    refine wp_mono ((wpIn_wide (n := 0)).1 (pass _ σ w hI ds a hσ)) ?_
    rintro e a' w' ⟨s, hs, h'⟩
    cases e with
    | goto l' =>
      obtain ⟨rfl, m', hlt, hI'⟩ := h'
      have hJ' : J a' w' := ⟨m', s, hs, hI'⟩
      refine ⟨rfl, hJ', ?_⟩
      have h1 := (hmin a' w' hJ').choose_spec.2 m' ⟨s, hs, hI'⟩
      have e1 : μ a' w' = (hmin a' w' hJ').choose := dif_pos hJ'
      have e2 : μ a w = (hmin a w hJ).choose := dif_pos hJ
      rw [e1, e2]
      omega
    | _ => exact ⟨s, hs, h'⟩
/-- What is asked where a jump leads: some way to tell the passes. -/
def JG (P : Program) (n l : Nat) (R : Code) (Q : Post) (σ : Env) (w : World) : Prop :=
  ∃ I : Nat -> Env -> World -> Prop, ∃ m, I m σ w /\ ∀ m σ w, I m σ w -> W P n R (jumpQ l (fun σ' w' => ∃ m', m' < m /\ I m' σ' w') Q) σ w
theorem jumpQ_mono {l : Nat} {K K' : Env -> World -> Prop} (h : ∀ σ w, K σ w -> K' σ w) : ∀ e σ w, jumpQ l K Q e σ w -> jumpQ l K' Q e σ w := fun e σ w hh => by
  cases e with
  | goto l' => exact ⟨hh.1, h _ _ hh.2⟩
  | _ => exact hh
theorem W.jumpS {c R : Code} (l : Nat) (hf : findLabel c l = some R) (first : W P n c (jumpQ l (JG P n l R Q) Q) σ w) : W P n (.scope c) Q σ w :=
  W.jump l hf (fun m σ w => ∃ I : Nat -> Env -> World -> Prop, I m σ w /\ ∀ m σ w, I m σ w -> W P n R (jumpQ l (fun σ' w' => ∃ m', m' < m /\ I m' σ' w') Q) σ w)
    (W.mono first (jumpQ_mono fun _ _ ⟨I, m, h, p⟩ => ⟨m, I, h, p⟩))
    fun m σ w ⟨I, h, p⟩ => W.mono (p m σ w h) (jumpQ_mono fun _ _ ⟨m', hlt, h'⟩ => ⟨m', hlt, I, h', p⟩)
theorem W.jumpL {R : Code} {l : Nat} (I : Nat -> Env -> World -> Prop) (h0 : ∃ m, I m σ w) (pass : ∀ m σ w, I m σ w -> W P n R (jumpQ l (fun σ' w' => ∃ m', m' < m /\ I m' σ' w') Q) σ w) :
    W P n (.seq (.label l) R) (jumpQ l (JG P n l (.seq .skip R) Q) Q) σ w := by
  obtain ⟨m, h⟩ := h0
  exact W.seq (W.label (W.mono (pass m σ w h) (jumpQ_mono fun _ _ ⟨m', _, h'⟩ => ⟨I, m', h', fun m σ w hh => W.seq (W.skip (pass m σ w hh))⟩)))
end
end Go.Nm
namespace Go.Nm
open Go
def noGotoD (Q : PostD) : PostD
  | .goto _, _, _, _ => False
  | e, Ds, σ, w => Q e Ds σ w
theorem WD.scope {P : Program} {n : Nat} {Q : PostD} {σ : Env} {w : World} {Ds : List Nat} {c : Code} (h : WD P n Ds c (noGotoD Q) σ w) : WD P n Ds (.scope c) Q σ w := by
  intro a ha
  refine (wpIn_wide (n := 0)).2 (wp_scope_straight (wp_mono ((wpIn_wide (n := 0)).1 (h a ha)) ?_))
  rintro e a' w' ⟨d, s, hs, h'⟩
  cases e with
  | goto l => exact h'.elim
  | _ => exact ⟨d, s, hs, h'⟩
section
variable {P : Program} {w : World} {σ : Env} {d : Nat} {ty : TypeId} {pos : String} {af : Array Edge} {g : Option (Nat × Bool)}
/-! ### Values of any type, and what type they are of -/
theorem x_ushr1 {t yt : TypeId} {x y : Operand} {a : Int} (hx : ev σ x = .int .u64 a) (hy : ev σ y = .int .u64 1) :
    (execOp (ev σ) ⟨some d, .binOp .shr t x y yt, ty, pos, af, g⟩).run P w = .ok (.value (.int .u64 (a / 2))) w := by
  have e : a.fdiv 2 = a / 2 := Int.fdiv_eq_ediv_of_nonneg _ (by decide)
  simp only [execOp, hx, hy, eqGuard, binOp, Op.shift]
  simp
  exact e
end
end Go.Nm
namespace Go.Nm
open Go
section
variable {P : Program} {w : World} {σ : Env} {d : Nat} {ty : TypeId} {pos : String} {af : Array Edge} {g : Option (Nat × Bool)}
end
end Go.Nm
namespace Go.Nm
open Go
theorem fat_fat {p : Value} (hp : ∃ b o, p = .pointer (some ⟨b, o, none⟩)) (a c : Nat) : fat (fat p a) c = fat p (a + c) := by
  obtain ⟨b, o, rfl⟩ := hp
  simp [fat, add_lit, Nat.add_assoc]
section
variable {P : Program} {w : World}
theorem fa_pl2 {s : TypeId} {k off a c : Nat} {ft : TypeId}
    (h : (P.underlying s).bind (fun d => match d with | .struct fs => (fs[k]?).map (fun f => (f.offset, f.type)) | _ => none) = some (off, ft))
    {n : Nat} (hn : (P.info? ft).map (·.size) = some (n + 1)) {p : Value} (hp : ∃ b o, p = .pointer (some ⟨b, o, none⟩)) (hc : a + off = c) : (Instr.fieldAt s (fat p a) k).run P w = .ok (fat p c) w := by
  subst hc
  rw [fa_pl h hn (p := fat p a) (by obtain ⟨b, o, rfl⟩ := hp; exact ⟨b, o + a, by simp [fat, add_lit]⟩), fat_fat hp]
end
/-- A row of truths that lies in a block, read on only. -/
theorem St.freezeB {w0 w : World} {L R : List Chunk} (H : St w0 w L R) {k b : Nat} {l : List Bool} {t : TypeId} {n : Nat} (hk : L[k]? = some (cBlk b (encB l) t)) (hn : l.length = n) (hm : n <= 9223372036854775807) :
    ∃ B, St w0 w (L.set k (cRo B)) R /\ ∀ j : Int, 0 <= j -> j <= n -> Sl B.cells (.slice (some ⟨b, 0, none⟩) j.toNat n) (l.take j.toNat) := by
  subst hn
  refine ⟨⟨w, fun i => i = b⟩, H.set (c' := cRo ⟨w, fun i => i = b⟩) hk rfl (.refl w) (fun _ _ _ => rfl) (fun i hi => .inl hi.1) ⟨Nat.le_refl _, fun _ _ _ => rfl⟩ rfl, fun j h0 h1 => ?_⟩
  have hb : w.heap[b]? = some (.cells (encB l).toArray t (0, 0)) := H.get hk
  refine ⟨⟨some ⟨b, 0, none⟩, l.length, by rw [List.length_take, Nat.min_eq_left (by omega)], by rw [List.length_take]; omega, hm, fun k x hx => ⟨b, 0, [.bool x], rfl, rfl, fun i y hy => ?_⟩⟩⟩
  obtain ⟨rfl, rfl⟩ : i = 0 /\ y = .bool x := by
    cases i with
    | zero => simp at hy; exact ⟨rfl, hy.symm⟩
    | succ i => simp at hy
  have hx' : l[k]? = some x := by
    rw [List.getElem?_take] at hx
    split at hx
    · exact hx
    · cases hx
  have hs : (Elt.sz Bool) = 1 := rfl
  unfold Base.cells
  rw [if_pos rfl]
  show w.cell? ⟨b, 0 + k * Elt.sz Bool + 0, none⟩ = _
  rw [hs]
  simp [World.cell?, hb, encB, hx']
theorem run_sliceB {P : Program} {t e : TypeId} {n k : Nat} {w : World} {b : Nat} {j : Int} (hu : P.underlying t = some (.array n e)) (hz : (P.info? e).map (·.size) = some k) (h0 : 0 <= j) (h1 : j <= n) :
    (Instr.sliceAt t (.pointer (some ⟨b, 0, none⟩)) none (some (I j)) none).run P w = .ok (.slice (some ⟨b, 0, none⟩) j.toNat n) w := by
  simp [Instr.sliceAt, Instr.sureAddr, Instr.sliceBounds, Instr.sliceBound, asIntOf, run_underlying hu, run_sizeOf hz, h0, h1, Addr.add]
end Go.Nm
namespace Go.Nm
open Go
/-! ### Numbers in order -/
def insI (x : Int) : List Int -> List Int
  | [] => [x]
  | y :: l => bif decide (x <= y) then x :: y :: l else y :: insI x l
def isort (l : List Int) : List Int := l.foldr insI []
theorem insI_perm (x : Int) : ∀ l : List Int, (insI x l).Perm (x :: l)
  | [] => .refl _
  | y :: l => by
    unfold insI
    cases decide (x <= y) with
    | true => exact .refl _
    | false => exact ((insI_perm x l).cons y).trans (.swap x y l)
theorem isort_perm : ∀ l : List Int, (isort l).Perm l
  | [] => .refl _
  | x :: l => (insI_perm x _).trans ((isort_perm l).cons x)
theorem insI_asc (x : Int) : ∀ l : List Int, l.Pairwise (· <= ·) -> (insI x l).Pairwise (· <= ·)
  | [], _ => by simp [insI]
  | y :: l, h => by
    rw [List.pairwise_cons] at h
    unfold insI
    cases hc : decide (x <= y) with
    | true =>
      have hc := of_decide_eq_true hc
      show (x :: y :: l).Pairwise _
      rw [List.pairwise_cons, List.pairwise_cons]
      refine ⟨fun z hz => ?_, h⟩
      rcases List.mem_cons.1 hz with rfl | hz
      · exact hc
      · exact Int.le_trans hc (h.1 z hz)
    | false =>
      have hc := of_decide_eq_false hc
      show (y :: insI x l).Pairwise _
      rw [List.pairwise_cons]
      refine ⟨fun z hz => ?_, insI_asc x l h.2⟩
      rcases List.mem_cons.1 ((insI_perm x l).mem_iff.1 hz) with rfl | hz
      · omega
      · exact h.1 z hz
theorem isort_asc : ∀ l : List Int, (isort l).Pairwise (· <= ·)
  | [] => .nil
  | x :: l => insI_asc x _ (isort_asc l)
theorem asc_uniq : ∀ {l m : List Int}, l.Pairwise (· <= ·) -> m.Pairwise (· <= ·) -> l.Perm m -> l = m
  | [], m, _, _, p => (List.nil_perm.1 p).symm
  | x :: l, [], _, _, p => by have := p.length_eq; simp at this
  | x :: l, y :: m, h, k, p => by
    rw [List.pairwise_cons] at h k
    have h1 : x <= y := by
      rcases List.mem_cons.1 (p.mem_iff.2 (List.mem_cons_self (a := y) (l := m))) with e | e
      · omega
      · exact h.1 y e
    have h2 : y <= x := by
      rcases List.mem_cons.1 (p.mem_iff.1 (List.mem_cons_self (a := x) (l := l))) with e | e
      · omega
      · exact k.1 x e
    obtain rfl : x = y := by omega
    rw [asc_uniq h.2 k.2 (List.perm_cons x |>.1 p)]
theorem merge_isort {ss ks : List Int} (p : ss.Perm ks) : ss.mergeSort (fun x y => decide (x <= y)) = isort ks := by
  refine asc_uniq ?_ (isort_asc ks) (((List.mergeSort_perm ss _).trans p).trans (isort_perm ks).symm)
  have := List.pairwise_mergeSort (le := fun x y : Int => decide (x <= y)) (fun a b c h1 h2 => by simp only [decide_eq_true_eq] at *; omega) (fun a b => by simp only [Bool.or_eq_true, decide_eq_true_eq]; omega) ss
  exact this.imp fun h => of_decide_eq_true h
/-! ### Maps, told entry by entry -/
def MapL {κ ν : Type} (kenc : κ -> Value) (venc : ν -> Value) (es : Array MapEntry) (clk : Nat) (m : List (κ × ν)) : Prop :=
  es.toList.map (fun e => (e.key, e.val)) = m.map (fun p => (kenc p.1, venc p.2)) /\ (es.toList.map (·.born)).Nodup /\ ∀ e ∈ es.toList, e.born < clk
section
variable {P : Program} {w w0 : World} {L L' R : List Chunk} {t kt et : TypeId} {b : Nat} {es : Array MapEntry} {clk : Nat} {ks : List Int}
variable {all rest : List Oper} {Q : Post} {σ : Env} {d : Nat} {ty : TypeId} {pos : String} {af : Array Edge} {g : Option (Nat × Bool)}
end
end Go.Nm
namespace Go.Nm
open Go
/-! ### What is reckoned entry by entry -/
namespace M
variable {κ ν : Type}
def mapL (body : κ -> ν -> M ν) : List (κ × ν) -> M (List (κ × ν))
  | [] => pure []
  | p :: m => bind (body p.1 p.2) fun v => bind (mapL body m) fun m' => pure ((p.1, v) :: m')
theorem mapL_at {body : κ -> ν -> M ν} : ∀ {m m' : List (κ × ν)}, (mapL body m).Ends m' -> m'.length = m.length /\ ∀ (i : Nat) (k : κ) (v : ν), m[i]? = some (k, v) -> ∃ v', (body k v).Ends v' /\ m'[i]? = some (k, v')
  | [], m', h => by
    obtain rfl := e_pure h
    exact ⟨rfl, fun i k v h => by simp at h⟩
  | p :: m, m', h => by
    obtain ⟨v1, h1, h⟩ := e_bind h
    obtain ⟨m1, h2, h⟩ := e_bind h
    obtain rfl := e_pure h
    obtain ⟨l, ih⟩ := mapL_at h2
    refine ⟨by simp [l], fun i k v hi => ?_⟩
    cases i with
    | zero =>
      simp only [List.getElem?_cons_zero, Option.some.injEq] at hi
      subst hi
      exact ⟨v1, h1, rfl⟩
    | succ i => exact ih i k v (by simpa using hi)
end M
/-! ### In memory -/
section
variable {κ ν : Type} [DecidableEq κ] {kenc : κ -> Value} {venc : ν -> Value}
def cMl (kenc : κ -> Value) (venc : ν -> Value) (b : Nat) (m : List (κ × ν)) : Chunk where
  D k := k = b
  ex := true
  ok w := ∃ es n, w.heap[b]? = some (.map es n) /\ MapL kenc venc es n m /\ (m.map Prod.fst).Nodup
  st w w' := fun ⟨es, n, h1, h2⟩ _ k => ⟨es, n, (k b rfl).trans h1, h2⟩
  bd w k := fun ⟨_, _, h, _⟩ e => by rw [e]; exact heap_lt h
variable {P : Program} {w w0 : World} {L L' R : List Chunk} {t kt et : TypeId} {b r : Nat} {es : Array MapEntry} {clk : Nat} {m : List (κ × ν)}
variable {all rest : List Oper} {Q : Post} {σ : Env} {d : Nat} {ty : TypeId} {pos : String} {af : Array Edge} {g : Option (Nat × Bool)}
omit [DecidableEq κ] in theorem t_mkMl {t' : TypeId} (kenc : κ -> Value) (venc : ν -> Value) (H : St w0 w L R) (k : ∀ b w', St w0 w' (cMl kenc venc b [] :: L) R -> SL P all Q rest (upd σ d (.map (some b))) w') : SL P all Q (⟨some d, .makeMap t' none, ty, pos, af, none⟩ :: rest) σ w :=
  s_mkmap fun b w' hn => k b w' (H.push (c := cMl kenc venc b []) hn.ext ⟨_, _, hn.same, ⟨rfl, List.nodup_nil, fun e h => by simp at h⟩, List.nodup_nil⟩ (fun j hj => by rw [show j = b from hj]; exact hn.ge))
end
/-- How far a loop over a map has come: what is left is as it was, what was met is as it will be. -/
def ItR {κ ν : Type} (m m' m1 : List (κ × ν)) (left : List Bool) : Prop := m1.length = m.length /\ m'.length = m.length /\ left.length = m.length /\ ∀ i, i < m.length -> m1[i]? = if left.getD i false then m[i]? else m'[i]?
namespace ItR
variable {κ ν : Type} {m m' m1 : List (κ × ν)} {left : List Bool} {body : κ -> ν -> M ν}
theorem fin (h : ItR m m' m1 left) (hl : ∀ j : Nat, left.getD j false = false) : m1 = m' := by
  apply List.ext_getElem?
  intro i
  by_cases hi : i < m.length
  · rw [h.2.2.2 i hi, hl i]; rfl
  · rw [List.getElem?_eq_none (by have := h.1; omega), List.getElem?_eq_none (by have := h.2.1; omega)]
theorem lt (h : ItR m m' m1 left) {j : Nat} (hj : left.getD j false = true) : j < m.length := by
  rw [← h.2.2.1]
  refine Nat.lt_of_not_le fun hn => ?_
  rw [List.getD_eq_getElem?_getD, List.getElem?_eq_none hn] at hj
  cases hj
theorem at_ (h : ItR m m' m1 left) (hb : (M.mapL body m).Ends m') {j : Nat} {k : κ} {v : ν} (hj : left.getD j false = true) (hm : m1[j]? = some (k, v)) : ∃ v', (body k v).Ends v' /\ m'[j]? = some (k, v') := by
  have := h.2.2.2 j (h.lt hj)
  rw [hj, hm] at this
  exact (M.mapL_at hb).2 j k v (by simpa using this.symm)
theorem step (h : ItR m m' m1 left) {j : Nat} {k : κ} {v v' : ν} (hj : left.getD j false = true) (hm : m1[j]? = some (k, v)) (hv : m'[j]? = some (k, v')) : ItR m m' (m1.set j (k, v')) (left.set j false) := by
  have hjl := h.lt hj
  have hl := h.2.2.1
  have h1 := h.1
  refine ⟨by rw [List.length_set]; exact h.1, h.2.1, by rw [List.length_set]; exact h.2.2.1, fun i hi => ?_⟩
  by_cases e : j = i
  · subst e
    rw [List.getElem?_set_self (by omega), List.getD_eq_getElem?_getD, List.getElem?_set_self (by omega), hv]
    rfl
  · rw [List.getElem?_set_ne e, List.getD_eq_getElem?_getD, List.getElem?_set_ne e, ← List.getD_eq_getElem?_getD]
    exact h.2.2.2 i hi
theorem keep (h : ItR m m' m1 left) {j : Nat} {k : κ} {v : ν} (hj : left.getD j false = true) (hm : m1[j]? = some (k, v)) (hv : m'[j]? = some (k, v)) : ItR m m' m1 (left.set j false) := by
  have := h.step hj hm hv
  rwa [show m1.set j (k, v) = m1 from by
    obtain ⟨hl, e⟩ := List.getElem?_eq_some_iff.1 hm
    rw [← e, List.set_getElem_self]] at this
theorem less {j : Nat} (hj : left.getD j false = true) : (left.set j false).count true < left.count true := by
  have hl : j < left.length := Nat.lt_of_not_le fun hn => by
    rw [List.getD_eq_getElem?_getD, List.getElem?_eq_none hn] at hj
    cases hj
  have hg : left[j] = true := by
    rw [List.getD_eq_getElem?_getD, List.getElem?_eq_getElem hl] at hj
    exact hj
  rw [List.count_set hl, hg]
  have : 0 < left.count true := List.count_pos_iff.2 (by rw [← hg]; exact List.getElem_mem hl)
  simp
  omega
end ItR
end Go.Nm
namespace Go.Proofs
open Go.RowKit Go.Maps Go.Sort Go.Shelf
def Tryz.sortA_ren : Go.Shelf.Ren := ⟨fun | 5 => 52 | 7 => 97 | 8 => 98 | 10 => 121 | 11 => 122 | 12 => 123 | 13 => 124 | 14 => 125 | 15 => 126 | 16 => 127 | 17 => 128 | 18 => 129 | 19 => 130 | 20 => 131 | 30 => 139 | 31 => 140 | 32 => 141 | 33 => 142 | 34 => 143 | 35 => 138 | 40 => 145 | n => n, fun | 0 => 0 | 3 => 3 | 4 => 4 | 5 => 5 | 9 => 9 | 22 => 28 | 23 => 28 | 25 => 3 | 32 => 185 | 35 => 193 | 36 => 194 | 41 => 188 | 44 => 200 | 46 => 202 | 53 => 207 | 57 => 211 | 63 => 214 | 64 => 215 | n => n, fun | n => n⟩
theorem Tryz.sortA : Go.Proofs.SlLaysM.n5 Tryz.prog Tryz.sortA_ren := {
  mixed := by kernel_rfl
  f5 := ⟨"slices.Sort[[]int,int]", by kernel_rfl, Tryz.func52.trans (congrArg some (by kernel_rfl))⟩
  f7 := ⟨"slices.pdqsortOrdered[int]", by kernel_rfl, Tryz.func97.trans (congrArg some (by kernel_rfl))⟩
  f8 := Tryz.func98.trans (congrArg some (by kernel_rfl))
  f10 := ⟨"slices.insertionSortOrdered[int]", by kernel_rfl, Tryz.func121.trans (congrArg some (by kernel_rfl))⟩
  f11 := ⟨"slices.heapSortOrdered[int]", by kernel_rfl, Tryz.func122.trans (congrArg some (by kernel_rfl))⟩
  f12 := ⟨"slices.breakPatternsOrdered[int]", by kernel_rfl, Tryz.func123.trans (congrArg some (by kernel_rfl))⟩
  f13 := ⟨"slices.choosePivotOrdered[int]", by kernel_rfl, Tryz.func124.trans (congrArg some (by kernel_rfl))⟩
  f14 := ⟨"slices.reverseRangeOrdered[int]", by kernel_rfl, Tryz.func125.trans (congrArg some (by kernel_rfl))⟩
  f15 := ⟨"slices.partialInsertionSortOrdered[int]", by kernel_rfl, Tryz.func126.trans (congrArg some (by kernel_rfl))⟩
  f16 := ⟨"cmp.Less[int]", by kernel_rfl, Tryz.func127.trans (congrArg some (by kernel_rfl))⟩
  f17 := ⟨"slices.partitionEqualOrdered[int]", by kernel_rfl, Tryz.func128.trans (congrArg some (by kernel_rfl))⟩
  f18 := ⟨"slices.partitionOrdered[int]", by kernel_rfl, Tryz.func129.trans (congrArg some (by kernel_rfl))⟩
  f19 := Tryz.func130.trans (congrArg some (by kernel_rfl))
  f20 := Tryz.func131.trans (congrArg some (by kernel_rfl))
  f30 := ⟨"slices.siftDownOrdered[int]", by kernel_rfl, Tryz.func139.trans (congrArg some (by kernel_rfl))⟩
  f31 := Tryz.func140.trans (congrArg some (by kernel_rfl))
  f32 := Tryz.func141.trans (congrArg some (by kernel_rfl))
  f33 := ⟨"slices.medianAdjacentOrdered[int]", by kernel_rfl, Tryz.func142.trans (congrArg some (by kernel_rfl))⟩
  f34 := ⟨"slices.medianOrdered[int]", by kernel_rfl, Tryz.func143.trans (congrArg some (by kernel_rfl))⟩
  f35 := ⟨"cmp.isNaN[int]", by kernel_rfl, Tryz.func138.trans (congrArg some (by kernel_rfl))⟩
  f40 := ⟨"slices.order2Ordered[int]", by kernel_rfl, Tryz.func145.trans (congrArg some (by kernel_rfl))⟩
  t0 := Tryz.underlying0
  a0 := Tryz.isAgg0
  z0 := Tryz.sizeOf0
  v0 := Tryz.zeroValue0
  t3 := Tryz.underlying3
  a3 := Tryz.isAgg3
  z3 := Tryz.sizeOf3
  v3 := Tryz.zeroValue3
  t4 := Tryz.underlying4
  a4 := Tryz.isAgg4
  z4 := Tryz.sizeOf4
  v4 := Tryz.zeroValue4
  t5 := Tryz.underlying5
  a5 := Tryz.isAgg5
  z5 := Tryz.sizeOf5
  v5 := Tryz.zeroValue5
  t9 := Tryz.underlying9
  a9 := Tryz.isAgg9
  z9 := Tryz.sizeOf9
  v9 := Tryz.zeroValue9
  t22 := Tryz.underlying28
  a22 := Tryz.isAgg28
  z22 := Tryz.sizeOf28
  v22 := Tryz.zeroValue28
  t23 := Tryz.underlying28
  a23 := Tryz.isAgg28
  z23 := Tryz.sizeOf28
  v23 := Tryz.zeroValue28
  t25 := Tryz.underlying3
  a25 := Tryz.isAgg3
  z25 := Tryz.sizeOf3
  v25 := Tryz.zeroValue3
  t32 := Tryz.underlying185
  a32 := Tryz.isAgg185
  z32 := Tryz.sizeOf185
  v32 := Tryz.zeroValue185
  t35 := Tryz.underlying193
  a35 := Tryz.isAgg193
  z35 := Tryz.sizeOf193
  v35 := Tryz.zeroValue193
  t36 := Tryz.underlying194
  a36 := Tryz.isAgg194
  z36 := Tryz.sizeOf194
  v36 := Tryz.zeroValue194
  t41 := Tryz.underlying188
  a41 := Tryz.isAgg188
  z41 := Tryz.sizeOf188
  v41 := Tryz.zeroValue188
  t44 := Tryz.underlying200
  a44 := Tryz.isAgg200
  z44 := Tryz.sizeOf200
  v44 := Tryz.zeroValue200
  t46 := Tryz.underlying202
  a46 := Tryz.isAgg202
  z46 := Tryz.sizeOf202
  v46 := Tryz.zeroValue202
  t53 := Tryz.underlying207
  a53 := Tryz.isAgg207
  z53 := Tryz.sizeOf207
  v53 := Tryz.zeroValue207
  t57 := Tryz.underlying211
  a57 := Tryz.isAgg211
  z57 := Tryz.sizeOf211
  v57 := Tryz.zeroValue211
  t63 := Tryz.underlying214
  a63 := Tryz.isAgg214
  z63 := Tryz.sizeOf214
  v63 := Tryz.zeroValue214
  t64 := Tryz.underlying215
  a64 := Tryz.isAgg215
  z64 := Tryz.sizeOf215
  v64 := Tryz.zeroValue215 }

end Go.Proofs
namespace Go.Nm
open Go
theorem OwnF.row {B : Nat} {e : TypeId} {w : World} {l : List Int} {g cap : Nat} {cur : Array Value} (ho : OwnF B e w (.slice (some ⟨g, 0, none⟩) l.length cap) l) (hg : w.heap[g]? = some (.cells cur e (0, 0)))
    (hcs : l.length <= cap) (hsz : cur.size = cap) (hb : B <= g) (hm : cap <= maxLen) (d : Array Int) (hl : d.size = l.length) (q : Nat) :
    OwnF B e (Sort.putRow (Value.int .i64) (Sort.ahead w q) g 0 d) (.slice (some ⟨g, 0, none⟩) l.length cap) d.toList /\ Grow B (.slice (some ⟨g, 0, none⟩) l.length cap) w (Sort.putRow (Value.int .i64) (Sort.ahead w q) g 0 d) := by
  have hs1 : Elt.sz Int = 1 := rfl
  have h1 : (Sort.putRow (Value.int .i64) (Sort.ahead w q) g 0 d).heap[g]? = some (.cells (Sort.putCells (Value.int .i64) 0 d cur) e (0, 0)) := by
    show (w.heap.modify g _)[g]? = _
    rw [Array.getElem?_modify, if_pos rfl, hg]
    rfl
  have h2 : ∀ k, k ≠ g -> (Sort.putRow (Value.int .i64) (Sort.ahead w q) g 0 d).heap[k]? = w.heap[k]? := by
    intro k hk
    show (w.heap.modify g _)[k]? = _
    rw [Array.getElem?_modify, if_neg (fun h => hk h.symm)]
  refine ⟨⟨by rw [enc_ints]; simp [hs1], .inr ⟨g, cap, _, by simp [hl], hb, h1, by simp [hl]; omega, hm, by simp [hs1, Sort.putCells]; omega, ?_⟩⟩, ⟨rfl, rfl, by simp [Sort.putRow, Sort.mapBlock, Sort.ahead], fun k _ hk => ?_, fun g' hg' => (ho.lt g' hg').1, fun a => by simp⟩⟩
  · rw [enc_ints, hs1]
    apply List.ext_getElem?
    intro i
    rw [List.getElem?_take, List.getElem?_map]
    by_cases hi : i < d.toList.length * 1
    · rw [if_pos hi]
      have hi' : i < d.size := by simpa using hi
      have hc : i < cur.size := by omega
      simp [Sort.putCells, hi', hc]
    · rw [if_neg hi, List.getElem?_eq_none (by simpa using hi)]
      rfl
  · refine h2 k (fun e' => hk ?_)
    rw [e']
    rfl
end Go.Nm
namespace Go.Proofs.YtlemgioaakecpaaGreat
open Go Go.Nm Go.Proofs
theorem sort_any {w : World} {v : Value} {l : List Int} (ho : OwnF 0 3 w v l) (hl : l.length <= 1000000) : Ret Tryz.prog 52 #[v] w fun u w' => u = .tuple #[] /\ OwnF 0 3 w' v (isort l) /\ Keep w w' /\ ∀ b, b < w.heap.size -> v.ownBlock ≠ some b -> w'.heap[b]? = w.heap[b]? := by
  have ho' := ho
  rcases ho.2 with ⟨rfl, hn⟩ | ⟨g, cap, cur, rfl, hb, hg, hc, hm, hcs, htake⟩
  · obtain rfl := List.length_eq_zero_iff.1 hn
    have h := AnyM.slices_Sort_int_none Tryz.sortA none 0 w
    refine Calls.mono h ?_
    rintro _ w' ⟨rfl, rfl⟩
    exact ⟨_, rfl, rfl, ho, Keep.refl _, fun _ _ _ => rfl⟩
  · have hs1 : Elt.sz Int = 1 := rfl
    rw [hs1] at hcs htake
    rw [enc_ints] at htake
    have hcell : ∀ j, j < l.length -> w.cell? ⟨g, 0 + j, none⟩ = some (.int .i64 (l.getD j 0)) := by
      intro j hj
      rw [Nat.zero_add, cell_of_row w g j cur 3 (0, 0) hg]
      have h1 : (cur.toList.take (l.length * 1))[j]? = (l.map I)[j]? := by rw [htake]
      rw [List.getElem?_take, if_pos (by omega), List.getElem?_map, getD_some l hj 0] at h1
      simpa using h1
    have hH : Sort.Holds (Value.int .i64) w g 0 l.toArray := by
      intro j hj
      have hj : j < l.length := by simpa using hj
      refine ⟨?_, by simp [World.frozen?, hg]⟩
      rw [hcell j hj]
      have : l.getD j 0 = l.toArray[j]! := by
        rw [List.getD_eq_getElem?_getD, List.getElem?_eq_getElem hj]
        simp [getElem!_pos, hj]
      rw [this]
    have h := AnyM.slices_Sort_int Tryz.sortA g 0 cap l w hH (heap_lt hg) (by omega)
    refine Calls.mono h ?_
    rintro _ w' ⟨rfl, q, os, rfl⟩
    rw [merge_isort (List.Perm.refl l)]
    have hlen : (isort l).length = l.length := (isort_perm l).length_eq
    obtain ⟨h1, h2⟩ := OwnF.row ho hg hc (by omega) hb hm (isort l).toArray (by simp [hlen]) q
    have hlt : g < (Sort.putRow (Value.int .i64) (Sort.ahead w q) g 0 (isort l).toArray).heap.size := Nat.lt_of_lt_of_le (heap_lt hg) h2.size
    refine ⟨_, rfl, rfl, ?_, ⟨h2.os, h2.out, by rw [Sort.size_grow]; exact Nat.le_trans h2.size (Nat.le_add_right _ _)⟩, fun b hb' hne => ?_⟩
    · rcases h1 with ⟨h3, h4 | ⟨g', cap', cur', h5, h6, h7, h8⟩⟩
      · exact absurd h4.1 (by simp)
      · simp only [Value.slice.injEq, Option.some.injEq, Addr.mk.injEq, and_true] at h5
        obtain ⟨rfl, _, rfl⟩ := h5
        refine ⟨h3, .inr ⟨g, cap, cur', by simp [hlen], h6, by rw [Sort.heap_grow_old _ _ hlt]; exact h7, h8⟩⟩
    · rw [Sort.heap_grow_old _ _ (Nat.lt_of_lt_of_le hb' h2.size)]
      exact h2.blk b hb' hne
end Go.Proofs.YtlemgioaakecpaaGreat
namespace Go.Nm
open Go
theorem St.sorted {w0 w w' : World} {L L' R : List Chunk} {k : Nat} {v : Value} {l l' : List Int} {e : TypeId} (H : St w0 w L R) (hk : L[k]? = some (cOwn (α := Int) e v l)) (ho : OwnF 0 e w' v l') (kp : Keep w w') (hs : ∀ b, b < w.heap.size -> v.ownBlock ≠ some b -> w'.heap[b]? = w.heap[b]?)
    (hl : L.set k (cOwn (α := Int) e v l') = L') : St w0 w' L' R :=
  H.set (c' := cOwn (α := Int) e v l') hk rfl kp hs (fun b hb => .inl hb) ho hl
end Go.Nm
namespace Go.Nm
open Go
end Go.Nm
namespace Go.Nm
open Go
universe u
theorem qy1 {p : Prop} [Decidable p] : (decide p = true) = p := decide_eq_true_eq
theorem qy2 {p : Prop} [Decidable p] : (decide p = false) ↔ ¬p := decide_eq_false_iff_not
theorem qy3 {α : Type _} [BEq α] [LawfulBEq α] {a b : α} : (a == b) = true ↔ a = b := beq_iff_eq
theorem qy4 {α : Type _} [BEq α] [LawfulBEq α] {a b : α} : (a != b) = true ↔ a ≠ b := bne_iff_ne
theorem qy5 {α : Type _} [BEq α] [LawfulBEq α] {a b : α} : (a == b) = false ↔ a ≠ b := beq_eq_false_iff_ne
theorem qy6 {α : Type _} [BEq α] [LawfulBEq α] {a b : α} : (a != b) = false ↔ a = b := bne_eq_false_iff_eq
theorem qy7 {p : Prop} [Decidable p] : ¬¬p ↔ p := Decidable.not_not
abbrev Pq (b : Nat) : Value := .pointer (some ⟨b, 0, none⟩)
abbrev Oq (b o : Nat) : Value := .pointer (some ⟨b, o, none⟩)
class NthR {α : Type u} (l : List α) (i : Nat) (x : outParam α) : Prop where
  is : l[i]? = some x
instance {α : Type u} {l : List α} {x : α} : NthR (x :: l) 0 x := ⟨rfl⟩
instance {α : Type u} {l : List α} {x y : α} {i : Nat} [h : NthR l i x] : NthR (y :: l) (i + 1) x := ⟨h.is⟩
instance (priority := high) {α : Type u} {l : List α} {x a b c d : α} {i : Nat} [h : NthR l i x] : NthR (a :: b :: c :: d :: l) (i + 4) x := ⟨h.is⟩
class PickR {α : Type u} (l : List α) (i : List Nat) (o : outParam (List α)) : Prop where
  is : i.mapM (fun j => l[j]?) = some o
instance {α : Type u} {l : List α} : PickR l [] [] := ⟨rfl⟩
instance {α : Type u} {l o : List α} {i : Nat} {is : List Nat} {x : α} [h : NthR l i x] [k : PickR l is o] : PickR l (i :: is) (x :: o) := ⟨by rw [List.mapM_cons, h.is, k.is]; rfl⟩
class AppR {α : Type u} (a b : List α) (o : outParam (List α)) : Prop where
  is : a ++ b = o
instance {α : Type u} {b : List α} : AppR [] b b := ⟨rfl⟩
instance {α : Type u} {x : α} {a b o : List α} [h : AppR a b o] : AppR (x :: a) b (x :: o) := ⟨by rw [List.cons_append, h.is]⟩
class LenR {α : Type u} (l : List α) (n : Nat) : Prop where
  is : l.length = n
instance {α : Type u} : LenR ([] : List α) 0 := ⟨rfl⟩
instance {α : Type u} {l : List α} {x : α} {n : Nat} [h : LenR l n] : LenR (x :: l) (n + 1) := ⟨by rw [List.length_cons, h.is]⟩
class EndR {α : Type u} (n : Nat) (l : List α) (a b : outParam (List α)) : Prop where
  is : a ++ b = l
instance (priority := low) {α : Type u} {x : α} {n : Nat} {l a b : List α} [h : EndR n l a b] : EndR n (x :: l) (x :: a) b := ⟨by rw [List.cons_append, h.is]⟩
instance {α : Type u} {n : Nat} {l : List α} [LenR l n] : EndR n l [] l := ⟨rfl⟩
class SetR {α : Type u} (l : List α) (k : Nat) (x : α) (o : outParam (List α)) : Prop where
  is : l.set k x = o
instance {α : Type u} {l : List α} {x y : α} : SetR (y :: l) 0 x (x :: l) := ⟨rfl⟩
instance {α : Type u} {l o : List α} {x y : α} {k : Nat} [h : SetR l k x o] : SetR (y :: l) (k + 1) x (y :: o) := ⟨by rw [List.set_cons_succ, h.is]⟩
class NfR {α : Type u} (l : List α) (o : outParam (List α)) : Prop where
  is : l = o
instance {α : Type u} : NfR ([] : List α) [] := ⟨rfl⟩
instance {α : Type u} {x : α} {l o : List α} [h : NfR l o] : NfR (x :: l) (x :: o) := ⟨by rw [← h.is]⟩
instance {α : Type u} {l o p : List α} {k : Nat} {x : α} [h : NfR l o] [s : SetR o k x p] : NfR (l.set k x) p := ⟨by rw [h.is, s.is]⟩
instance {α : Type u} {a b a' b' o : List α} [h : NfR a a'] [h' : NfR b b'] [s : AppR a' b' o] : NfR (a ++ b) o := ⟨by rw [h.is, h'.is, s.is]⟩
instance {α : Type u} {x : α} {l o : List α} [h : NfR l o] : NfR ((x :: l).eraseIdx 0) o := ⟨by rw [← h.is]; rfl⟩
instance {α : Type u} {x : α} {l o : List α} {k : Nat} [h : NfR (l.eraseIdx k) o] : NfR ((x :: l).eraseIdx (k + 1)) (x :: o) := ⟨by rw [List.eraseIdx_cons_succ, h.is]⟩
class OverR {α : Type u} (cs : List α) (off : Nat) (vs : List α) (o : outParam (List α)) : Prop where
  is : cs.take off ++ vs ++ cs.drop (off + vs.length) = o
instance {α : Type u} {cs : List α} : OverR cs 0 [] cs := ⟨by simp⟩
instance {α : Type u} {c v : α} {cs vs o : List α} [h : OverR cs 0 vs o] : OverR (c :: cs) 0 (v :: vs) (v :: o) := ⟨by
  have := h.is
  simp only [List.take_zero, List.nil_append, Nat.zero_add] at this ⊢
  simp [this]⟩
instance {α : Type u} {c : α} {cs vs o : List α} {n : Nat} [h : OverR cs n vs o] : OverR (c :: cs) (n + 1) vs (c :: o) := ⟨by
  have := h.is
  rw [List.take_succ_cons, show n + 1 + vs.length = n + vs.length + 1 by omega, List.drop_succ_cons, List.cons_append, List.cons_append, this]⟩
section
variable {w0 w w' : World} {L L' L1 R A T : List Chunk}
theorem St.os {α : Type} [Flat α] {e : TypeId} {v : Value} {l : List α} (h : St w0 w L R) (k : Nat) [n : NthR L k (cOwn e v l)] : Sl (rowC v (l.flatMap Flat.enc)) v l := ownSl (h.get n.is)
theorem St.ol {α : Type} [Flat α] {e : TypeId} {v : Value} {l : List α} (h : St w0 w L R) (k : Nat) [n : NthR L k (cOwn e v l)] : (rowC v (l.flatMap Flat.enc)).Le w.cell? := ownLe w (h.get n.is)
theorem rdo {α : Type} [Flat α] {e : TypeId} {v : Value} {l : List α} (k : Nat) [n : NthR L k (cOwn e v l)] : Reads (L ++ R) (rowC v (l.flatMap Flat.enc)) := Reads.of n.is ownLe
theorem St.bl {b : Nat} {cs : List Value} {t : TypeId} (h : St w0 w L R) (k : Nat) [n : NthR L k (cBlk b cs t)] : w.heap[b]? = some (.cells cs.toArray t (0, 0)) := h.blk n.is
theorem St.nf (h : St w0 w L R) [n : NfR L L'] : St w0 w L' R := by
  have := n.is
  subst this
  exact h
theorem St.pk (h : St w0 w L R) (i : List Nat) [n : NfR L L1] [p : PickR L1 i L'] (hn : i.Nodup := by decide) : St w0 w L' R := h.nf.pick i hn p.is
theorem St.bk (h : St w0 w L R) (h' : St w w' A (T ++ R)) [a : NfR (A ++ T) L'] : St w0 w' L' R := h.back h' a.is
theorem St.gt (h : St w0 w L R) (k : Nat) [n : NfR L L1] [s : EndR k L1 A T] : St w w A (T ++ R) := h.nf.give s.is
end
section
variable {P : Program} {all rest : List Oper} {Q : Post} {σ : Env} {w0 w : World} {L L' R : List Chunk} {ty : TypeId} {pos : String} {af : Array Edge}
theorem zM {d : Nat} {x : Operand} (v : Value) (h : ev σ x = v) (k : SL P all Q rest (upd σ d v) w) : SL P all Q (⟨some d, .move x, ty, pos, af, none⟩ :: rest) σ w := s_val (x_mv h) k
theorem zA {d : Nat} {x : Operand} (v : Value) (h : ev σ x = v) (k : SL P all Q rest (upd σ d v) w) : SL P all Q (⟨some d, .assign x, ty, pos, af, none⟩ :: rest) σ w := s_val (x_as h) k
theorem zC {d : Nat} {op : BinOp} {t yt : TypeId} {x y : Operand} (a b : Int) (r : Bool) (hx : ev σ x = .int .i64 a) (hy : ev σ y = .int .i64 b) (hr : cmpV op a b = some r) (k : SL P all Q rest (upd σ d (.bool r)) w) : SL P all Q (⟨some d, .binOp op t x y yt, ty, pos, af, none⟩ :: rest) σ w := s_val (x_cmp hx hy hr) k
theorem zR {d : Nat} {op : BinOp} {t yt : TypeId} {x y : Operand} (a b r : Int) (hx : ev σ x = .int .i64 a) (hy : ev σ y = .int .i64 b) (hr : ariV op a b = some r) (h : -9223372036854775808 <= r /\ r <= 9223372036854775807) (k : SL P all Q rest (upd σ d (.int .i64 r)) w) : SL P all Q (⟨some d, .binOp op t x y yt, ty, pos, af, none⟩ :: rest) σ w := s_val (x_ari hx hy hr h) k
theorem zX {d i : Nat} {x : Operand} (vs : List Value) (v : Value) (h : ev σ x = .tuple vs.toArray) (hv : vs[i]? = some v) (k : SL P all Q rest (upd σ d v) w) : SL P all Q (⟨some d, .extract x i, ty, pos, af, none⟩ :: rest) σ w := s_val (x_ext h hv) k
theorem t_sw {dst : Option Nat} {t : TypeId} {x y : Operand} {b n : Nat} {cs cs' : List Value} {et : TypeId} (k off : Nat) (vs : List Value) (v : Value) (H : St w0 w L R) [hk : NthR L k (cBlk b cs et)] [hc : OverR cs off vs cs'] [hL : SetR L k (cBlk b cs' et) L'] (hx : ev σ x = .pointer (some ⟨b, off, none⟩)) (hy : ev σ y = v)
    (hs : (P.info? t).map (·.size) = some n) (hv : v.cells = vs.toArray) (hn : vs.length = n) (hl : Nat.ble (off + n) cs.length = true) (h1 : vs.all (·.oneCell') = true)
    (kk : ∀ w', St w0 w' L' R -> SL P all Q rest (updo σ dst undef) w') : SL P all Q (⟨dst, .store t x y, ty, pos, af, none⟩ :: rest) σ w :=
  t_st H hk.is hx hy hs hv hn hl h1 (by rw [← hn]; exact hc.is) hL.is kk
end
end Go.Nm
namespace Go.Nm
open Go
section
variable {P : Program} {w : World} {σ : Env} {d : Nat} {ty : TypeId} {pos : String} {af : Array Edge} {g : Option (Nat × Bool)}
theorem x_pand0 {c x y : Operand} {b : Bool} (hc : ev σ c = .bool b) (hx : b = true -> ev σ x = .bool false) (hy : ev σ y = .bool false) :
    (execOp (ev σ) ⟨some d, .pick c x y, ty, pos, af, g⟩).run P w = .ok (.value (.bool false)) w := by
  have := x_pand (P := P) (w := w) (d := d) (ty := ty) (pos := pos) (af := af) (g := g) hc hx hy
  rwa [Bool.and_false] at this
end
end Go.Nm
namespace Go.Proofs.YtlemgioaakecpaaGreat
open Go Go.Nm
theorem cf8 : CF Tryz.prog 8 := ⟨_, Tryz.func8, rfl, by decide +kernel⟩
theorem cf9 : CF Tryz.prog 9 := ⟨_, Tryz.func9, rfl, by decide +kernel⟩
theorem cf10 : CF Tryz.prog 10 := ⟨_, Tryz.func10, rfl, by decide +kernel⟩
theorem cf11 : CF Tryz.prog 11 := ⟨_, Tryz.func11, rfl, by decide +kernel⟩
theorem cf12 : CF Tryz.prog 12 := ⟨_, Tryz.func12, rfl, by decide +kernel⟩
theorem cf13 : CF Tryz.prog 13 := ⟨_, Tryz.func13, rfl, by decide +kernel⟩
theorem cf14 : CF Tryz.prog 14 := ⟨_, Tryz.func14, rfl, by decide +kernel⟩
theorem cf15 : CF Tryz.prog 15 := ⟨_, Tryz.func15, rfl, by decide +kernel⟩
theorem cf16 : CF Tryz.prog 16 := ⟨_, Tryz.func16, rfl, by decide +kernel⟩
theorem cf17 : CF Tryz.prog 17 := ⟨_, Tryz.func17, rfl, by decide +kernel⟩
theorem cf20 : CF Tryz.prog 20 := ⟨_, Tryz.func20, rfl, by decide +kernel⟩
theorem cf22 : CF Tryz.prog 22 := ⟨_, Tryz.func22, rfl, by decide +kernel⟩
theorem cf26 : CF Tryz.prog 26 := ⟨_, Tryz.func26, rfl, by decide +kernel⟩
theorem cf30 : CF Tryz.prog 30 := ⟨_, Tryz.func30, rfl, by decide +kernel⟩
theorem cf37 : CF Tryz.prog 37 := ⟨_, Tryz.func37, rfl, by decide +kernel⟩
theorem cf48 : CF Tryz.prog 48 := ⟨_, Tryz.func48, rfl, by decide +kernel⟩
theorem cf49 : CF Tryz.prog 49 := ⟨_, Tryz.func49, rfl, by decide +kernel⟩
theorem cf50 : CF Tryz.prog 50 := ⟨_, Tryz.func50, rfl, by decide +kernel⟩
theorem cf51 : CF Tryz.prog 51 := ⟨_, Tryz.func51, rfl, by decide +kernel⟩
theorem cf52 : CF Tryz.prog 52 := ⟨_, Tryz.func52, rfl, by decide +kernel⟩
theorem cf53 : CF Tryz.prog 53 := ⟨_, Tryz.func53, rfl, by decide +kernel⟩
theorem cf54 : CF Tryz.prog 54 := ⟨_, Tryz.func54, rfl, by decide +kernel⟩
theorem cf55 : CF Tryz.prog 55 := ⟨_, Tryz.func55, rfl, by decide +kernel⟩
theorem cf56 : CF Tryz.prog 56 := ⟨_, Tryz.func56, rfl, by decide +kernel⟩
theorem cf57 : CF Tryz.prog 57 := ⟨_, Tryz.func57, rfl, by decide +kernel⟩
theorem cf58 : CF Tryz.prog 58 := ⟨_, Tryz.func58, rfl, by decide +kernel⟩
theorem cf59 : CF Tryz.prog 59 := ⟨_, Tryz.func59, rfl, by decide +kernel⟩
theorem cf60 : CF Tryz.prog 60 := ⟨_, Tryz.func60, rfl, by decide +kernel⟩
theorem cf61 : CF Tryz.prog 61 := ⟨_, Tryz.func61, rfl, by decide +kernel⟩
theorem cf62 : CF Tryz.prog 62 := ⟨_, Tryz.func62, rfl, by decide +kernel⟩
theorem cf63 : CF Tryz.prog 63 := ⟨_, Tryz.func63, rfl, by decide +kernel⟩
theorem cf64 : CF Tryz.prog 64 := ⟨_, Tryz.func64, rfl, by decide +kernel⟩
theorem cf65 : CF Tryz.prog 65 := ⟨_, Tryz.func65, rfl, by decide +kernel⟩
theorem cf66 : CF Tryz.prog 66 := ⟨_, Tryz.func66, rfl, by decide +kernel⟩
theorem cf67 : CF Tryz.prog 67 := ⟨_, Tryz.func67, rfl, by decide +kernel⟩
theorem cf68 : CF Tryz.prog 68 := ⟨_, Tryz.func68, rfl, by decide +kernel⟩
theorem cf69 : CF Tryz.prog 69 := ⟨_, Tryz.func69, rfl, by decide +kernel⟩
theorem cf70 : CF Tryz.prog 70 := ⟨_, Tryz.func70, rfl, by decide +kernel⟩
theorem cf71 : CF Tryz.prog 71 := ⟨_, Tryz.func71, rfl, by decide +kernel⟩
theorem cf72 : CF Tryz.prog 72 := ⟨_, Tryz.func72, rfl, by decide +kernel⟩
theorem cf73 : CF Tryz.prog 73 := ⟨_, Tryz.func73, rfl, by decide +kernel⟩
theorem cf74 : CF Tryz.prog 74 := ⟨_, Tryz.func74, rfl, by decide +kernel⟩
theorem cf75 : CF Tryz.prog 75 := ⟨_, Tryz.func75, rfl, by decide +kernel⟩
theorem cf76 : CF Tryz.prog 76 := ⟨_, Tryz.func76, rfl, by decide +kernel⟩
theorem cf77 : CF Tryz.prog 77 := ⟨_, Tryz.func77, rfl, by decide +kernel⟩
theorem cf78 : CF Tryz.prog 78 := ⟨_, Tryz.func78, rfl, by decide +kernel⟩
theorem cf79 : CF Tryz.prog 79 := ⟨_, Tryz.func79, rfl, by decide +kernel⟩
theorem cf80 : CF Tryz.prog 80 := ⟨_, Tryz.func80, rfl, by decide +kernel⟩
theorem cf81 : CF Tryz.prog 81 := ⟨_, Tryz.func81, rfl, by decide +kernel⟩
theorem cf83 : CF Tryz.prog 83 := ⟨_, Tryz.func83, rfl, by decide +kernel⟩
theorem cf95 : CF Tryz.prog 95 := ⟨_, Tryz.func95, rfl, by decide +kernel⟩
theorem cf96 : CF Tryz.prog 96 := ⟨_, Tryz.func96, rfl, by decide +kernel⟩
theorem cf99 : CF Tryz.prog 99 := ⟨_, Tryz.func99, rfl, by decide +kernel⟩
theorem cf100 : CF Tryz.prog 100 := ⟨_, Tryz.func100, rfl, by decide +kernel⟩
theorem cf101 : CF Tryz.prog 101 := ⟨_, Tryz.func101, rfl, by decide +kernel⟩
theorem cf102 : CF Tryz.prog 102 := ⟨_, Tryz.func102, rfl, by decide +kernel⟩
theorem cf103 : CF Tryz.prog 103 := ⟨_, Tryz.func103, rfl, by decide +kernel⟩
theorem cf104 : CF Tryz.prog 104 := ⟨_, Tryz.func104, rfl, by decide +kernel⟩
theorem cf105 : CF Tryz.prog 105 := ⟨_, Tryz.func105, rfl, by decide +kernel⟩
theorem cf106 : CF Tryz.prog 106 := ⟨_, Tryz.func106, rfl, by decide +kernel⟩
theorem cf107 : CF Tryz.prog 107 := ⟨_, Tryz.func107, rfl, by decide +kernel⟩
theorem cf108 : CF Tryz.prog 108 := ⟨_, Tryz.func108, rfl, by decide +kernel⟩
theorem cf109 : CF Tryz.prog 109 := ⟨_, Tryz.func109, rfl, by decide +kernel⟩
theorem cf110 : CF Tryz.prog 110 := ⟨_, Tryz.func110, rfl, by decide +kernel⟩
theorem cf111 : CF Tryz.prog 111 := ⟨_, Tryz.func111, rfl, by decide +kernel⟩
theorem cf112 : CF Tryz.prog 112 := ⟨_, Tryz.func112, rfl, by decide +kernel⟩
theorem cf113 : CF Tryz.prog 113 := ⟨_, Tryz.func113, rfl, by decide +kernel⟩
theorem cf114 : CF Tryz.prog 114 := ⟨_, Tryz.func114, rfl, by decide +kernel⟩
theorem cf115 : CF Tryz.prog 115 := ⟨_, Tryz.func115, rfl, by decide +kernel⟩
theorem cf116 : CF Tryz.prog 116 := ⟨_, Tryz.func116, rfl, by decide +kernel⟩
theorem cf117 : CF Tryz.prog 117 := ⟨_, Tryz.func117, rfl, by decide +kernel⟩
theorem cf118 : CF Tryz.prog 118 := ⟨_, Tryz.func118, rfl, by decide +kernel⟩
theorem cf119 : CF Tryz.prog 119 := ⟨_, Tryz.func119, rfl, by decide +kernel⟩
theorem cf120 : CF Tryz.prog 120 := ⟨_, Tryz.func120, rfl, by decide +kernel⟩
theorem cf132 : CF Tryz.prog 132 := ⟨_, Tryz.func132, rfl, by decide +kernel⟩
theorem cf133 : CF Tryz.prog 133 := ⟨_, Tryz.func133, rfl, by decide +kernel⟩
theorem cf134 : CF Tryz.prog 134 := ⟨_, Tryz.func134, rfl, by decide +kernel⟩
theorem cf135 : CF Tryz.prog 135 := ⟨_, Tryz.func135, rfl, by decide +kernel⟩
theorem cf136 : CF Tryz.prog 136 := ⟨_, Tryz.func136, rfl, by decide +kernel⟩
theorem cf137 : CF Tryz.prog 137 := ⟨_, Tryz.func137, rfl, by decide +kernel⟩
theorem cf138 : CF Tryz.prog 138 := ⟨_, Tryz.func138, rfl, by decide +kernel⟩
theorem cf144 : CF Tryz.prog 144 := ⟨_, Tryz.func144, rfl, by decide +kernel⟩
theorem T22 : SlT Tryz.prog 22 5 1 1 (.int .u8 0) := ⟨Tryz.underlying22, by kernel_rfl, rfl, by decide⟩
theorem T23 : SlT Tryz.prog 23 68 2 32 (.agg #[I 0, .slice none 0 0]) := ⟨Tryz.underlying23, by kernel_rfl, rfl, by decide⟩
theorem T24 : SlT Tryz.prog 24 70 3 24 (.agg #[I 0, I 0, I 0]) := ⟨Tryz.underlying24, by kernel_rfl, rfl, by decide⟩
theorem T25 : SlT Tryz.prog 25 58 5 40 (.agg #[I 0, I 0, I 0, I 0, B false]) := ⟨Tryz.underlying25, by kernel_rfl, rfl, by decide⟩
theorem T28 : SlT Tryz.prog 28 3 1 8 (I 0) := ⟨Tryz.underlying28, by kernel_rfl, rfl, by decide⟩
theorem T38 : SlT Tryz.prog 38 28 1 24 (.slice none 0 0) := ⟨Tryz.underlying38, by kernel_rfl, rfl, by decide⟩
theorem T43 : SlT Tryz.prog 43 54 2 16 (.agg #[I 0, I 0]) := ⟨Tryz.underlying43, by kernel_rfl, rfl, by decide⟩
theorem T59 : SlT Tryz.prog 59 4 1 1 (B false) := ⟨Tryz.underlying59, by kernel_rfl, rfl, by decide⟩
theorem T66 : SlT Tryz.prog 66 109 2 16 (.agg #[I 0, I 0]) := ⟨Tryz.underlying66, by kernel_rfl, rfl, by decide⟩
theorem Sc3 : isSc (Tryz.prog.underlying 3) = true := by rw [Tryz.underlying3]; rfl
theorem Sc4 : isSc (Tryz.prog.underlying 4) = true := by rw [Tryz.underlying4]; rfl
theorem Sc5 : isSc (Tryz.prog.underlying 5) = true := by rw [Tryz.underlying5]; rfl
theorem Sc22 : isSc (Tryz.prog.underlying 22) = true := by rw [Tryz.underlying22]; rfl
theorem Sc23 : isSc (Tryz.prog.underlying 23) = true := by rw [Tryz.underlying23]; rfl
theorem Sc24 : isSc (Tryz.prog.underlying 24) = true := by rw [Tryz.underlying24]; rfl
theorem Sc25 : isSc (Tryz.prog.underlying 25) = true := by rw [Tryz.underlying25]; rfl
theorem Sc28 : isSc (Tryz.prog.underlying 28) = true := by rw [Tryz.underlying28]; rfl
theorem Sc35 : isSc (Tryz.prog.underlying 35) = true := by rw [Tryz.underlying35]; rfl
theorem Sc66 : isSc (Tryz.prog.underlying 66) = true := by rw [Tryz.underlying66]; rfl
theorem Sc112 : isSc (Tryz.prog.underlying 112) = true := by rw [Tryz.underlying112]; rfl
theorem Sc116 : isSc (Tryz.prog.underlying 116) = true := by rw [Tryz.underlying116]; rfl
theorem Sc125 : isSc (Tryz.prog.underlying 125) = true := by rw [Tryz.underlying125]; rfl
theorem Sc143 : isSc (Tryz.prog.underlying 143) = true := by rw [Tryz.underlying143]; rfl
theorem Sc152 : isSc (Tryz.prog.underlying 152) = true := by rw [Tryz.underlying152]; rfl
theorem Sc155 : isSc (Tryz.prog.underlying 155) = true := by rw [Tryz.underlying155]; rfl
theorem Sc157 : isSc (Tryz.prog.underlying 157) = true := by rw [Tryz.underlying157]; rfl
theorem Sc175 : isSc (Tryz.prog.underlying 175) = true := by rw [Tryz.underlying175]; rfl
theorem Sc178 : isSc (Tryz.prog.underlying 178) = true := by rw [Tryz.underlying178]; rfl
theorem Sc191 : isSc (Tryz.prog.underlying 191) = true := by rw [Tryz.underlying191]; rfl
theorem Sz3 : (Tryz.prog.info? 3).map (·.size) = some 1 := by kernel_rfl
theorem Sz4 : (Tryz.prog.info? 4).map (·.size) = some 1 := by kernel_rfl
theorem Sz22 : (Tryz.prog.info? 22).map (·.size) = some 1 := by kernel_rfl
theorem Sz23 : (Tryz.prog.info? 23).map (·.size) = some 1 := by kernel_rfl
theorem Sz24 : (Tryz.prog.info? 24).map (·.size) = some 1 := by kernel_rfl
theorem Sz25 : (Tryz.prog.info? 25).map (·.size) = some 1 := by kernel_rfl
theorem Ag27 : isAg (Tryz.prog.underlying 27) = true := by rw [Tryz.underlying27]; rfl
theorem Sz27 : (Tryz.prog.info? 27).map (·.size) = some 3 := by kernel_rfl
theorem Sz28 : (Tryz.prog.info? 28).map (·.size) = some 1 := by kernel_rfl
theorem Ag30 : isAg (Tryz.prog.underlying 30) = true := by rw [Tryz.underlying30]; rfl
theorem Sz30 : (Tryz.prog.info? 30).map (·.size) = some 2 := by kernel_rfl
theorem Sz35 : (Tryz.prog.info? 35).map (·.size) = some 1 := by kernel_rfl
theorem Ag54 : isAg (Tryz.prog.underlying 54) = true := by rw [Tryz.underlying54]; rfl
theorem Sz54 : (Tryz.prog.info? 54).map (·.size) = some 2 := by kernel_rfl
theorem Ag58 : isAg (Tryz.prog.underlying 58) = true := by rw [Tryz.underlying58]; rfl
theorem Sz58 : (Tryz.prog.info? 58).map (·.size) = some 5 := by kernel_rfl
theorem Ag61 : isAg (Tryz.prog.underlying 61) = true := by rw [Tryz.underlying61]; rfl
theorem Sz61 : (Tryz.prog.info? 61).map (·.size) = some 4 := by kernel_rfl
theorem Sz66 : (Tryz.prog.info? 66).map (·.size) = some 1 := by kernel_rfl
theorem Ag68 : isAg (Tryz.prog.underlying 68) = true := by rw [Tryz.underlying68]; rfl
theorem Sz68 : (Tryz.prog.info? 68).map (·.size) = some 2 := by kernel_rfl
theorem Ag70 : isAg (Tryz.prog.underlying 70) = true := by rw [Tryz.underlying70]; rfl
theorem Sz70 : (Tryz.prog.info? 70).map (·.size) = some 3 := by kernel_rfl
theorem Ag109 : isAg (Tryz.prog.underlying 109) = true := by rw [Tryz.underlying109]; rfl
theorem Sz109 : (Tryz.prog.info? 109).map (·.size) = some 2 := by kernel_rfl
theorem Sz116 : (Tryz.prog.info? 116).map (·.size) = some 1 := by kernel_rfl
theorem Ag138 : isAg (Tryz.prog.underlying 138) = true := by rw [Tryz.underlying138]; rfl
theorem Sz138 : (Tryz.prog.info? 138).map (·.size) = some 1 := by kernel_rfl
theorem Sz157 : (Tryz.prog.info? 157).map (·.size) = some 1 := by kernel_rfl
theorem Ag160 : isAg (Tryz.prog.underlying 160) = true := by rw [Tryz.underlying160]; rfl
theorem Sz160 : (Tryz.prog.info? 160).map (·.size) = some 2 := by kernel_rfl
theorem Sz175 : (Tryz.prog.info? 175).map (·.size) = some 1 := by kernel_rfl
theorem Sz178 : (Tryz.prog.info? 178).map (·.size) = some 1 := by kernel_rfl
theorem Sz180 : (Tryz.prog.info? 180).map (·.size) = some 16 := by kernel_rfl
theorem Sz191 : (Tryz.prog.info? 191).map (·.size) = some 1 := by kernel_rfl
theorem Fd27_0 : (Tryz.prog.underlying 27).bind (fun d => match d with | .struct fs => (fs[0]?).map (fun f => (f.offset, f.type)) | _ => none) = some (0, 23) := by rw [Tryz.underlying27]; rfl
theorem Fd27_1 : (Tryz.prog.underlying 27).bind (fun d => match d with | .struct fs => (fs[1]?).map (fun f => (f.offset, f.type)) | _ => none) = some (1, 24) := by rw [Tryz.underlying27]; rfl
theorem Fd27_2 : (Tryz.prog.underlying 27).bind (fun d => match d with | .struct fs => (fs[2]?).map (fun f => (f.offset, f.type)) | _ => none) = some (2, 25) := by rw [Tryz.underlying27]; rfl
theorem Fd30_0 : (Tryz.prog.underlying 30).bind (fun d => match d with | .struct fs => (fs[0]?).map (fun f => (f.offset, f.type)) | _ => none) = some (0, 28) := by rw [Tryz.underlying30]; rfl
theorem Fd30_1 : (Tryz.prog.underlying 30).bind (fun d => match d with | .struct fs => (fs[1]?).map (fun f => (f.offset, f.type)) | _ => none) = some (1, 28) := by rw [Tryz.underlying30]; rfl
theorem Fd54_0 : (Tryz.prog.underlying 54).bind (fun d => match d with | .struct fs => (fs[0]?).map (fun f => (f.offset, f.type)) | _ => none) = some (0, 3) := by rw [Tryz.underlying54]; rfl
theorem Fd54_1 : (Tryz.prog.underlying 54).bind (fun d => match d with | .struct fs => (fs[1]?).map (fun f => (f.offset, f.type)) | _ => none) = some (1, 3) := by rw [Tryz.underlying54]; rfl
theorem Fd58_0 : (Tryz.prog.underlying 58).bind (fun d => match d with | .struct fs => (fs[0]?).map (fun f => (f.offset, f.type)) | _ => none) = some (0, 3) := by rw [Tryz.underlying58]; rfl
theorem Fd58_1 : (Tryz.prog.underlying 58).bind (fun d => match d with | .struct fs => (fs[1]?).map (fun f => (f.offset, f.type)) | _ => none) = some (1, 3) := by rw [Tryz.underlying58]; rfl
theorem Fd58_2 : (Tryz.prog.underlying 58).bind (fun d => match d with | .struct fs => (fs[2]?).map (fun f => (f.offset, f.type)) | _ => none) = some (2, 54) := by rw [Tryz.underlying58]; rfl
theorem Fd58_3 : (Tryz.prog.underlying 58).bind (fun d => match d with | .struct fs => (fs[3]?).map (fun f => (f.offset, f.type)) | _ => none) = some (4, 4) := by rw [Tryz.underlying58]; rfl
theorem Fd61_0 : (Tryz.prog.underlying 61).bind (fun d => match d with | .struct fs => (fs[0]?).map (fun f => (f.offset, f.type)) | _ => none) = some (0, 3) := by rw [Tryz.underlying61]; rfl
theorem Fd61_1 : (Tryz.prog.underlying 61).bind (fun d => match d with | .struct fs => (fs[1]?).map (fun f => (f.offset, f.type)) | _ => none) = some (1, 3) := by rw [Tryz.underlying61]; rfl
theorem Fd61_2 : (Tryz.prog.underlying 61).bind (fun d => match d with | .struct fs => (fs[2]?).map (fun f => (f.offset, f.type)) | _ => none) = some (2, 3) := by rw [Tryz.underlying61]; rfl
theorem Fd61_3 : (Tryz.prog.underlying 61).bind (fun d => match d with | .struct fs => (fs[3]?).map (fun f => (f.offset, f.type)) | _ => none) = some (3, 3) := by rw [Tryz.underlying61]; rfl
theorem Fd68_0 : (Tryz.prog.underlying 68).bind (fun d => match d with | .struct fs => (fs[0]?).map (fun f => (f.offset, f.type)) | _ => none) = some (0, 3) := by rw [Tryz.underlying68]; rfl
theorem Fd68_1 : (Tryz.prog.underlying 68).bind (fun d => match d with | .struct fs => (fs[1]?).map (fun f => (f.offset, f.type)) | _ => none) = some (1, 66) := by rw [Tryz.underlying68]; rfl
theorem Fd70_0 : (Tryz.prog.underlying 70).bind (fun d => match d with | .struct fs => (fs[0]?).map (fun f => (f.offset, f.type)) | _ => none) = some (0, 3) := by rw [Tryz.underlying70]; rfl
theorem Fd70_1 : (Tryz.prog.underlying 70).bind (fun d => match d with | .struct fs => (fs[1]?).map (fun f => (f.offset, f.type)) | _ => none) = some (1, 54) := by rw [Tryz.underlying70]; rfl
theorem Fd109_0 : (Tryz.prog.underlying 109).bind (fun d => match d with | .struct fs => (fs[0]?).map (fun f => (f.offset, f.type)) | _ => none) = some (0, 3) := by rw [Tryz.underlying109]; rfl
theorem Fd109_1 : (Tryz.prog.underlying 109).bind (fun d => match d with | .struct fs => (fs[1]?).map (fun f => (f.offset, f.type)) | _ => none) = some (1, 3) := by rw [Tryz.underlying109]; rfl
theorem Fd111_0 : (Tryz.prog.underlying 111).bind (fun d => match d with | .struct fs => (fs[0]?).map (fun f => (f.offset, f.type)) | _ => none) = some (0, 22) := by rw [Tryz.underlying111]; rfl
theorem Fd111_1 : (Tryz.prog.underlying 111).bind (fun d => match d with | .struct fs => (fs[1]?).map (fun f => (f.offset, f.type)) | _ => none) = some (1, 3) := by rw [Tryz.underlying111]; rfl
theorem Fd111_2 : (Tryz.prog.underlying 111).bind (fun d => match d with | .struct fs => (fs[2]?).map (fun f => (f.offset, f.type)) | _ => none) = some (2, 3) := by rw [Tryz.underlying111]; rfl
theorem Fd138_0 : (Tryz.prog.underlying 138).bind (fun d => match d with | .struct fs => (fs[0]?).map (fun f => (f.offset, f.type)) | _ => none) = some (0, 116) := by rw [Tryz.underlying138]; rfl
theorem Fd160_0 : (Tryz.prog.underlying 160).bind (fun d => match d with | .struct fs => (fs[0]?).map (fun f => (f.offset, f.type)) | _ => none) = some (0, 3) := by rw [Tryz.underlying160]; rfl
theorem Fd160_1 : (Tryz.prog.underlying 160).bind (fun d => match d with | .struct fs => (fs[1]?).map (fun f => (f.offset, f.type)) | _ => none) = some (1, 3) := by rw [Tryz.underlying160]; rfl
theorem Fd177_0 : (Tryz.prog.underlying 177).bind (fun d => match d with | .struct fs => (fs[0]?).map (fun f => (f.offset, f.type)) | _ => none) = some (0, 27) := by rw [Tryz.underlying177]; rfl
theorem Fd177_1 : (Tryz.prog.underlying 177).bind (fun d => match d with | .struct fs => (fs[1]?).map (fun f => (f.offset, f.type)) | _ => none) = some (3, 175) := by rw [Tryz.underlying177]; rfl
theorem Fd182_0 : (Tryz.prog.underlying 182).bind (fun d => match d with | .struct fs => (fs[0]?).map (fun f => (f.offset, f.type)) | _ => none) = some (0, 180) := by rw [Tryz.underlying182]; rfl
theorem Fd182_1 : (Tryz.prog.underlying 182).bind (fun d => match d with | .struct fs => (fs[1]?).map (fun f => (f.offset, f.type)) | _ => none) = some (16, 180) := by rw [Tryz.underlying182]; rfl
theorem Al3 : (Tryz.prog.info? 3).map (·.zero) = some (some (I 0)) := by kernel_rfl
theorem Al4 : (Tryz.prog.info? 4).map (·.zero) = some (some (B false)) := by kernel_rfl
theorem Al27 : (Tryz.prog.info? 27).map (·.zero) = some (some (.agg #[.slice none 0 0, .slice none 0 0, .slice none 0 0])) := by kernel_rfl
theorem Al30 : (Tryz.prog.info? 30).map (·.zero) = some (some (.agg #[.slice none 0 0, .slice none 0 0])) := by kernel_rfl
theorem Al35 : (Tryz.prog.info? 35).map (·.zero) = some (some (I 0)) := by kernel_rfl
theorem Al54 : (Tryz.prog.info? 54).map (·.zero) = some (some (.agg #[I 0, I 0])) := by kernel_rfl
theorem Al58 : (Tryz.prog.info? 58).map (·.zero) = some (some (.agg #[I 0, I 0, I 0, I 0, B false])) := by kernel_rfl
theorem Al61 : (Tryz.prog.info? 61).map (·.zero) = some (some (.agg #[I 0, I 0, I 0, I 0])) := by kernel_rfl
theorem Al68 : (Tryz.prog.info? 68).map (·.zero) = some (some (.agg #[I 0, .slice none 0 0])) := by kernel_rfl
theorem Al70 : (Tryz.prog.info? 70).map (·.zero) = some (some (.agg #[I 0, I 0, I 0])) := by kernel_rfl
theorem Al109 : (Tryz.prog.info? 109).map (·.zero) = some (some (.agg #[I 0, I 0])) := by kernel_rfl
theorem Al111 : (Tryz.prog.info? 111).map (·.zero) = some (some (.agg #[.slice none 0 0, I 0, I 0])) := by kernel_rfl
theorem Al116 : (Tryz.prog.info? 116).map (·.zero) = some (some (.nilFunc)) := by kernel_rfl
theorem Al121 : (Tryz.prog.info? 121).map (·.zero) = some (some (.agg #[B false, B false, B false, B false, B false, B false, B false, B false, B false, B false, B false, B false, B false, B false, B false, B false])) := by kernel_rfl
theorem Al138 : (Tryz.prog.info? 138).map (·.zero) = some (some (.agg #[.nilFunc])) := by kernel_rfl
theorem Al157 : (Tryz.prog.info? 157).map (·.zero) = some (some (.nilFunc)) := by kernel_rfl
theorem Al160 : (Tryz.prog.info? 160).map (·.zero) = some (some (.agg #[I 0, I 0])) := by kernel_rfl
theorem Al177 : (Tryz.prog.info? 177).map (·.zero) = some (some (.agg #[.slice none 0 0, .slice none 0 0, .slice none 0 0, .map none])) := by kernel_rfl
theorem Al178 : (Tryz.prog.info? 178).map (·.zero) = some (some (.pointer none)) := by kernel_rfl
theorem Al191 : (Tryz.prog.info? 191).map (·.zero) = some (some (.map none)) := by kernel_rfl
theorem Bd27 {fs : Array Field} (h : Tryz.prog.underlying 27 = some (.struct fs)) : fs.toList.mapM (fun f => (Tryz.prog.info? f.type).map fun i => (f.offset, i.size)) = some [(0, 1), (1, 1), (2, 1)] := by rw [Tryz.underlying27] at h; simp only [Option.some.injEq, TypeDesc.struct.injEq] at h; subst h; kernel_rfl
theorem Bd54 {fs : Array Field} (h : Tryz.prog.underlying 54 = some (.struct fs)) : fs.toList.mapM (fun f => (Tryz.prog.info? f.type).map fun i => (f.offset, i.size)) = some [(0, 1), (1, 1)] := by rw [Tryz.underlying54] at h; simp only [Option.some.injEq, TypeDesc.struct.injEq] at h; subst h; kernel_rfl
theorem Bd58 {fs : Array Field} (h : Tryz.prog.underlying 58 = some (.struct fs)) : fs.toList.mapM (fun f => (Tryz.prog.info? f.type).map fun i => (f.offset, i.size)) = some [(0, 1), (1, 1), (2, 2), (4, 1)] := by rw [Tryz.underlying58] at h; simp only [Option.some.injEq, TypeDesc.struct.injEq] at h; subst h; kernel_rfl
theorem Bd61 {fs : Array Field} (h : Tryz.prog.underlying 61 = some (.struct fs)) : fs.toList.mapM (fun f => (Tryz.prog.info? f.type).map fun i => (f.offset, i.size)) = some [(0, 1), (1, 1), (2, 1), (3, 1)] := by rw [Tryz.underlying61] at h; simp only [Option.some.injEq, TypeDesc.struct.injEq] at h; subst h; kernel_rfl
theorem Bd68 {fs : Array Field} (h : Tryz.prog.underlying 68 = some (.struct fs)) : fs.toList.mapM (fun f => (Tryz.prog.info? f.type).map fun i => (f.offset, i.size)) = some [(0, 1), (1, 1)] := by rw [Tryz.underlying68] at h; simp only [Option.some.injEq, TypeDesc.struct.injEq] at h; subst h; kernel_rfl
theorem Bd70 {fs : Array Field} (h : Tryz.prog.underlying 70 = some (.struct fs)) : fs.toList.mapM (fun f => (Tryz.prog.info? f.type).map fun i => (f.offset, i.size)) = some [(0, 1), (1, 2)] := by rw [Tryz.underlying70] at h; simp only [Option.some.injEq, TypeDesc.struct.injEq] at h; subst h; kernel_rfl
theorem Bd109 {fs : Array Field} (h : Tryz.prog.underlying 109 = some (.struct fs)) : fs.toList.mapM (fun f => (Tryz.prog.info? f.type).map fun i => (f.offset, i.size)) = some [(0, 1), (1, 1)] := by rw [Tryz.underlying109] at h; simp only [Option.some.injEq, TypeDesc.struct.injEq] at h; subst h; kernel_rfl
theorem Bd111 {fs : Array Field} (h : Tryz.prog.underlying 111 = some (.struct fs)) : fs.toList.mapM (fun f => (Tryz.prog.info? f.type).map fun i => (f.offset, i.size)) = some [(0, 1), (1, 1), (2, 1)] := by rw [Tryz.underlying111] at h; simp only [Option.some.injEq, TypeDesc.struct.injEq] at h; subst h; kernel_rfl
theorem Bd138 {fs : Array Field} (h : Tryz.prog.underlying 138 = some (.struct fs)) : fs.toList.mapM (fun f => (Tryz.prog.info? f.type).map fun i => (f.offset, i.size)) = some [(0, 1)] := by rw [Tryz.underlying138] at h; simp only [Option.some.injEq, TypeDesc.struct.injEq] at h; subst h; kernel_rfl
theorem Bd160 {fs : Array Field} (h : Tryz.prog.underlying 160 = some (.struct fs)) : fs.toList.mapM (fun f => (Tryz.prog.info? f.type).map fun i => (f.offset, i.size)) = some [(0, 1), (1, 1)] := by rw [Tryz.underlying160] at h; simp only [Option.some.injEq, TypeDesc.struct.injEq] at h; subst h; kernel_rfl
theorem Bd177 {fs : Array Field} (h : Tryz.prog.underlying 177 = some (.struct fs)) : fs.toList.mapM (fun f => (Tryz.prog.info? f.type).map fun i => (f.offset, i.size)) = some [(0, 3), (3, 1)] := by rw [Tryz.underlying177] at h; simp only [Option.some.injEq, TypeDesc.struct.injEq] at h; subst h; kernel_rfl
theorem Bd182 {fs : Array Field} (h : Tryz.prog.underlying 182 = some (.struct fs)) : fs.toList.mapM (fun f => (Tryz.prog.info? f.type).map fun i => (f.offset, i.size)) = some [(0, 16), (16, 16)] := by rw [Tryz.underlying182] at h; simp only [Option.some.injEq, TypeDesc.struct.injEq] at h; subst h; kernel_rfl
theorem mixed : Tryz.prog.follows .mixedOrders = true := by kernel_rfl
theorem Al182 : (Tryz.prog.info? 182).map (·.zero) = some (some (.agg (List.flatten [[], encF (α := Int) (List.replicate 16 0), encF (α := Int) (List.replicate 16 0)]).toArray)) := by kernel_rfl

end Go.Proofs.YtlemgioaakecpaaGreat
namespace Go.Nm
open Go
abbrev encSpt (x : Spot) : Value := .agg #[I x.sec, I x.stage]
theorem bool_val (o : Option Bool) : (o.map B).getD (.bool false) = B (o.getD false) := by cases o <;> rfl
end Go.Nm
namespace Go.Proofs.YtlemgioaakecpaaGreat
open Go Go.Nm Go.Proofs
theorem keyIntB : KeyL (ν := Bool) Tryz.prog 3 I := KeyL.int Tryz.underlying3
theorem findAskSpt {ν : Type} (k : Spot) (w : World) : ∀ (es : List MapEntry) (m : List (Spot × ν)) (venc : ν -> Value) (j : Nat), es.map (fun e => (e.key, e.val)) = m.map (fun p => (encSpt p.1, venc p.2)) →
    (Instr.findAsking 160 (encSpt k) es j).run Tryz.prog w = .ok ((idxM m k).bind fun i => (es[i]?).map fun e => (i + j, e.val)) w
  | [], [], _, _, _ => rfl
  | [], _ :: _, _, _, h => by simp at h
  | _ :: _, [], _, _, h => by simp at h
  | e :: es, p :: m, venc, j, h => by
    simp only [List.map_cons, List.cons.injEq, Prod.mk.injEq] at h
    have ih := findAskSpt k w es m venc (j + 1) h.2
    unfold Instr.findAsking
    rw [h.1.1]
    have he := eqT160 k p.1 w
    unfold idxM
    by_cases hp : p.1 = k
    · rw [if_pos hp]
      have : decide (k = p.1) = true := by simp [hp]
      rw [this] at he
      simp [Op.equal, Op.maxDepth, he]
    · rw [if_neg hp]
      have : decide (k = p.1) = false := by simp; exact fun e => hp e.symm
      rw [this] at he
      simp only [Op.equal, Op.maxDepth, Sem.run_bind, he, Result.andThen_ok, Bool.false_eq_true, if_false, ih]
      cases hi : idxM m k with
      | none => rfl
      | some i =>
        simp only [Option.map_some, Option.bind_some, List.getElem?_cons_succ]
        cases es[i]? with
        | none => rfl
        | some e' => simp; omega
theorem keySpot : KeyL (ν := Int) Tryz.prog 160 encSpt := by
  refine ⟨fun e w k => ?_, fun w es m venc k h => ?_, fun k => ?_⟩
  · have u3 := Tryz.underlying3
    have a3 := Tryz.isAgg3
    have z3 := Tryz.sizeOf3
    have h1 : ∀ (n : Nat) (x : Int), (Instr.checkKey e (n + 1) 3 (I x)).run Tryz.prog w = .ok () w := fun n x => MapKept.run_checkKey u3 (show MapKept.IsKey (.int .i64) (I x) from rfl) e n
    have key : ∀ n : Nat, (Instr.checkKey e (n + 1 + 1) 160 (encSpt k)).run Tryz.prog w = .ok () w := by
      intro n
      rw [Instr.checkKey]
      simp only [Sem.run_bind, run_underlying Tryz.underlying160, Result.andThen_ok]
      rw [← Array.forIn_toList]
      simp only [List.forIn_cons, List.forIn_nil]
      go_simp
    exact key 9998
  · rw [run_findKey_eq w (by rw [Tryz.underlying160]), findAskSpt k w es m venc 0 h]
    rfl
  · simp [Instr.sameBits]
end Go.Proofs.YtlemgioaakecpaaGreat
section
set_option maxRecDepth 100000
set_option maxHeartbeats 16000000
namespace Go.Proofs.YtlemgioaakecpaaGreat
open Go Go.Nm
def m_cmp_isNaN_int (x : Int) : M Bool :=
  M.pure (x != x)
theorem cmp_isNaN_int_ok {R : List Chunk}  (x : Int)  {r : Bool} (hM : (m_cmp_isNaN_int x).Ends r) (w : World) (H : St w w [] R) : Ret Tryz.prog 138 #[I x] w fun v w' => ∃ (y0 : Bool), y0 = r /\ v = B y0 /\ St w w' [] R := by
 refine ret_of_W Tryz.func138 rfl rfl rfl ?_
 refine W.seq ?_
 refine W.region rfl ?_
 refine zA (B false) rfl ?_
 refine s_nil ?_
 refine W.seq ?_
 refine W.region rfl ?_
 refine zM (I x) rfl ?_
 refine zM (I x) rfl ?_
 refine zC x x (x != x) rfl rfl rfl ?_
 refine zA (B (x != x)) rfl ?_
 refine s_nil ?_
 refine W.ret ?_
 have aa := M.e_pure hM
 exact ⟨_, resE_tmp rfl, ⟨(x != x), aa, rfl, H⟩⟩

def m_cmp_Compare_int (x : Int) (y : Int) : M Int :=
  M.bind (m_cmp_isNaN_int x) fun r2 =>
  M.bind (m_cmp_isNaN_int y) fun r3 =>
  bif r2 then (
  bif r3 then (
  M.pure 0)
  else (
  M.pure (-1)))
  else (
  bif r3 then (
  M.pure 1)
  else (
  bif decide (x < y) then (
  M.pure (-1))
  else (
  bif decide (y < x) then (
  M.pure 1)
  else (
  M.pure 0))))
theorem cmp_Compare_int_ok {R : List Chunk}  (x : Int) (y : Int)  {r : Int} (hM : (m_cmp_Compare_int x y).Ends r) (w : World) (H : St w w [] R) : Ret Tryz.prog 118 #[I x, I y] w fun v w' => ∃ (y0 : Int), y0 = r /\ v = I y0 /\ St w w' [] R := by
 refine ret_of_W Tryz.func118 rfl rfl rfl ?_
 refine W.seq ?_
 refine W.region rfl ?_
 refine zA (I 0) rfl ?_
 refine s_nil ?_
 refine W.seq ?_
 refine W.region rfl ?_
 refine zM (I x) rfl ?_
 obtain ⟨aq, ak, hM⟩ := M.e_bind hM
 refine s_call cf138 [I x] rfl (cmp_isNaN_int_ok x ak _ (H.gt 0)) ?_
 rintro vq au ⟨r2, am, hvq, ab⟩
 subst am
 subst vq
 try dsimp only at hM
 replace H := H.bk ab
 clear ab
 refine zA (B r2) rfl ?_
 refine s_nil ?_
 refine W.seq ?_
 refine W.region rfl ?_
 refine zM (I y) rfl ?_
 obtain ⟨av, ao, hM⟩ := M.e_bind hM
 refine s_call cf138 [I y] rfl (cmp_isNaN_int_ok y ao _ (H.gt 0)) ?_
 rintro vq aw ⟨r3, ap, hvq, ab⟩
 subst ap
 subst vq
 try dsimp only at hM
 replace H := H.bk ab
 clear ab
 refine zA (B r3) rfl ?_
 refine s_nil ?_
 refine W.seq ?_
 refine W.seq ?_
 refine W.region rfl ?_
 refine zM (B r2) rfl ?_
 refine s_nil ?_
 refine W.cond r2 rfl (fun ag => ?_) (fun ag => ?_)
 ·replace hM := M.e_t hM ag
  refine W.seq ?_
  refine W.seq ?_
  refine W.region rfl ?_
  refine zM (B r3) rfl ?_
  refine s_nil ?_
  refine W.cond r3 rfl (fun ai => ?_) (fun ai => ?_)
  ·replace hM := M.e_t hM ai
   refine W.seq ?_
   refine W.region rfl ?_
   refine zA (I 0) rfl ?_
   refine s_nil ?_
   refine W.ret ?_
   have aa := M.e_pure hM
   exact ⟨_, resE_tmp rfl, ⟨0, aa, rfl, H⟩⟩
  replace hM := M.e_f hM ai
  refine W.skip ?_
  refine W.seq ?_
  refine W.region rfl ?_
  refine zA (I (-1)) rfl ?_
  refine s_nil ?_
  refine W.ret ?_
  have aa := M.e_pure hM
  exact ⟨_, resE_tmp rfl, ⟨(-1), aa, rfl, H⟩⟩
 replace hM := M.e_f hM ag
 refine W.skip ?_
 refine W.seq ?_
 refine W.seq ?_
 refine W.region rfl ?_
 refine zM (B r3) rfl ?_
 refine s_nil ?_
 refine W.cond r3 rfl (fun aj => ?_) (fun aj => ?_)
 ·replace hM := M.e_t hM aj
  refine W.seq ?_
  refine W.region rfl ?_
  refine zA (I 1) rfl ?_
  refine s_nil ?_
  refine W.ret ?_
  have aa := M.e_pure hM
  exact ⟨_, resE_tmp rfl, ⟨1, aa, rfl, H⟩⟩
 replace hM := M.e_f hM aj
 refine W.skip ?_
 refine W.seq ?_
 refine W.seq ?_
 refine W.region rfl ?_
 refine zM (I x) rfl ?_
 refine zM (I y) rfl ?_
 refine zC x y (decide (x < y)) rfl rfl rfl ?_
 refine s_nil ?_
 refine W.cond (decide (x < y)) rfl (fun ac => ?_) (fun ac => ?_)
 ·replace hM := M.e_t hM ac
  simp only [qy1, qy2, qy3, qy4, qy5, qy6, ne_eq, qy7] at ac
  refine W.seq ?_
  refine W.region rfl ?_
  refine zA (I (-1)) rfl ?_
  refine s_nil ?_
  refine W.ret ?_
  have aa := M.e_pure hM
  exact ⟨_, resE_tmp rfl, ⟨(-1), aa, rfl, H⟩⟩
 replace hM := M.e_f hM ac
 simp only [qy1, qy2, qy3, qy4, qy5, qy6, ne_eq, qy7] at ac
 refine W.skip ?_
 refine W.seq ?_
 refine W.seq ?_
 refine W.region rfl ?_
 refine zM (I x) rfl ?_
 refine zM (I y) rfl ?_
 refine zC x y (decide (y < x)) rfl rfl rfl ?_
 refine s_nil ?_
 refine W.cond (decide (y < x)) rfl (fun ae => ?_) (fun ae => ?_)
 ·replace hM := M.e_t hM ae
  simp only [qy1, qy2, qy3, qy4, qy5, qy6, ne_eq, qy7] at ae
  refine W.seq ?_
  refine W.region rfl ?_
  refine zA (I 1) rfl ?_
  refine s_nil ?_
  refine W.ret ?_
  have aa := M.e_pure hM
  exact ⟨_, resE_tmp rfl, ⟨1, aa, rfl, H⟩⟩
 replace hM := M.e_f hM ae
 simp only [qy1, qy2, qy3, qy4, qy5, qy6, ne_eq, qy7] at ae
 refine W.skip ?_
 refine W.seq ?_
 refine W.region rfl ?_
 refine zA (I 0) rfl ?_
 refine s_nil ?_
 refine W.ret ?_
 have aa := M.e_pure hM
 exact ⟨_, resE_tmp rfl, ⟨0, aa, rfl, H⟩⟩

def zbY (r_ : FRow) (stage : Int) : M Int :=
  M.bind (m_cmp_Compare_int r_.stage stage) fun r2 =>
  M.pure r2
theorem zco {R : List Chunk}  (r_ : FRow) (stage : Int)  {r : Int} (hM : (zbY r_ stage).Ends r) (w : World) (H : St w w [] R) : Ret Tryz.prog 117 #[.agg #[I r_.stage, I r_.carry], I stage] w fun v w' => ∃ (y0 : Int), y0 = r /\ v = I y0 /\ St w w' [] R := by
 refine ret_of_W Tryz.func117 rfl rfl rfl ?_
 refine W.seq ?_
 refine W.region rfl ?_
 refine t_box (v := .agg #[I r_.stage, I r_.carry]) (cs := [I r_.stage, I r_.carry]) H rfl rfl ?_
 intro aa ai H
 refine zA (I 0) rfl ?_
 refine s_nil ?_
 refine W.seq ?_
 refine W.region rfl ?_
 refine s_val (x_fa (a := Pq aa) (v := Pq aa) rfl (fa_blk (o := 0) Fd109_0 Sz3)) ?_
 refine s_val (x_ld (p := Pq aa) (v := I r_.stage) rfl (ldb_sc Sc3 (H.bl 0) rfl)) ?_
 refine zM (I stage) rfl ?_
 obtain ⟨aj, ac, hM⟩ := M.e_bind hM
 refine s_call cf118 [I r_.stage, I stage] rfl (cmp_Compare_int_ok r_.stage stage ac _ (H.gt 1)) ?_
 rintro vq ak ⟨r2, ae, hvq, ab⟩
 subst ae
 subst vq
 try dsimp only at hM
 replace H := H.bk ab
 clear ab
 refine zA (I r2) rfl ?_
 refine s_nil ?_
 refine W.ret ?_
 have ag := M.e_pure hM
 exact ⟨_, resE_tmp rfl, ⟨r2, ag, rfl, (H.pk [])⟩⟩

def zb9 (x : List FRow) (target : Int) : (Int × Int) -> M ((Int × Int) ⊕ Int) := fun (i, j) =>
  bif decide (i < j) then (
  M.grd (decide ((-9223372036854775808 : Int) <= (i + j)) && decide ((i + j) <= (9223372036854775807 : Int))) <|
  M.grd (decide ((0 : Int) <= (i + j)) && decide ((i + j) <= (9223372036854775807 : Int))) <|
  M.grd (decide ((0 : Int) <= ((i + j) / 2)) && decide (((i + j) / 2) <= (9223372036854775807 : Int))) <|
  M.grd (decide ((0 : Int) <= ((i + j) / 2)) && decide (((i + j) / 2) < (x.length : Int))) <|
  M.bind (zbY (x.getD (Int.toNat ((i + j) / 2)) default) target) fun r2 =>
  bif decide (r2 < 0) then (
  M.pure (.inl (((i + j) / 2) + 1, j)))
  else (
  M.pure (.inl (i, (i + j) / 2))))
  else (
  M.pure (.inr i))
def zcq (x : List FRow) (target : Int) : M (Int × Bool) :=
  M.bind (M.iter (zb9 x target) (0, (x.length : Int))) fun i2 =>
  M.grd ((!(decide (i2 < (x.length : Int))) || (decide ((0 : Int) <= i2) && decide (i2 < (x.length : Int))))) <|
  M.bind (M.opt (decide (i2 < (x.length : Int))) (zbY (x.getD (Int.toNat i2) default) target) 0) fun r3 =>
  M.pure (i2, ((decide (i2 < (x.length : Int))) && (r3 == 0)))
theorem zdl {R : List Chunk} {ap : Cells} {ab : Value} (x : List FRow) (target : Int) (aq : Reads R ap) (ag : Sl ap ab x) {r : (Int × Bool)} (hM : (zcq x target).Ends r) (w : World) (H : St w w [] R) : Ret Tryz.prog 116 #[ab, I target, .func (.func 117) #[] #[]] w fun v w' => ∃ (y0 : Int) (y1 : Bool), (y0, y1) = r /\ v = .tuple #[I y0, B y1] /\ St w w' [] R := by
 refine ret_of_W Tryz.func116 rfl rfl rfl ?_
 refine W.seq ?_
 refine W.region rfl ?_
 refine zA (I 0) rfl ?_
 refine zA (B false) rfl ?_
 refine s_nil ?_
 refine W.seq ?_
 refine W.region rfl ?_
 refine zM ab rfl ?_
 have aJ := (ag).len_le
 refine s_val (x_lenS T66.und rfl ag) ?_
 refine zA (I (x.length : Int)) rfl ?_
 refine s_nil ?_
 refine W.seq ?_
 refine W.region rfl ?_
 refine zM (I (x.length : Int)) rfl ?_
 refine zA (I 0) rfl ?_
 refine zA (I (x.length : Int)) rfl ?_
 refine s_nil ?_
 refine W.seq ?_
 refine W.block ?_
 obtain ⟨ay, ak, az⟩ := M.e_bind hM
 obtain ⟨aK, ak⟩ := M.e_iter ak
 refine W.loop (fun m σ W => ∃ (i : Int) (j : Int) (ρ : Env), σ = upds ρ [(0, ab), (1, I target), (2, .func (.func 117) #[] #[]), (8, I (x.length : Int)), (9, I i), (10, I j)] /\ M.iterN (zb9 x target) m (i, j) = some ay /\ St w W [] R) ?_ ?_
 ·exact ⟨_, 0, (x.length : Int), _, upds_of _ _ ⟨rfl, rfl, rfl, rfl, rfl, rfl, trivial⟩, ak, H⟩
 rintro aL σ aM ⟨i, j, ρ, rfl, au, H⟩
 obtain ⟨av, aw, aN, hM, am⟩ := M.e_iterN au
 simp only [zb9] at hM
 clear au
 refine W.seq ?_
 refine W.seq ?_
 refine W.region rfl ?_
 refine zM (I i) rfl ?_
 refine zM (I j) rfl ?_
 refine zC i j (decide (i < j)) rfl rfl rfl ?_
 refine s_nil ?_
 refine W.cond (decide (i < j)) rfl (fun ai => ?_) (fun ai => ?_)
 ·replace hM := M.e_t hM ai
  simp only [qy1, qy2, qy3, qy4, qy5, qy6, ne_eq, qy7] at ai
  refine W.skip ?_
  refine W.block ?_
  refine W.seq ?_
  refine W.region rfl ?_
  refine zM (I i) rfl ?_
  refine zM (I j) rfl ?_
  obtain ⟨aA, hM⟩ := M.e_grd hM
  simp only [Bool.and_eq_true, decide_eq_true_eq] at aA
  refine zR i j (i + j) rfl rfl rfl (by omega) ?_
  obtain ⟨aB, hM⟩ := M.e_grd hM
  simp only [Bool.and_eq_true, decide_eq_true_eq] at aB
  refine s_val (x_convU (kd := .i64) (a := i + j) Tryz.underlying3 Tryz.underlying185 rfl (by omega)) ?_
  refine s_val (x_ushr1 (a := i + j) rfl rfl) ?_
  obtain ⟨aC, hM⟩ := M.e_grd hM
  simp only [Bool.and_eq_true, decide_eq_true_eq] at aC
  refine s_val (x_conv64 (kd := .u64) (a := (i + j) / 2) Tryz.underlying185 Tryz.underlying3 rfl (by omega)) ?_
  refine zA (I ((i + j) / 2)) rfl ?_
  refine s_nil ?_
  refine W.seq ?_
  refine W.region rfl ?_
  refine zM (.func (.func 117) #[] #[]) rfl ?_
  refine zM ab rfl ?_
  refine zM (I ((i + j) / 2)) rfl ?_
  obtain ⟨aD, hM⟩ := M.e_grd hM
  simp only [Bool.and_eq_true, decide_eq_true_eq] at aD
  refine s_val (x_ix (a := ab) (b := I ((i + j) / 2)) (v := vat ab 2 (Int.toNat ((i + j) / 2))) rfl rfl (Sl.ix (α := FRow) T66.und T66.size ag (by omega) (by omega))) ?_
  refine s_val (x_ld (p := vat ab 2 (Int.toNat ((i + j) / 2))) (v := .agg #[I ((x.getD (Int.toNat ((i + j) / 2)) default).stage), I ((x.getD (Int.toNat ((i + j) / 2)) default).carry)]) rfl (ld_ag Ag109 Sz109 (At.mono (FRow_atA ag (i := (i + j) / 2) (by omega) (by omega)) (aq.at H)))) ?_
  refine zM (I target) rfl ?_
  obtain ⟨aO, aE, hM⟩ := M.e_bind hM
  refine s_callv (f := 117) rfl cf117 [.agg #[I ((x.getD (Int.toNat ((i + j) / 2)) default).stage), I ((x.getD (Int.toNat ((i + j) / 2)) default).carry)], I target] rfl (zco (x.getD (Int.toNat ((i + j) / 2)) default) target aE _ (H.gt 0)) ?_
  rintro vq aP ⟨r2, aF, hvq, ax⟩
  subst aF
  subst vq
  try dsimp only at hM
  replace H := H.bk ax
  clear ax
  refine zC r2 0 (decide (r2 < 0)) rfl rfl rfl ?_
  refine s_nil ?_
  refine W.cond (decide (r2 < 0)) rfl (fun aj => ?_) (fun aj => ?_)
  ·replace hM := M.e_t hM aj
   simp only [qy1, qy2, qy3, qy4, qy5, qy6, ne_eq, qy7] at aj
   refine W.region rfl ?_
   refine zM (I ((i + j) / 2)) rfl ?_
   refine zR ((i + j) / 2) 1 (((i + j) / 2) + 1) rfl rfl rfl (by omega) ?_
   refine zA (I (((i + j) / 2) + 1)) rfl ?_
   refine s_nil ?_
   exact ⟨av, aw, ((i + j) / 2) + 1, j, _, upds_of _ _ ⟨rfl, rfl, rfl, rfl, rfl, rfl, trivial⟩, M.e_inl hM am, H⟩
  replace hM := M.e_f hM aj
  simp only [qy1, qy2, qy3, qy4, qy5, qy6, ne_eq, qy7] at aj
  refine W.region rfl ?_
  refine zM (I ((i + j) / 2)) rfl ?_
  refine zA (I ((i + j) / 2)) rfl ?_
  refine s_nil ?_
  exact ⟨av, aw, i, (i + j) / 2, _, upds_of _ _ ⟨rfl, rfl, rfl, rfl, rfl, rfl, trivial⟩, M.e_inl hM am, H⟩
 replace hM := M.e_f hM ai
 simp only [qy1, qy2, qy3, qy4, qy5, qy6, ne_eq, qy7] at ai
 refine W.exit ?_
 have aG := M.e_inr hM am
 subst aG
 replace hM := az
 try dsimp only at hM
 refine W.seq ?_
 refine W.region rfl ?_
 refine zM (I i) rfl ?_
 refine zM (I i) rfl ?_
 refine zM (I (x.length : Int)) rfl ?_
 refine zC i (x.length : Int) (decide (i < (x.length : Int))) rfl rfl rfl ?_
 refine zM (B (decide (i < (x.length : Int)))) rfl ?_
 refine g_val (decide (i < (x.length : Int))) (gy_t rfl) (fun hg => x_mv (v := .func (.func 117) #[] #[]) rfl) ?_
 refine g_val (decide (i < (x.length : Int))) (gy_t rfl) (fun hg => x_mv (v := ab) rfl) ?_
 refine g_val (decide (i < (x.length : Int))) (gy_t rfl) (fun hg => x_mv (v := I i) rfl) ?_
 obtain ⟨ac, hM⟩ := M.e_grd hM
 replace ac := M.imp_of ac
 simp only [Bool.and_eq_true, decide_eq_true_eq] at ac
 refine g_val (decide (i < (x.length : Int))) (gy_t rfl) (fun hg => x_ix (a := ab) (b := I i) (v := vat ab 2 (Int.toNat i)) (gd_of (c := decide (i < (x.length : Int))) hg (ab)) (gd_of (c := decide (i < (x.length : Int))) hg (I i)) (Sl.ix (α := FRow) T66.und T66.size ag (by have aa := ac.resolve_left (by rw [hg]; decide); first | exact aa | exact aa.1 | exact aa.2 | omega | (have ae := hg; simp at ae; omega)) (by have aa := ac.resolve_left (by rw [hg]; decide); first | exact aa | exact aa.1 | exact aa.2 | omega | (have ae := hg; simp at ae; omega)))) ?_
 refine g_val (decide (i < (x.length : Int))) (gy_t rfl) (fun hg => x_ld (p := vat ab 2 (Int.toNat i)) (v := .agg #[I ((x.getD (Int.toNat i) default).stage), I ((x.getD (Int.toNat i) default).carry)]) (gd_of (c := decide (i < (x.length : Int))) hg (vat ab 2 (Int.toNat i))) (ld_ag Ag109 Sz109 (At.mono (FRow_atA ag (i := i) (by have aa := ac.resolve_left (by rw [hg]; decide); first | exact aa | exact aa.1 | exact aa.2 | omega | (have ae := hg; simp at ae; omega)) (by have aa := ac.resolve_left (by rw [hg]; decide); first | exact aa | exact aa.1 | exact aa.2 | omega | (have ae := hg; simp at ae; omega))) (aq.at H)))) ?_
 refine g_val (decide (i < (x.length : Int))) (gy_t rfl) (fun hg => x_mv (v := I target) rfl) ?_
 obtain ⟨r3, aH, hM⟩ := M.e_bind hM
 refine t_gcallv (cap := []) (decide (i < (x.length : Int))) (gy_t rfl) cf117 (fun hg => (gd_of (c := decide (i < (x.length : Int))) hg (.func (.func 117) #[] #[]))) (I r3) (fun _ => [.agg #[I ((x.getD (Int.toNat i) default).stage), I ((x.getD (Int.toNat i) default).carry)], I target]) (fun hg => lst2 (gd_of (c := decide (i < (x.length : Int))) hg (.agg #[I ((x.getD (Int.toNat i) default).stage), I ((x.getD (Int.toNat i) default).carry)])) (gd_of (c := decide (i < (x.length : Int))) hg (I target))) H (fun hg => (zco (x.getD (Int.toNat i) default) target (M.e_opt aH hg) _ (H.give (A := []) rfl)).mono fun v_ w_ ⟨y_, ao, aI, H_⟩ => by subst ao; exact ⟨aI, H.via H_⟩) ?_
 intro aQ H
 refine g_val (decide (i < (x.length : Int))) (gy_t rfl) (fun hg => x_cmp (kd := .i64) (a := r3) (b := 0) (r := r3 == 0) (gd_of (c := decide (i < (x.length : Int))) hg (I r3)) rfl rfl) ?_
 refine s_val (x_pand (b := decide (i < (x.length : Int))) (r := r3 == 0) rfl (fun hb => gd_of (c := decide (i < (x.length : Int))) (by first | exact hb | (rw [hb]; rfl) | simp_all) (B (r3 == 0))) rfl) ?_
 refine zA (I i) rfl ?_
 refine zA (B ((decide (i < (x.length : Int))) && (r3 == 0))) rfl ?_
 refine s_nil ?_
 refine W.ret ?_
 have ao := M.e_pure hM
 exact ⟨_, resE_tmp2 rfl, ⟨i, ((decide (i < (x.length : Int))) && (r3 == 0)), ao, rfl, H⟩⟩

def zaa (aa : List Sect) (ab : List Mrk) (ac : List Rch) (x : Spot) : M Int :=
  M.grd (decide ((0 : Int) <= x.sec) && decide (x.sec < (aa.length : Int))) <|
  M.bind (zcq ((aa.getD (Int.toNat x.sec) default).rows) x.stage) fun (r0, r1) =>
  bif r1 then (
  M.grd (decide ((0 : Int) <= r0) && decide (r0 < (((aa.getD (Int.toNat x.sec) default).rows).length : Int))) <|
  M.pure ((((aa.getD (Int.toNat x.sec) default).rows).getD (Int.toNat r0) default).carry))
  else (
  bif r0 == (((aa.getD (Int.toNat x.sec) default).rows).length : Int) then (
  M.grd (decide ((-9223372036854775808 : Int) <= (r0 - 1)) && decide ((r0 - 1) <= (9223372036854775807 : Int))) <|
  M.grd (decide ((0 : Int) <= (r0 - 1)) && decide ((r0 - 1) < (((aa.getD (Int.toNat x.sec) default).rows).length : Int))) <|
  M.pure ((((aa.getD (Int.toNat x.sec) default).rows).getD (Int.toNat (r0 - 1)) default).carry))
  else (
  bif decide (0 < r0) then (
  M.grd (decide ((-9223372036854775808 : Int) <= (r0 - 1)) && decide ((r0 - 1) <= (9223372036854775807 : Int))) <|
  M.grd (decide ((0 : Int) <= (r0 - 1)) && decide ((r0 - 1) < (((aa.getD (Int.toNat x.sec) default).rows).length : Int))) <|
  M.grd (decide ((0 : Int) <= r0) && decide (r0 < (((aa.getD (Int.toNat x.sec) default).rows).length : Int))) <|
  M.grd (decide ((-9223372036854775808 : Int) <= (((((aa.getD (Int.toNat x.sec) default).rows).getD (Int.toNat r0) default).carry) - ((((aa.getD (Int.toNat x.sec) default).rows).getD (Int.toNat (r0 - 1)) default).carry))) && decide ((((((aa.getD (Int.toNat x.sec) default).rows).getD (Int.toNat r0) default).carry) - ((((aa.getD (Int.toNat x.sec) default).rows).getD (Int.toNat (r0 - 1)) default).carry)) <= (9223372036854775807 : Int))) <|
  M.grd (decide ((-9223372036854775808 : Int) <= (x.stage - ((((aa.getD (Int.toNat x.sec) default).rows).getD (Int.toNat (r0 - 1)) default).stage))) && decide ((x.stage - ((((aa.getD (Int.toNat x.sec) default).rows).getD (Int.toNat (r0 - 1)) default).stage)) <= (9223372036854775807 : Int))) <|
  M.grd (decide ((-9223372036854775808 : Int) <= ((((((aa.getD (Int.toNat x.sec) default).rows).getD (Int.toNat r0) default).carry) - ((((aa.getD (Int.toNat x.sec) default).rows).getD (Int.toNat (r0 - 1)) default).carry)) * (x.stage - ((((aa.getD (Int.toNat x.sec) default).rows).getD (Int.toNat (r0 - 1)) default).stage)))) && decide (((((((aa.getD (Int.toNat x.sec) default).rows).getD (Int.toNat r0) default).carry) - ((((aa.getD (Int.toNat x.sec) default).rows).getD (Int.toNat (r0 - 1)) default).carry)) * (x.stage - ((((aa.getD (Int.toNat x.sec) default).rows).getD (Int.toNat (r0 - 1)) default).stage))) <= (9223372036854775807 : Int))) <|
  M.grd (decide ((-9223372036854775808 : Int) <= (((((aa.getD (Int.toNat x.sec) default).rows).getD (Int.toNat r0) default).stage) - ((((aa.getD (Int.toNat x.sec) default).rows).getD (Int.toNat (r0 - 1)) default).stage))) && decide ((((((aa.getD (Int.toNat x.sec) default).rows).getD (Int.toNat r0) default).stage) - ((((aa.getD (Int.toNat x.sec) default).rows).getD (Int.toNat (r0 - 1)) default).stage)) <= (9223372036854775807 : Int))) <|
  M.grd (decide (0 <= ((((((aa.getD (Int.toNat x.sec) default).rows).getD (Int.toNat r0) default).carry) - ((((aa.getD (Int.toNat x.sec) default).rows).getD (Int.toNat (r0 - 1)) default).carry)) * (x.stage - ((((aa.getD (Int.toNat x.sec) default).rows).getD (Int.toNat (r0 - 1)) default).stage)))) && decide (((((((aa.getD (Int.toNat x.sec) default).rows).getD (Int.toNat r0) default).carry) - ((((aa.getD (Int.toNat x.sec) default).rows).getD (Int.toNat (r0 - 1)) default).carry)) * (x.stage - ((((aa.getD (Int.toNat x.sec) default).rows).getD (Int.toNat (r0 - 1)) default).stage))) <= (9223372036854775807 : Int)) && decide ((0 : Int) < (((((aa.getD (Int.toNat x.sec) default).rows).getD (Int.toNat r0) default).stage) - ((((aa.getD (Int.toNat x.sec) default).rows).getD (Int.toNat (r0 - 1)) default).stage)))) <|
  M.grd (decide ((-9223372036854775808 : Int) <= (((((aa.getD (Int.toNat x.sec) default).rows).getD (Int.toNat (r0 - 1)) default).carry) + (((((((aa.getD (Int.toNat x.sec) default).rows).getD (Int.toNat r0) default).carry) - ((((aa.getD (Int.toNat x.sec) default).rows).getD (Int.toNat (r0 - 1)) default).carry)) * (x.stage - ((((aa.getD (Int.toNat x.sec) default).rows).getD (Int.toNat (r0 - 1)) default).stage))) / (((((aa.getD (Int.toNat x.sec) default).rows).getD (Int.toNat r0) default).stage) - ((((aa.getD (Int.toNat x.sec) default).rows).getD (Int.toNat (r0 - 1)) default).stage))))) && decide ((((((aa.getD (Int.toNat x.sec) default).rows).getD (Int.toNat (r0 - 1)) default).carry) + (((((((aa.getD (Int.toNat x.sec) default).rows).getD (Int.toNat r0) default).carry) - ((((aa.getD (Int.toNat x.sec) default).rows).getD (Int.toNat (r0 - 1)) default).carry)) * (x.stage - ((((aa.getD (Int.toNat x.sec) default).rows).getD (Int.toNat (r0 - 1)) default).stage))) / (((((aa.getD (Int.toNat x.sec) default).rows).getD (Int.toNat r0) default).stage) - ((((aa.getD (Int.toNat x.sec) default).rows).getD (Int.toNat (r0 - 1)) default).stage)))) <= (9223372036854775807 : Int))) <|
  M.pure (((((aa.getD (Int.toNat x.sec) default).rows).getD (Int.toNat (r0 - 1)) default).carry) + (((((((aa.getD (Int.toNat x.sec) default).rows).getD (Int.toNat r0) default).carry) - ((((aa.getD (Int.toNat x.sec) default).rows).getD (Int.toNat (r0 - 1)) default).carry)) * (x.stage - ((((aa.getD (Int.toNat x.sec) default).rows).getD (Int.toNat (r0 - 1)) default).stage))) / (((((aa.getD (Int.toNat x.sec) default).rows).getD (Int.toNat r0) default).stage) - ((((aa.getD (Int.toNat x.sec) default).rows).getD (Int.toNat (r0 - 1)) default).stage)))))
  else (
  M.pure 0)))
theorem zct {R : List Chunk} {ab : Nat} {aF : Cells} {au : Value} {aG : Cells} {aH : Value} {aI : Cells} {aJ : Value} {aj : Nat} (aa : List Sect) (aA : List Mrk) (aB : List Rch) (x : Spot) (ax : Reads R aF) (aC : Sl aF au aa) (bj : Reads R aG) (bm : Sl aG aH aA) (bn : Reads R aI) (bo : Sl aI aJ aB) (av : Has R (cBlk ab [au, aH, aJ, .map (some aj)] 177)) {r : Int} (hM : (zaa aa aA aB x).Ends r) (w : World) (H : St w w [cMemI encSpt aj (zaa aa aA aB)] R) : Ret Tryz.prog 83 #[Pq ab, .agg #[I x.sec, I x.stage]] w fun v w' => ∃ (y0 : Int), y0 = r /\ v = I y0 /\ St w w' [cMemI encSpt aj (zaa aa aA aB)] R := by
 refine ret_of_W Tryz.func83 rfl rfl rfl ?_
 have hM0 := hM
 obtain ⟨ak, H, aw⟩ := St.memOpenI H (i := 0) rfl
 replace H := H.nf
 cases aD : ak x with
 | none =>
  refine W.seq ?_
  refine W.region rfl ?_
  refine t_box (v := .agg #[I x.sec, I x.stage]) (cs := [I x.sec, I x.stage]) H rfl rfl ?_
  intro ac bp H
  refine zA (I 0) rfl ?_
  refine s_nil ?_
  refine W.seq ?_
  refine W.seq ?_
  refine W.draw (fun W => St w W [cBlk ac [I x.sec, I x.stage] 160] R) [(0, true), (1, true), (2, true), (3, true), (4, true), (5, false), (6, true), (7, true), (8, true), (9, true), (10, true)] mixed (by decide +kernel) rfl ?_
  intro bq ae
  replace H := H.ext ae
  clear ae
  refine ⟨(H.pk [0]), ?_⟩
  refine d_q rfl (fun w' H => x_mv (v := Pq ab) rfl) ?_
  refine d_q rfl (fun w' H => x_nc (a := ⟨ab, 0, none⟩) rfl) ?_
  refine d_q rfl (fun w' H => x_fa (a := Pq ab) (v := Oq ab 3) rfl (fa_blk (o := 0) Fd177_1 Sz175)) ?_
  refine d_q rfl (fun w' H => x_ld (p := Oq ab 3) (v := .map (some aj)) rfl (ldb_sc Sc175 (av.blk H) rfl)) ?_
  refine d_q rfl (fun w' H => x_ld (p := Pq ac) (v := .agg #[I x.sec, I x.stage]) rfl (ldb_ag (ds := [I x.sec, I x.stage]) Ag160 Sz160 (H.bl 0) rfl rfl)) ?_
  refine d_l rfl ?_
  refine s_val (q_look (kenc := encSpt) (venc := I) (f := ak) (k := x) (z := I 0) (v := .tuple #[I 0, B false]) keySpot Tryz.underlying175 Al3 rfl rfl (H.get (k := 1) rfl) true (by simp [aD])) ?_
  refine s_nil ⟨(H.pk [0]), ?_⟩
  refine d_q rfl (fun w' H => x_mv (v := .tuple #[I 0, B false]) rfl) ?_
  refine d_q rfl (fun w' H => x_ext (vs := [I 0, B false]) (v := I 0) rfl rfl) ?_
  refine d_q rfl (fun w' H => x_ext (vs := [I 0, B false]) (v := B false) rfl rfl) ?_
  refine d_q rfl (fun w' H => x_as (v := I 0) rfl) ?_
  refine d_q rfl (fun w' H => x_as (v := B false) rfl) ?_
  refine d_nil ?_
  refine W.seq ?_
  refine W.region rfl ?_
  refine zM (B false) rfl ?_
  refine s_nil ?_
  refine W.cond false rfl (fun aK => ?_) (fun aK => ?_)
  ·skip
   exact absurd aK (by decide)
  skip
  refine W.skip ?_
  refine W.seq ?_
  refine W.draw (fun W => St w W [cBlk ac [I x.sec, I x.stage] 160, cMap encSpt I aj ak] R) [(0, true), (1, true), (2, true), (3, true), (4, true), (5, true), (6, true), (7, true), (8, true), (9, true), (10, true)] mixed (by decide +kernel) rfl ?_
  intro br ae
  replace H := H.ext ae
  clear ae
  refine ⟨(H.pk [0, 1]), ?_⟩
  refine d_q rfl (fun w' H => x_mv (v := Pq ab) rfl) ?_
  refine d_q rfl (fun w' H => x_nc (a := ⟨ab, 0, none⟩) rfl) ?_
  refine d_q rfl (fun w' H => x_fa (a := Pq ab) (v := Pq ab) rfl (fa_blk (o := 0) Fd177_0 Sz27)) ?_
  refine d_q rfl (fun w' H => x_fa (a := Pq ab) (v := Pq ab) rfl (fa_blk (o := 0) Fd27_0 Sz23)) ?_
  refine d_q rfl (fun w' H => x_ld (p := Pq ab) (v := au) rfl (ldb_sc Sc23 (av.blk H) rfl)) ?_
  refine d_q rfl (fun w' H => x_fa (a := Pq ac) (v := Pq ac) rfl (fa_blk (o := 0) Fd160_0 Sz3)) ?_
  refine d_q rfl (fun w' H => x_ld (p := Pq ac) (v := I x.sec) rfl (ldb_sc Sc3 (H.bl 0) rfl)) ?_
  obtain ⟨aN, hM⟩ := M.e_grd hM
  simp only [Bool.and_eq_true, decide_eq_true_eq] at aN
  refine d_q rfl (fun w' H => x_ix (a := au) (b := I x.sec) (v := vat au 2 (Int.toNat x.sec)) rfl rfl (Sl.ix (α := Sect) T23.und T23.size aC (by omega) (by omega))) ?_
  refine d_q rfl (fun w' H => x_fa (a := vat au 2 (Int.toNat x.sec)) (v := fat (vat au 2 (Int.toNat x.sec)) 1) rfl (fa_pl Fd68_1 Sz66 (Sl.pl (i := x.sec) aC (by omega) (by omega)))) ?_
  obtain ⟨ai, aO, am⟩ := Sect_at1 aC (i := x.sec) (by omega) (by omega)
  replace am : Sl _ ai (aa.getD (Int.toNat x.sec) default).rows := am
  have bt := am.len_le
  refine d_q rfl (fun w' H => x_ld (p := fat (vat au 2 (Int.toNat x.sec)) 1) (v := ai) rfl (ld_sc Sc66 (At.mono (aO) (ax.at H)))) ?_
  refine d_q rfl (fun w' H => x_as (v := ai) rfl) ?_
  refine d_nil ?_
  refine W.seq ?_
  refine W.region rfl ?_
  refine zM ai rfl ?_
  refine s_val (x_fa (a := Pq ac) (v := Oq ac 1) rfl (fa_blk (o := 0) Fd160_1 Sz3)) ?_
  refine s_val (x_ld (p := Oq ac 1) (v := I x.stage) rfl (ldb_sc Sc3 (H.bl 0) rfl)) ?_
  obtain ⟨bu, aP, hM⟩ := M.e_bind hM
  refine s_call cf116 [ai, I x.stage, .func (.func 117) #[] #[]] rfl (zdl ((aa.getD (Int.toNat x.sec) default).rows) x.stage (ax.app _) am aP _ (H.gt 2)) ?_
  rintro vq bv ⟨r0, r1, aQ, hvq, aL⟩
  subst aQ
  subst vq
  try dsimp only at hM
  replace H := H.bk aL
  clear aL
  refine zM (.tuple #[I r0, B r1]) rfl ?_
  refine zX [I r0, B r1] (I r0) rfl rfl ?_
  refine zX [I r0, B r1] (B r1) rfl rfl ?_
  refine zA (I r0) rfl ?_
  refine zA (B r1) rfl ?_
  refine s_nil ?_
  refine W.seq ?_
  refine W.region rfl ?_
  refine zA (I 0) rfl ?_
  refine s_nil ?_
  refine W.seq ?_
  refine W.block ?_
  refine W.seq ?_
  refine W.region rfl ?_
  refine zM (B r1) rfl ?_
  refine zA (B r1) rfl ?_
  refine s_nil ?_
  refine W.cond r1 rfl (fun aE => ?_) (fun aE => ?_)
  ·replace hM := M.e_t hM aE
   refine W.region rfl ?_
   refine zM ai rfl ?_
   refine zM (I r0) rfl ?_
   obtain ⟨aR, hM⟩ := M.e_grd hM
   simp only [Bool.and_eq_true, decide_eq_true_eq] at aR
   refine s_val (x_ix (a := ai) (b := I r0) (v := vat ai 2 (Int.toNat r0)) rfl rfl (Sl.ix (α := FRow) T66.und T66.size am (by omega) (by omega))) ?_
   refine s_val (x_fa (a := vat ai 2 (Int.toNat r0)) (v := fat (vat ai 2 (Int.toNat r0)) 1) rfl (fa_pl Fd109_1 Sz3 (Sl.pl (i := r0) am (by omega) (by omega)))) ?_
   refine s_val (x_ld (p := fat (vat ai 2 (Int.toNat r0)) 1) (v := I ((((aa.getD (Int.toNat x.sec) default).rows).getD (Int.toNat r0) default).carry)) rfl (ld_sc Sc3 (At.mono (FRow_at1 am (i := r0) (by omega) (by omega)) (ax.at H)))) ?_
   refine zA (I ((((aa.getD (Int.toNat x.sec) default).rows).getD (Int.toNat r0) default).carry)) rfl ?_
   refine s_nil ?_
   refine W.seq ?_
   refine W.draw (fun W => St w W [cBlk ac [I x.sec, I x.stage] 160] R) [(0, true), (1, true), (2, true), (3, true), (4, true), (5, true), (6, false)] mixed (by decide +kernel) rfl ?_
   intro bw ae
   replace H := H.ext ae
   clear ae
   refine ⟨(H.pk [0]), ?_⟩
   refine d_q rfl (fun w' H => x_mv (v := Pq ab) rfl) ?_
   refine d_q rfl (fun w' H => x_nc (a := ⟨ab, 0, none⟩) rfl) ?_
   refine d_q rfl (fun w' H => x_fa (a := Pq ab) (v := Oq ab 3) rfl (fa_blk (o := 0) Fd177_1 Sz175)) ?_
   refine d_q rfl (fun w' H => x_ld (p := Oq ab 3) (v := .map (some aj)) rfl (ldb_sc Sc175 (av.blk H) rfl)) ?_
   refine d_q rfl (fun w' H => x_ld (p := Pq ac) (v := .agg #[I x.sec, I x.stage]) rfl (ldb_ag (ds := [I x.sec, I x.stage]) Ag160 Sz160 (H.bl 0) rfl rfl)) ?_
   refine d_q rfl (fun w' H => x_mv (v := I ((((aa.getD (Int.toNat x.sec) default).rows).getD (Int.toNat r0) default).carry)) rfl) ?_
   refine d_l rfl ?_
   refine t_mapu (i := 1) (kenc := encSpt) (venc := I) (f := ak) (k := x) (v := (((aa.getD (Int.toNat x.sec) default).rows).getD (Int.toNat r0) default).carry) (L' := [cBlk ac [I x.sec, I x.stage] 160, cMap encSpt I aj (updF ak x ((((aa.getD (Int.toNat x.sec) default).rows).getD (Int.toNat r0) default).carry))]) keySpot Tryz.underlying175 H rfl rfl rfl rfl rfl ?_
   intro bx H
   refine s_nil ⟨(H.pk [0]), ?_⟩
   refine d_nil ?_
   refine W.seq ?_
   refine W.region rfl ?_
   refine zM (I ((((aa.getD (Int.toNat x.sec) default).rows).getD (Int.toNat r0) default).carry)) rfl ?_
   refine zA (I ((((aa.getD (Int.toNat x.sec) default).rows).getD (Int.toNat r0) default).carry)) rfl ?_
   refine s_nil ?_
   refine W.ret ?_
   replace H := St.memShutI H (i := 1) rfl (memIput aw (by rw [M.e_pure hM]; exact hM0))
   replace H := H.nf
   have aq := M.e_pure hM
   exact ⟨_, resE_tmp rfl, ⟨((((aa.getD (Int.toNat x.sec) default).rows).getD (Int.toNat r0) default).carry), aq, rfl, (H.pk [1])⟩⟩
  replace hM := M.e_f hM aE
  refine W.seq ?_
  refine W.region rfl ?_
  refine zM (I r0) rfl ?_
  refine zM ai rfl ?_
  have bz := (am).len_le
  refine s_val (x_lenS T66.und rfl am) ?_
  refine zC r0 (((aa.getD (Int.toNat x.sec) default).rows).length : Int) (r0 == (((aa.getD (Int.toNat x.sec) default).rows).length : Int)) rfl rfl rfl ?_
  refine zA (B (r0 == (((aa.getD (Int.toNat x.sec) default).rows).length : Int))) rfl ?_
  refine s_nil ?_
  refine W.cond (r0 == (((aa.getD (Int.toNat x.sec) default).rows).length : Int)) rfl (fun ay => ?_) (fun ay => ?_)
  ·replace hM := M.e_t hM ay
   simp only [qy1, qy2, qy3, qy4, qy5, qy6, ne_eq, qy7] at ay
   refine W.region rfl ?_
   refine zM ai rfl ?_
   refine zM (I r0) rfl ?_
   obtain ⟨aS, hM⟩ := M.e_grd hM
   simp only [Bool.and_eq_true, decide_eq_true_eq] at aS
   refine zR r0 1 (r0 - 1) rfl rfl rfl (by omega) ?_
   obtain ⟨aT, hM⟩ := M.e_grd hM
   simp only [Bool.and_eq_true, decide_eq_true_eq] at aT
   refine s_val (x_ix (a := ai) (b := I (r0 - 1)) (v := vat ai 2 (Int.toNat (r0 - 1))) rfl rfl (Sl.ix (α := FRow) T66.und T66.size am (by omega) (by omega))) ?_
   refine s_val (x_fa (a := vat ai 2 (Int.toNat (r0 - 1))) (v := fat (vat ai 2 (Int.toNat (r0 - 1))) 1) rfl (fa_pl Fd109_1 Sz3 (Sl.pl (i := r0 - 1) am (by omega) (by omega)))) ?_
   refine s_val (x_ld (p := fat (vat ai 2 (Int.toNat (r0 - 1))) 1) (v := I ((((aa.getD (Int.toNat x.sec) default).rows).getD (Int.toNat (r0 - 1)) default).carry)) rfl (ld_sc Sc3 (At.mono (FRow_at1 am (i := r0 - 1) (by omega) (by omega)) (ax.at H)))) ?_
   refine zA (I ((((aa.getD (Int.toNat x.sec) default).rows).getD (Int.toNat (r0 - 1)) default).carry)) rfl ?_
   refine s_nil ?_
   refine W.seq ?_
   refine W.draw (fun W => St w W [cBlk ac [I x.sec, I x.stage] 160] R) [(0, true), (1, true), (2, true), (3, true), (4, true), (5, true), (6, false)] mixed (by decide +kernel) rfl ?_
   intro bA ae
   replace H := H.ext ae
   clear ae
   refine ⟨(H.pk [0]), ?_⟩
   refine d_q rfl (fun w' H => x_mv (v := Pq ab) rfl) ?_
   refine d_q rfl (fun w' H => x_nc (a := ⟨ab, 0, none⟩) rfl) ?_
   refine d_q rfl (fun w' H => x_fa (a := Pq ab) (v := Oq ab 3) rfl (fa_blk (o := 0) Fd177_1 Sz175)) ?_
   refine d_q rfl (fun w' H => x_ld (p := Oq ab 3) (v := .map (some aj)) rfl (ldb_sc Sc175 (av.blk H) rfl)) ?_
   refine d_q rfl (fun w' H => x_ld (p := Pq ac) (v := .agg #[I x.sec, I x.stage]) rfl (ldb_ag (ds := [I x.sec, I x.stage]) Ag160 Sz160 (H.bl 0) rfl rfl)) ?_
   refine d_q rfl (fun w' H => x_mv (v := I ((((aa.getD (Int.toNat x.sec) default).rows).getD (Int.toNat (r0 - 1)) default).carry)) rfl) ?_
   refine d_l rfl ?_
   refine t_mapu (i := 1) (kenc := encSpt) (venc := I) (f := ak) (k := x) (v := (((aa.getD (Int.toNat x.sec) default).rows).getD (Int.toNat (r0 - 1)) default).carry) (L' := [cBlk ac [I x.sec, I x.stage] 160, cMap encSpt I aj (updF ak x ((((aa.getD (Int.toNat x.sec) default).rows).getD (Int.toNat (r0 - 1)) default).carry))]) keySpot Tryz.underlying175 H rfl rfl rfl rfl rfl ?_
   intro bB H
   refine s_nil ⟨(H.pk [0]), ?_⟩
   refine d_nil ?_
   refine W.seq ?_
   refine W.region rfl ?_
   refine zM (I ((((aa.getD (Int.toNat x.sec) default).rows).getD (Int.toNat (r0 - 1)) default).carry)) rfl ?_
   refine zA (I ((((aa.getD (Int.toNat x.sec) default).rows).getD (Int.toNat (r0 - 1)) default).carry)) rfl ?_
   refine s_nil ?_
   refine W.ret ?_
   replace H := St.memShutI H (i := 1) rfl (memIput aw (by rw [M.e_pure hM]; exact hM0))
   replace H := H.nf
   have aq := M.e_pure hM
   exact ⟨_, resE_tmp rfl, ⟨((((aa.getD (Int.toNat x.sec) default).rows).getD (Int.toNat (r0 - 1)) default).carry), aq, rfl, (H.pk [1])⟩⟩
  replace hM := M.e_f hM ay
  simp only [qy1, qy2, qy3, qy4, qy5, qy6, ne_eq, qy7] at ay
  refine W.seq ?_
  refine W.region rfl ?_
  refine zM (I r0) rfl ?_
  refine zC r0 0 (decide (0 < r0)) rfl rfl rfl ?_
  refine zA (B (decide (0 < r0))) rfl ?_
  refine s_nil ?_
  refine W.cond (decide (0 < r0)) rfl (fun az => ?_) (fun az => ?_)
  ·replace hM := M.e_t hM az
   simp only [qy1, qy2, qy3, qy4, qy5, qy6, ne_eq, qy7] at az
   refine W.seq ?_
   refine W.drawT (fun W => St w W [cBlk ac [I x.sec, I x.stage] 160, cMap encSpt I aj ak] R) (.q 0 (.q 1 (.q 2 (.q 3 (.q 4 (.q 5 (.q 6 (.q 7 (.q 8 (.l2 9 (.l 10 (.l 11 (.l 12 .nil))) 10 (.l 9 (.l 11 (.l 12 .nil))))))))))))) mixed (by decide +kernel) rfl ?_
   intro bC ae
   replace H := H.ext ae
   clear ae
   refine ⟨(H.pk [0, 1]), ?_⟩
   refine t_q rfl (fun w' H => x_mv (v := ai) rfl) ?_
   refine t_q rfl (fun w' H => x_mv (v := I r0) rfl) ?_
   obtain ⟨aU, hM⟩ := M.e_grd hM
   simp only [Bool.and_eq_true, decide_eq_true_eq] at aU
   refine t_q rfl (fun w' H => x_ari (a := r0) (b := 1) (r := r0 - 1) rfl rfl rfl (by omega)) ?_
   obtain ⟨aV, hM⟩ := M.e_grd hM
   simp only [Bool.and_eq_true, decide_eq_true_eq] at aV
   refine t_q rfl (fun w' H => x_ix (a := ai) (b := I (r0 - 1)) (v := vat ai 2 (Int.toNat (r0 - 1))) rfl rfl (Sl.ix (α := FRow) T66.und T66.size am (by omega) (by omega))) ?_
   refine t_q rfl (fun w' H => x_ld (p := vat ai 2 (Int.toNat (r0 - 1))) (v := .agg #[I ((((aa.getD (Int.toNat x.sec) default).rows).getD (Int.toNat (r0 - 1)) default).stage), I ((((aa.getD (Int.toNat x.sec) default).rows).getD (Int.toNat (r0 - 1)) default).carry)]) rfl (ld_ag Ag109 Sz109 (At.mono (FRow_atA am (i := r0 - 1) (by omega) (by omega)) (ax.at H)))) ?_
   refine t_q rfl (fun w' H => x_mv (v := ai) rfl) ?_
   refine t_q rfl (fun w' H => x_mv (v := I r0) rfl) ?_
   obtain ⟨aW, hM⟩ := M.e_grd hM
   simp only [Bool.and_eq_true, decide_eq_true_eq] at aW
   refine t_q rfl (fun w' H => x_ix (a := ai) (b := I r0) (v := vat ai 2 (Int.toNat r0)) rfl rfl (Sl.ix (α := FRow) T66.und T66.size am (by omega) (by omega))) ?_
   refine t_q rfl (fun w' H => x_ld (p := vat ai 2 (Int.toNat r0)) (v := .agg #[I ((((aa.getD (Int.toNat x.sec) default).rows).getD (Int.toNat r0) default).stage), I ((((aa.getD (Int.toNat x.sec) default).rows).getD (Int.toNat r0) default).carry)]) rfl (ld_ag Ag109 Sz109 (At.mono (FRow_atA am (i := r0) (by omega) (by omega)) (ax.at H)))) ?_
   refine t_l2 rfl rfl ?_ ?_
   ·skip
    refine t_alloc (cs := [I 0, I 0]) H Al109 rfl ?_
    intro ag bD H
    refine s_nil ⟨(H.pk [1, 2]), ?_⟩
    refine t_l rfl ?_
    refine t_alloc (cs := [I 0, I 0]) H Al109 rfl ?_
    intro ao bE H
    refine s_nil ⟨(H.pk [2, 3]), ?_⟩
    refine t_l rfl ?_
    refine t_sw 1 0 [I ((((aa.getD (Int.toNat x.sec) default).rows).getD (Int.toNat (r0 - 1)) default).stage), I ((((aa.getD (Int.toNat x.sec) default).rows).getD (Int.toNat (r0 - 1)) default).carry)] (.agg #[I ((((aa.getD (Int.toNat x.sec) default).rows).getD (Int.toNat (r0 - 1)) default).stage), I ((((aa.getD (Int.toNat x.sec) default).rows).getD (Int.toNat (r0 - 1)) default).carry)]) H rfl rfl Sz109 rfl rfl rfl rfl ?_
    intro bF H
    refine s_nil ⟨(H.pk [2, 3]), ?_⟩
    refine t_l rfl ?_
    refine t_sw 0 0 [I ((((aa.getD (Int.toNat x.sec) default).rows).getD (Int.toNat r0) default).stage), I ((((aa.getD (Int.toNat x.sec) default).rows).getD (Int.toNat r0) default).carry)] (.agg #[I ((((aa.getD (Int.toNat x.sec) default).rows).getD (Int.toNat r0) default).stage), I ((((aa.getD (Int.toNat x.sec) default).rows).getD (Int.toNat r0) default).carry)]) H rfl rfl Sz109 rfl rfl rfl rfl ?_
    intro bG H
    refine s_nil ⟨(H.pk [2, 3]), ?_⟩
    refine t_nil ?_
    refine W.draw (fun W => St w W [cBlk ao [I ((((aa.getD (Int.toNat x.sec) default).rows).getD (Int.toNat r0) default).stage), I ((((aa.getD (Int.toNat x.sec) default).rows).getD (Int.toNat r0) default).carry)] 109, cBlk ag [I ((((aa.getD (Int.toNat x.sec) default).rows).getD (Int.toNat (r0 - 1)) default).stage), I ((((aa.getD (Int.toNat x.sec) default).rows).getD (Int.toNat (r0 - 1)) default).carry)] 109, cBlk ac [I x.sec, I x.stage] 160, cMap encSpt I aj ak] R) [(0, true), (1, true), (2, true), (3, true), (4, true), (5, true), (6, true), (7, true), (8, true), (9, true), (10, true), (11, true), (12, true), (13, true), (14, true), (15, true), (16, true), (17, true), (18, true), (19, true), (20, true)] mixed (by decide +kernel) rfl ?_
    intro bH ae
    replace H := H.ext ae
    clear ae
    refine ⟨(H.pk [0, 1, 2, 3]), ?_⟩
    refine d_q rfl (fun w' H => x_fa (a := Pq ag) (v := Oq ag 1) rfl (fa_blk (o := 0) Fd109_1 Sz3)) ?_
    refine d_q rfl (fun w' H => x_ld (p := Oq ag 1) (v := I ((((aa.getD (Int.toNat x.sec) default).rows).getD (Int.toNat (r0 - 1)) default).carry)) rfl (ldb_sc Sc3 (H.bl 1) rfl)) ?_
    refine d_q rfl (fun w' H => x_fa (a := Pq ao) (v := Oq ao 1) rfl (fa_blk (o := 0) Fd109_1 Sz3)) ?_
    refine d_q rfl (fun w' H => x_ld (p := Oq ao 1) (v := I ((((aa.getD (Int.toNat x.sec) default).rows).getD (Int.toNat r0) default).carry)) rfl (ldb_sc Sc3 (H.bl 0) rfl)) ?_
    refine d_q rfl (fun w' H => x_fa (a := Pq ag) (v := Oq ag 1) rfl (fa_blk (o := 0) Fd109_1 Sz3)) ?_
    refine d_q rfl (fun w' H => x_ld (p := Oq ag 1) (v := I ((((aa.getD (Int.toNat x.sec) default).rows).getD (Int.toNat (r0 - 1)) default).carry)) rfl (ldb_sc Sc3 (H.bl 1) rfl)) ?_
    obtain ⟨aX, hM⟩ := M.e_grd hM
    simp only [Bool.and_eq_true, decide_eq_true_eq] at aX
    refine d_q rfl (fun w' H => x_ari (a := (((aa.getD (Int.toNat x.sec) default).rows).getD (Int.toNat r0) default).carry) (b := (((aa.getD (Int.toNat x.sec) default).rows).getD (Int.toNat (r0 - 1)) default).carry) (r := ((((aa.getD (Int.toNat x.sec) default).rows).getD (Int.toNat r0) default).carry) - ((((aa.getD (Int.toNat x.sec) default).rows).getD (Int.toNat (r0 - 1)) default).carry)) rfl rfl rfl (by omega)) ?_
    refine d_q rfl (fun w' H => x_fa (a := Pq ac) (v := Oq ac 1) rfl (fa_blk (o := 0) Fd160_1 Sz3)) ?_
    refine d_q rfl (fun w' H => x_ld (p := Oq ac 1) (v := I x.stage) rfl (ldb_sc Sc3 (H.bl 2) rfl)) ?_
    refine d_q rfl (fun w' H => x_fa (a := Pq ag) (v := Pq ag) rfl (fa_blk (o := 0) Fd109_0 Sz3)) ?_
    refine d_q rfl (fun w' H => x_ld (p := Pq ag) (v := I ((((aa.getD (Int.toNat x.sec) default).rows).getD (Int.toNat (r0 - 1)) default).stage)) rfl (ldb_sc Sc3 (H.bl 1) rfl)) ?_
    obtain ⟨aY, hM⟩ := M.e_grd hM
    simp only [Bool.and_eq_true, decide_eq_true_eq] at aY
    refine d_q rfl (fun w' H => x_ari (a := x.stage) (b := (((aa.getD (Int.toNat x.sec) default).rows).getD (Int.toNat (r0 - 1)) default).stage) (r := x.stage - ((((aa.getD (Int.toNat x.sec) default).rows).getD (Int.toNat (r0 - 1)) default).stage)) rfl rfl rfl (by omega)) ?_
    obtain ⟨aZ, hM⟩ := M.e_grd hM
    simp only [Bool.and_eq_true, decide_eq_true_eq] at aZ
    refine d_q rfl (fun w' H => x_ari (a := ((((aa.getD (Int.toNat x.sec) default).rows).getD (Int.toNat r0) default).carry) - ((((aa.getD (Int.toNat x.sec) default).rows).getD (Int.toNat (r0 - 1)) default).carry)) (b := x.stage - ((((aa.getD (Int.toNat x.sec) default).rows).getD (Int.toNat (r0 - 1)) default).stage)) (r := (((((aa.getD (Int.toNat x.sec) default).rows).getD (Int.toNat r0) default).carry) - ((((aa.getD (Int.toNat x.sec) default).rows).getD (Int.toNat (r0 - 1)) default).carry)) * (x.stage - ((((aa.getD (Int.toNat x.sec) default).rows).getD (Int.toNat (r0 - 1)) default).stage))) rfl rfl rfl (by omega)) ?_
    refine d_q rfl (fun w' H => x_fa (a := Pq ao) (v := Pq ao) rfl (fa_blk (o := 0) Fd109_0 Sz3)) ?_
    refine d_q rfl (fun w' H => x_ld (p := Pq ao) (v := I ((((aa.getD (Int.toNat x.sec) default).rows).getD (Int.toNat r0) default).stage)) rfl (ldb_sc Sc3 (H.bl 0) rfl)) ?_
    refine d_q rfl (fun w' H => x_fa (a := Pq ag) (v := Pq ag) rfl (fa_blk (o := 0) Fd109_0 Sz3)) ?_
    refine d_q rfl (fun w' H => x_ld (p := Pq ag) (v := I ((((aa.getD (Int.toNat x.sec) default).rows).getD (Int.toNat (r0 - 1)) default).stage)) rfl (ldb_sc Sc3 (H.bl 1) rfl)) ?_
    obtain ⟨a6, hM⟩ := M.e_grd hM
    simp only [Bool.and_eq_true, decide_eq_true_eq] at a6
    refine d_q rfl (fun w' H => x_ari (a := (((aa.getD (Int.toNat x.sec) default).rows).getD (Int.toNat r0) default).stage) (b := (((aa.getD (Int.toNat x.sec) default).rows).getD (Int.toNat (r0 - 1)) default).stage) (r := ((((aa.getD (Int.toNat x.sec) default).rows).getD (Int.toNat r0) default).stage) - ((((aa.getD (Int.toNat x.sec) default).rows).getD (Int.toNat (r0 - 1)) default).stage)) rfl rfl rfl (by omega)) ?_
    obtain ⟨a7, hM⟩ := M.e_grd hM
    simp only [Bool.and_eq_true, decide_eq_true_eq] at a7
    refine d_q rfl (fun w' H => x_quo (a := (((((aa.getD (Int.toNat x.sec) default).rows).getD (Int.toNat r0) default).carry) - ((((aa.getD (Int.toNat x.sec) default).rows).getD (Int.toNat (r0 - 1)) default).carry)) * (x.stage - ((((aa.getD (Int.toNat x.sec) default).rows).getD (Int.toNat (r0 - 1)) default).stage))) (b := ((((aa.getD (Int.toNat x.sec) default).rows).getD (Int.toNat r0) default).stage) - ((((aa.getD (Int.toNat x.sec) default).rows).getD (Int.toNat (r0 - 1)) default).stage)) rfl rfl (by omega)) ?_
    obtain ⟨a8, hM⟩ := M.e_grd hM
    simp only [Bool.and_eq_true, decide_eq_true_eq] at a8
    refine d_q rfl (fun w' H => x_ari (a := (((aa.getD (Int.toNat x.sec) default).rows).getD (Int.toNat (r0 - 1)) default).carry) (b := ((((((aa.getD (Int.toNat x.sec) default).rows).getD (Int.toNat r0) default).carry) - ((((aa.getD (Int.toNat x.sec) default).rows).getD (Int.toNat (r0 - 1)) default).carry)) * (x.stage - ((((aa.getD (Int.toNat x.sec) default).rows).getD (Int.toNat (r0 - 1)) default).stage))) / (((((aa.getD (Int.toNat x.sec) default).rows).getD (Int.toNat r0) default).stage) - ((((aa.getD (Int.toNat x.sec) default).rows).getD (Int.toNat (r0 - 1)) default).stage))) (r := ((((aa.getD (Int.toNat x.sec) default).rows).getD (Int.toNat (r0 - 1)) default).carry) + (((((((aa.getD (Int.toNat x.sec) default).rows).getD (Int.toNat r0) default).carry) - ((((aa.getD (Int.toNat x.sec) default).rows).getD (Int.toNat (r0 - 1)) default).carry)) * (x.stage - ((((aa.getD (Int.toNat x.sec) default).rows).getD (Int.toNat (r0 - 1)) default).stage))) / (((((aa.getD (Int.toNat x.sec) default).rows).getD (Int.toNat r0) default).stage) - ((((aa.getD (Int.toNat x.sec) default).rows).getD (Int.toNat (r0 - 1)) default).stage)))) rfl rfl rfl (by omega)) ?_
    refine d_q rfl (fun w' H => x_as (v := I (((((aa.getD (Int.toNat x.sec) default).rows).getD (Int.toNat (r0 - 1)) default).carry) + (((((((aa.getD (Int.toNat x.sec) default).rows).getD (Int.toNat r0) default).carry) - ((((aa.getD (Int.toNat x.sec) default).rows).getD (Int.toNat (r0 - 1)) default).carry)) * (x.stage - ((((aa.getD (Int.toNat x.sec) default).rows).getD (Int.toNat (r0 - 1)) default).stage))) / (((((aa.getD (Int.toNat x.sec) default).rows).getD (Int.toNat r0) default).stage) - ((((aa.getD (Int.toNat x.sec) default).rows).getD (Int.toNat (r0 - 1)) default).stage))))) rfl) ?_
    refine d_nil ?_
    replace H := H.pk [2, 3]
    refine W.seq ?_
    refine W.draw (fun W => St w W [cBlk ac [I x.sec, I x.stage] 160] R) [(0, true), (1, true), (2, true), (3, true), (4, true), (5, true), (6, false)] mixed (by decide +kernel) rfl ?_
    intro bI ae
    replace H := H.ext ae
    clear ae
    refine ⟨(H.pk [0]), ?_⟩
    refine d_q rfl (fun w' H => x_mv (v := Pq ab) rfl) ?_
    refine d_q rfl (fun w' H => x_nc (a := ⟨ab, 0, none⟩) rfl) ?_
    refine d_q rfl (fun w' H => x_fa (a := Pq ab) (v := Oq ab 3) rfl (fa_blk (o := 0) Fd177_1 Sz175)) ?_
    refine d_q rfl (fun w' H => x_ld (p := Oq ab 3) (v := .map (some aj)) rfl (ldb_sc Sc175 (av.blk H) rfl)) ?_
    refine d_q rfl (fun w' H => x_ld (p := Pq ac) (v := .agg #[I x.sec, I x.stage]) rfl (ldb_ag (ds := [I x.sec, I x.stage]) Ag160 Sz160 (H.bl 0) rfl rfl)) ?_
    refine d_q rfl (fun w' H => x_mv (v := I (((((aa.getD (Int.toNat x.sec) default).rows).getD (Int.toNat (r0 - 1)) default).carry) + (((((((aa.getD (Int.toNat x.sec) default).rows).getD (Int.toNat r0) default).carry) - ((((aa.getD (Int.toNat x.sec) default).rows).getD (Int.toNat (r0 - 1)) default).carry)) * (x.stage - ((((aa.getD (Int.toNat x.sec) default).rows).getD (Int.toNat (r0 - 1)) default).stage))) / (((((aa.getD (Int.toNat x.sec) default).rows).getD (Int.toNat r0) default).stage) - ((((aa.getD (Int.toNat x.sec) default).rows).getD (Int.toNat (r0 - 1)) default).stage))))) rfl) ?_
    refine d_l rfl ?_
    refine t_mapu (i := 1) (kenc := encSpt) (venc := I) (f := ak) (k := x) (v := ((((aa.getD (Int.toNat x.sec) default).rows).getD (Int.toNat (r0 - 1)) default).carry) + (((((((aa.getD (Int.toNat x.sec) default).rows).getD (Int.toNat r0) default).carry) - ((((aa.getD (Int.toNat x.sec) default).rows).getD (Int.toNat (r0 - 1)) default).carry)) * (x.stage - ((((aa.getD (Int.toNat x.sec) default).rows).getD (Int.toNat (r0 - 1)) default).stage))) / (((((aa.getD (Int.toNat x.sec) default).rows).getD (Int.toNat r0) default).stage) - ((((aa.getD (Int.toNat x.sec) default).rows).getD (Int.toNat (r0 - 1)) default).stage)))) (L' := [cBlk ac [I x.sec, I x.stage] 160, cMap encSpt I aj (updF ak x (((((aa.getD (Int.toNat x.sec) default).rows).getD (Int.toNat (r0 - 1)) default).carry) + (((((((aa.getD (Int.toNat x.sec) default).rows).getD (Int.toNat r0) default).carry) - ((((aa.getD (Int.toNat x.sec) default).rows).getD (Int.toNat (r0 - 1)) default).carry)) * (x.stage - ((((aa.getD (Int.toNat x.sec) default).rows).getD (Int.toNat (r0 - 1)) default).stage))) / (((((aa.getD (Int.toNat x.sec) default).rows).getD (Int.toNat r0) default).stage) - ((((aa.getD (Int.toNat x.sec) default).rows).getD (Int.toNat (r0 - 1)) default).stage)))))]) keySpot Tryz.underlying175 H rfl rfl rfl rfl rfl ?_
    intro bJ H
    refine s_nil ⟨(H.pk [0]), ?_⟩
    refine d_nil ?_
    refine W.seq ?_
    refine W.region rfl ?_
    refine zM (I (((((aa.getD (Int.toNat x.sec) default).rows).getD (Int.toNat (r0 - 1)) default).carry) + (((((((aa.getD (Int.toNat x.sec) default).rows).getD (Int.toNat r0) default).carry) - ((((aa.getD (Int.toNat x.sec) default).rows).getD (Int.toNat (r0 - 1)) default).carry)) * (x.stage - ((((aa.getD (Int.toNat x.sec) default).rows).getD (Int.toNat (r0 - 1)) default).stage))) / (((((aa.getD (Int.toNat x.sec) default).rows).getD (Int.toNat r0) default).stage) - ((((aa.getD (Int.toNat x.sec) default).rows).getD (Int.toNat (r0 - 1)) default).stage))))) rfl ?_
    refine zA (I (((((aa.getD (Int.toNat x.sec) default).rows).getD (Int.toNat (r0 - 1)) default).carry) + (((((((aa.getD (Int.toNat x.sec) default).rows).getD (Int.toNat r0) default).carry) - ((((aa.getD (Int.toNat x.sec) default).rows).getD (Int.toNat (r0 - 1)) default).carry)) * (x.stage - ((((aa.getD (Int.toNat x.sec) default).rows).getD (Int.toNat (r0 - 1)) default).stage))) / (((((aa.getD (Int.toNat x.sec) default).rows).getD (Int.toNat r0) default).stage) - ((((aa.getD (Int.toNat x.sec) default).rows).getD (Int.toNat (r0 - 1)) default).stage))))) rfl ?_
    refine s_nil ?_
    refine W.ret ?_
    replace H := St.memShutI H (i := 1) rfl (memIput aw (by rw [M.e_pure hM]; exact hM0))
    replace H := H.nf
    have aq := M.e_pure hM
    exact ⟨_, resE_tmp rfl, ⟨(((((aa.getD (Int.toNat x.sec) default).rows).getD (Int.toNat (r0 - 1)) default).carry) + (((((((aa.getD (Int.toNat x.sec) default).rows).getD (Int.toNat r0) default).carry) - ((((aa.getD (Int.toNat x.sec) default).rows).getD (Int.toNat (r0 - 1)) default).carry)) * (x.stage - ((((aa.getD (Int.toNat x.sec) default).rows).getD (Int.toNat (r0 - 1)) default).stage))) / (((((aa.getD (Int.toNat x.sec) default).rows).getD (Int.toNat r0) default).stage) - ((((aa.getD (Int.toNat x.sec) default).rows).getD (Int.toNat (r0 - 1)) default).stage)))), aq, rfl, (H.pk [1])⟩⟩
   skip
   refine t_alloc (cs := [I 0, I 0]) H Al109 rfl ?_
   intro ao bK H
   refine s_nil ⟨(H.pk [1, 2]), ?_⟩
   refine t_l rfl ?_
   refine t_alloc (cs := [I 0, I 0]) H Al109 rfl ?_
   intro ag bL H
   refine s_nil ⟨(H.pk [2, 3]), ?_⟩
   refine t_l rfl ?_
   refine t_sw 0 0 [I ((((aa.getD (Int.toNat x.sec) default).rows).getD (Int.toNat (r0 - 1)) default).stage), I ((((aa.getD (Int.toNat x.sec) default).rows).getD (Int.toNat (r0 - 1)) default).carry)] (.agg #[I ((((aa.getD (Int.toNat x.sec) default).rows).getD (Int.toNat (r0 - 1)) default).stage), I ((((aa.getD (Int.toNat x.sec) default).rows).getD (Int.toNat (r0 - 1)) default).carry)]) H rfl rfl Sz109 rfl rfl rfl rfl ?_
   intro bM H
   refine s_nil ⟨(H.pk [2, 3]), ?_⟩
   refine t_l rfl ?_
   refine t_sw 1 0 [I ((((aa.getD (Int.toNat x.sec) default).rows).getD (Int.toNat r0) default).stage), I ((((aa.getD (Int.toNat x.sec) default).rows).getD (Int.toNat r0) default).carry)] (.agg #[I ((((aa.getD (Int.toNat x.sec) default).rows).getD (Int.toNat r0) default).stage), I ((((aa.getD (Int.toNat x.sec) default).rows).getD (Int.toNat r0) default).carry)]) H rfl rfl Sz109 rfl rfl rfl rfl ?_
   intro bN H
   refine s_nil ⟨(H.pk [2, 3]), ?_⟩
   refine t_nil ?_
   refine W.draw (fun W => St w W [cBlk ag [I ((((aa.getD (Int.toNat x.sec) default).rows).getD (Int.toNat (r0 - 1)) default).stage), I ((((aa.getD (Int.toNat x.sec) default).rows).getD (Int.toNat (r0 - 1)) default).carry)] 109, cBlk ao [I ((((aa.getD (Int.toNat x.sec) default).rows).getD (Int.toNat r0) default).stage), I ((((aa.getD (Int.toNat x.sec) default).rows).getD (Int.toNat r0) default).carry)] 109, cBlk ac [I x.sec, I x.stage] 160, cMap encSpt I aj ak] R) [(0, true), (1, true), (2, true), (3, true), (4, true), (5, true), (6, true), (7, true), (8, true), (9, true), (10, true), (11, true), (12, true), (13, true), (14, true), (15, true), (16, true), (17, true), (18, true), (19, true), (20, true)] mixed (by decide +kernel) rfl ?_
   intro bO ae
   replace H := H.ext ae
   clear ae
   refine ⟨(H.pk [0, 1, 2, 3]), ?_⟩
   refine d_q rfl (fun w' H => x_fa (a := Pq ag) (v := Oq ag 1) rfl (fa_blk (o := 0) Fd109_1 Sz3)) ?_
   refine d_q rfl (fun w' H => x_ld (p := Oq ag 1) (v := I ((((aa.getD (Int.toNat x.sec) default).rows).getD (Int.toNat (r0 - 1)) default).carry)) rfl (ldb_sc Sc3 (H.bl 0) rfl)) ?_
   refine d_q rfl (fun w' H => x_fa (a := Pq ao) (v := Oq ao 1) rfl (fa_blk (o := 0) Fd109_1 Sz3)) ?_
   refine d_q rfl (fun w' H => x_ld (p := Oq ao 1) (v := I ((((aa.getD (Int.toNat x.sec) default).rows).getD (Int.toNat r0) default).carry)) rfl (ldb_sc Sc3 (H.bl 1) rfl)) ?_
   refine d_q rfl (fun w' H => x_fa (a := Pq ag) (v := Oq ag 1) rfl (fa_blk (o := 0) Fd109_1 Sz3)) ?_
   refine d_q rfl (fun w' H => x_ld (p := Oq ag 1) (v := I ((((aa.getD (Int.toNat x.sec) default).rows).getD (Int.toNat (r0 - 1)) default).carry)) rfl (ldb_sc Sc3 (H.bl 0) rfl)) ?_
   obtain ⟨ba, hM⟩ := M.e_grd hM
   simp only [Bool.and_eq_true, decide_eq_true_eq] at ba
   refine d_q rfl (fun w' H => x_ari (a := (((aa.getD (Int.toNat x.sec) default).rows).getD (Int.toNat r0) default).carry) (b := (((aa.getD (Int.toNat x.sec) default).rows).getD (Int.toNat (r0 - 1)) default).carry) (r := ((((aa.getD (Int.toNat x.sec) default).rows).getD (Int.toNat r0) default).carry) - ((((aa.getD (Int.toNat x.sec) default).rows).getD (Int.toNat (r0 - 1)) default).carry)) rfl rfl rfl (by omega)) ?_
   refine d_q rfl (fun w' H => x_fa (a := Pq ac) (v := Oq ac 1) rfl (fa_blk (o := 0) Fd160_1 Sz3)) ?_
   refine d_q rfl (fun w' H => x_ld (p := Oq ac 1) (v := I x.stage) rfl (ldb_sc Sc3 (H.bl 2) rfl)) ?_
   refine d_q rfl (fun w' H => x_fa (a := Pq ag) (v := Pq ag) rfl (fa_blk (o := 0) Fd109_0 Sz3)) ?_
   refine d_q rfl (fun w' H => x_ld (p := Pq ag) (v := I ((((aa.getD (Int.toNat x.sec) default).rows).getD (Int.toNat (r0 - 1)) default).stage)) rfl (ldb_sc Sc3 (H.bl 0) rfl)) ?_
   obtain ⟨bb, hM⟩ := M.e_grd hM
   simp only [Bool.and_eq_true, decide_eq_true_eq] at bb
   refine d_q rfl (fun w' H => x_ari (a := x.stage) (b := (((aa.getD (Int.toNat x.sec) default).rows).getD (Int.toNat (r0 - 1)) default).stage) (r := x.stage - ((((aa.getD (Int.toNat x.sec) default).rows).getD (Int.toNat (r0 - 1)) default).stage)) rfl rfl rfl (by omega)) ?_
   obtain ⟨bc, hM⟩ := M.e_grd hM
   simp only [Bool.and_eq_true, decide_eq_true_eq] at bc
   refine d_q rfl (fun w' H => x_ari (a := ((((aa.getD (Int.toNat x.sec) default).rows).getD (Int.toNat r0) default).carry) - ((((aa.getD (Int.toNat x.sec) default).rows).getD (Int.toNat (r0 - 1)) default).carry)) (b := x.stage - ((((aa.getD (Int.toNat x.sec) default).rows).getD (Int.toNat (r0 - 1)) default).stage)) (r := (((((aa.getD (Int.toNat x.sec) default).rows).getD (Int.toNat r0) default).carry) - ((((aa.getD (Int.toNat x.sec) default).rows).getD (Int.toNat (r0 - 1)) default).carry)) * (x.stage - ((((aa.getD (Int.toNat x.sec) default).rows).getD (Int.toNat (r0 - 1)) default).stage))) rfl rfl rfl (by omega)) ?_
   refine d_q rfl (fun w' H => x_fa (a := Pq ao) (v := Pq ao) rfl (fa_blk (o := 0) Fd109_0 Sz3)) ?_
   refine d_q rfl (fun w' H => x_ld (p := Pq ao) (v := I ((((aa.getD (Int.toNat x.sec) default).rows).getD (Int.toNat r0) default).stage)) rfl (ldb_sc Sc3 (H.bl 1) rfl)) ?_
   refine d_q rfl (fun w' H => x_fa (a := Pq ag) (v := Pq ag) rfl (fa_blk (o := 0) Fd109_0 Sz3)) ?_
   refine d_q rfl (fun w' H => x_ld (p := Pq ag) (v := I ((((aa.getD (Int.toNat x.sec) default).rows).getD (Int.toNat (r0 - 1)) default).stage)) rfl (ldb_sc Sc3 (H.bl 0) rfl)) ?_
   obtain ⟨bf, hM⟩ := M.e_grd hM
   simp only [Bool.and_eq_true, decide_eq_true_eq] at bf
   refine d_q rfl (fun w' H => x_ari (a := (((aa.getD (Int.toNat x.sec) default).rows).getD (Int.toNat r0) default).stage) (b := (((aa.getD (Int.toNat x.sec) default).rows).getD (Int.toNat (r0 - 1)) default).stage) (r := ((((aa.getD (Int.toNat x.sec) default).rows).getD (Int.toNat r0) default).stage) - ((((aa.getD (Int.toNat x.sec) default).rows).getD (Int.toNat (r0 - 1)) default).stage)) rfl rfl rfl (by omega)) ?_
   obtain ⟨bg, hM⟩ := M.e_grd hM
   simp only [Bool.and_eq_true, decide_eq_true_eq] at bg
   refine d_q rfl (fun w' H => x_quo (a := (((((aa.getD (Int.toNat x.sec) default).rows).getD (Int.toNat r0) default).carry) - ((((aa.getD (Int.toNat x.sec) default).rows).getD (Int.toNat (r0 - 1)) default).carry)) * (x.stage - ((((aa.getD (Int.toNat x.sec) default).rows).getD (Int.toNat (r0 - 1)) default).stage))) (b := ((((aa.getD (Int.toNat x.sec) default).rows).getD (Int.toNat r0) default).stage) - ((((aa.getD (Int.toNat x.sec) default).rows).getD (Int.toNat (r0 - 1)) default).stage)) rfl rfl (by omega)) ?_
   obtain ⟨bh, hM⟩ := M.e_grd hM
   simp only [Bool.and_eq_true, decide_eq_true_eq] at bh
   refine d_q rfl (fun w' H => x_ari (a := (((aa.getD (Int.toNat x.sec) default).rows).getD (Int.toNat (r0 - 1)) default).carry) (b := ((((((aa.getD (Int.toNat x.sec) default).rows).getD (Int.toNat r0) default).carry) - ((((aa.getD (Int.toNat x.sec) default).rows).getD (Int.toNat (r0 - 1)) default).carry)) * (x.stage - ((((aa.getD (Int.toNat x.sec) default).rows).getD (Int.toNat (r0 - 1)) default).stage))) / (((((aa.getD (Int.toNat x.sec) default).rows).getD (Int.toNat r0) default).stage) - ((((aa.getD (Int.toNat x.sec) default).rows).getD (Int.toNat (r0 - 1)) default).stage))) (r := ((((aa.getD (Int.toNat x.sec) default).rows).getD (Int.toNat (r0 - 1)) default).carry) + (((((((aa.getD (Int.toNat x.sec) default).rows).getD (Int.toNat r0) default).carry) - ((((aa.getD (Int.toNat x.sec) default).rows).getD (Int.toNat (r0 - 1)) default).carry)) * (x.stage - ((((aa.getD (Int.toNat x.sec) default).rows).getD (Int.toNat (r0 - 1)) default).stage))) / (((((aa.getD (Int.toNat x.sec) default).rows).getD (Int.toNat r0) default).stage) - ((((aa.getD (Int.toNat x.sec) default).rows).getD (Int.toNat (r0 - 1)) default).stage)))) rfl rfl rfl (by omega)) ?_
   refine d_q rfl (fun w' H => x_as (v := I (((((aa.getD (Int.toNat x.sec) default).rows).getD (Int.toNat (r0 - 1)) default).carry) + (((((((aa.getD (Int.toNat x.sec) default).rows).getD (Int.toNat r0) default).carry) - ((((aa.getD (Int.toNat x.sec) default).rows).getD (Int.toNat (r0 - 1)) default).carry)) * (x.stage - ((((aa.getD (Int.toNat x.sec) default).rows).getD (Int.toNat (r0 - 1)) default).stage))) / (((((aa.getD (Int.toNat x.sec) default).rows).getD (Int.toNat r0) default).stage) - ((((aa.getD (Int.toNat x.sec) default).rows).getD (Int.toNat (r0 - 1)) default).stage))))) rfl) ?_
   refine d_nil ?_
   replace H := H.pk [2, 3]
   refine W.seq ?_
   refine W.draw (fun W => St w W [cBlk ac [I x.sec, I x.stage] 160] R) [(0, true), (1, true), (2, true), (3, true), (4, true), (5, true), (6, false)] mixed (by decide +kernel) rfl ?_
   intro bP ae
   replace H := H.ext ae
   clear ae
   refine ⟨(H.pk [0]), ?_⟩
   refine d_q rfl (fun w' H => x_mv (v := Pq ab) rfl) ?_
   refine d_q rfl (fun w' H => x_nc (a := ⟨ab, 0, none⟩) rfl) ?_
   refine d_q rfl (fun w' H => x_fa (a := Pq ab) (v := Oq ab 3) rfl (fa_blk (o := 0) Fd177_1 Sz175)) ?_
   refine d_q rfl (fun w' H => x_ld (p := Oq ab 3) (v := .map (some aj)) rfl (ldb_sc Sc175 (av.blk H) rfl)) ?_
   refine d_q rfl (fun w' H => x_ld (p := Pq ac) (v := .agg #[I x.sec, I x.stage]) rfl (ldb_ag (ds := [I x.sec, I x.stage]) Ag160 Sz160 (H.bl 0) rfl rfl)) ?_
   refine d_q rfl (fun w' H => x_mv (v := I (((((aa.getD (Int.toNat x.sec) default).rows).getD (Int.toNat (r0 - 1)) default).carry) + (((((((aa.getD (Int.toNat x.sec) default).rows).getD (Int.toNat r0) default).carry) - ((((aa.getD (Int.toNat x.sec) default).rows).getD (Int.toNat (r0 - 1)) default).carry)) * (x.stage - ((((aa.getD (Int.toNat x.sec) default).rows).getD (Int.toNat (r0 - 1)) default).stage))) / (((((aa.getD (Int.toNat x.sec) default).rows).getD (Int.toNat r0) default).stage) - ((((aa.getD (Int.toNat x.sec) default).rows).getD (Int.toNat (r0 - 1)) default).stage))))) rfl) ?_
   refine d_l rfl ?_
   refine t_mapu (i := 1) (kenc := encSpt) (venc := I) (f := ak) (k := x) (v := ((((aa.getD (Int.toNat x.sec) default).rows).getD (Int.toNat (r0 - 1)) default).carry) + (((((((aa.getD (Int.toNat x.sec) default).rows).getD (Int.toNat r0) default).carry) - ((((aa.getD (Int.toNat x.sec) default).rows).getD (Int.toNat (r0 - 1)) default).carry)) * (x.stage - ((((aa.getD (Int.toNat x.sec) default).rows).getD (Int.toNat (r0 - 1)) default).stage))) / (((((aa.getD (Int.toNat x.sec) default).rows).getD (Int.toNat r0) default).stage) - ((((aa.getD (Int.toNat x.sec) default).rows).getD (Int.toNat (r0 - 1)) default).stage)))) (L' := [cBlk ac [I x.sec, I x.stage] 160, cMap encSpt I aj (updF ak x (((((aa.getD (Int.toNat x.sec) default).rows).getD (Int.toNat (r0 - 1)) default).carry) + (((((((aa.getD (Int.toNat x.sec) default).rows).getD (Int.toNat r0) default).carry) - ((((aa.getD (Int.toNat x.sec) default).rows).getD (Int.toNat (r0 - 1)) default).carry)) * (x.stage - ((((aa.getD (Int.toNat x.sec) default).rows).getD (Int.toNat (r0 - 1)) default).stage))) / (((((aa.getD (Int.toNat x.sec) default).rows).getD (Int.toNat r0) default).stage) - ((((aa.getD (Int.toNat x.sec) default).rows).getD (Int.toNat (r0 - 1)) default).stage)))))]) keySpot Tryz.underlying175 H rfl rfl rfl rfl rfl ?_
   intro bQ H
   refine s_nil ⟨(H.pk [0]), ?_⟩
   refine d_nil ?_
   refine W.seq ?_
   refine W.region rfl ?_
   refine zM (I (((((aa.getD (Int.toNat x.sec) default).rows).getD (Int.toNat (r0 - 1)) default).carry) + (((((((aa.getD (Int.toNat x.sec) default).rows).getD (Int.toNat r0) default).carry) - ((((aa.getD (Int.toNat x.sec) default).rows).getD (Int.toNat (r0 - 1)) default).carry)) * (x.stage - ((((aa.getD (Int.toNat x.sec) default).rows).getD (Int.toNat (r0 - 1)) default).stage))) / (((((aa.getD (Int.toNat x.sec) default).rows).getD (Int.toNat r0) default).stage) - ((((aa.getD (Int.toNat x.sec) default).rows).getD (Int.toNat (r0 - 1)) default).stage))))) rfl ?_
   refine zA (I (((((aa.getD (Int.toNat x.sec) default).rows).getD (Int.toNat (r0 - 1)) default).carry) + (((((((aa.getD (Int.toNat x.sec) default).rows).getD (Int.toNat r0) default).carry) - ((((aa.getD (Int.toNat x.sec) default).rows).getD (Int.toNat (r0 - 1)) default).carry)) * (x.stage - ((((aa.getD (Int.toNat x.sec) default).rows).getD (Int.toNat (r0 - 1)) default).stage))) / (((((aa.getD (Int.toNat x.sec) default).rows).getD (Int.toNat r0) default).stage) - ((((aa.getD (Int.toNat x.sec) default).rows).getD (Int.toNat (r0 - 1)) default).stage))))) rfl ?_
   refine s_nil ?_
   refine W.ret ?_
   replace H := St.memShutI H (i := 1) rfl (memIput aw (by rw [M.e_pure hM]; exact hM0))
   replace H := H.nf
   have aq := M.e_pure hM
   exact ⟨_, resE_tmp rfl, ⟨(((((aa.getD (Int.toNat x.sec) default).rows).getD (Int.toNat (r0 - 1)) default).carry) + (((((((aa.getD (Int.toNat x.sec) default).rows).getD (Int.toNat r0) default).carry) - ((((aa.getD (Int.toNat x.sec) default).rows).getD (Int.toNat (r0 - 1)) default).carry)) * (x.stage - ((((aa.getD (Int.toNat x.sec) default).rows).getD (Int.toNat (r0 - 1)) default).stage))) / (((((aa.getD (Int.toNat x.sec) default).rows).getD (Int.toNat r0) default).stage) - ((((aa.getD (Int.toNat x.sec) default).rows).getD (Int.toNat (r0 - 1)) default).stage)))), aq, rfl, (H.pk [1])⟩⟩
  replace hM := M.e_f hM az
  simp only [qy1, qy2, qy3, qy4, qy5, qy6, ne_eq, qy7] at az
  refine W.skip ?_
  refine W.seq ?_
  refine W.draw (fun W => St w W [cBlk ac [I x.sec, I x.stage] 160] R) [(0, true), (1, true), (2, true), (3, true), (4, true), (5, true), (6, false)] mixed (by decide +kernel) rfl ?_
  intro bR ae
  replace H := H.ext ae
  clear ae
  refine ⟨(H.pk [0]), ?_⟩
  refine d_q rfl (fun w' H => x_mv (v := Pq ab) rfl) ?_
  refine d_q rfl (fun w' H => x_nc (a := ⟨ab, 0, none⟩) rfl) ?_
  refine d_q rfl (fun w' H => x_fa (a := Pq ab) (v := Oq ab 3) rfl (fa_blk (o := 0) Fd177_1 Sz175)) ?_
  refine d_q rfl (fun w' H => x_ld (p := Oq ab 3) (v := .map (some aj)) rfl (ldb_sc Sc175 (av.blk H) rfl)) ?_
  refine d_q rfl (fun w' H => x_ld (p := Pq ac) (v := .agg #[I x.sec, I x.stage]) rfl (ldb_ag (ds := [I x.sec, I x.stage]) Ag160 Sz160 (H.bl 0) rfl rfl)) ?_
  refine d_q rfl (fun w' H => x_mv (v := I 0) rfl) ?_
  refine d_l rfl ?_
  refine t_mapu (i := 1) (kenc := encSpt) (venc := I) (f := ak) (k := x) (v := 0) (L' := [cBlk ac [I x.sec, I x.stage] 160, cMap encSpt I aj (updF ak x 0)]) keySpot Tryz.underlying175 H rfl rfl rfl rfl rfl ?_
  intro bS H
  refine s_nil ⟨(H.pk [0]), ?_⟩
  refine d_nil ?_
  refine W.seq ?_
  refine W.region rfl ?_
  refine zM (I 0) rfl ?_
  refine zA (I 0) rfl ?_
  refine s_nil ?_
  refine W.ret ?_
  replace H := St.memShutI H (i := 1) rfl (memIput aw (by rw [M.e_pure hM]; exact hM0))
  replace H := H.nf
  have aq := M.e_pure hM
  exact ⟨_, resE_tmp rfl, ⟨0, aq, rfl, (H.pk [1])⟩⟩
 | some ap =>
  have bi := M.Ends.det (aw x ap aD) hM0
  subst bi
  replace hM : (M.pure ap).Ends ap := M.i_pure
  refine W.seq ?_
  refine W.region rfl ?_
  refine t_box (v := .agg #[I x.sec, I x.stage]) (cs := [I x.sec, I x.stage]) H rfl rfl ?_
  intro ac bT H
  refine zA (I 0) rfl ?_
  refine s_nil ?_
  refine W.seq ?_
  refine W.seq ?_
  refine W.draw (fun W => St w W [cBlk ac [I x.sec, I x.stage] 160] R) [(0, true), (1, true), (2, true), (3, true), (4, true), (5, false), (6, true), (7, true), (8, true), (9, true), (10, true)] mixed (by decide +kernel) rfl ?_
  intro bU ae
  replace H := H.ext ae
  clear ae
  refine ⟨(H.pk [0]), ?_⟩
  refine d_q rfl (fun w' H => x_mv (v := Pq ab) rfl) ?_
  refine d_q rfl (fun w' H => x_nc (a := ⟨ab, 0, none⟩) rfl) ?_
  refine d_q rfl (fun w' H => x_fa (a := Pq ab) (v := Oq ab 3) rfl (fa_blk (o := 0) Fd177_1 Sz175)) ?_
  refine d_q rfl (fun w' H => x_ld (p := Oq ab 3) (v := .map (some aj)) rfl (ldb_sc Sc175 (av.blk H) rfl)) ?_
  refine d_q rfl (fun w' H => x_ld (p := Pq ac) (v := .agg #[I x.sec, I x.stage]) rfl (ldb_ag (ds := [I x.sec, I x.stage]) Ag160 Sz160 (H.bl 0) rfl rfl)) ?_
  refine d_l rfl ?_
  refine s_val (q_look (kenc := encSpt) (venc := I) (f := ak) (k := x) (z := I 0) (v := .tuple #[I ap, B true]) keySpot Tryz.underlying175 Al3 rfl rfl (H.get (k := 1) rfl) true (by simp [aD])) ?_
  refine s_nil ⟨(H.pk [0]), ?_⟩
  refine d_q rfl (fun w' H => x_mv (v := .tuple #[I ap, B true]) rfl) ?_
  refine d_q rfl (fun w' H => x_ext (vs := [I ap, B true]) (v := I ap) rfl rfl) ?_
  refine d_q rfl (fun w' H => x_ext (vs := [I ap, B true]) (v := B true) rfl rfl) ?_
  refine d_q rfl (fun w' H => x_as (v := I ap) rfl) ?_
  refine d_q rfl (fun w' H => x_as (v := B true) rfl) ?_
  refine d_nil ?_
  refine W.seq ?_
  refine W.region rfl ?_
  refine zM (B true) rfl ?_
  refine s_nil ?_
  refine W.cond true rfl (fun aM => ?_) (fun aM => ?_)
  ·skip
   refine W.seq ?_
   refine W.region rfl ?_
   refine zM (I ap) rfl ?_
   refine zA (I ap) rfl ?_
   refine s_nil ?_
   refine W.ret ?_
   replace H := St.memShutI H (i := 1) rfl aw
   replace H := H.nf
   have aq := M.e_pure hM
   exact ⟨_, resE_tmp rfl, ⟨ap, aq, rfl, (H.pk [1])⟩⟩
  skip
  exact absurd aM (by decide)

def zbV (n : Int) : (Int × Int) -> M ((Int × Int) ⊕ Int) := fun (low, high) =>
  bif decide (low < high) then (
  M.grd (decide ((-9223372036854775808 : Int) <= (high - low)) && decide ((high - low) <= (9223372036854775807 : Int))) <|
  M.grd (decide ((-9223372036854775808 : Int) <= ((high - low) + 1)) && decide (((high - low) + 1) <= (9223372036854775807 : Int))) <|
  M.grd (decide (0 <= ((high - low) + 1)) && decide (((high - low) + 1) <= (9223372036854775807 : Int)) && decide ((0 : Int) < 2)) <|
  M.grd (decide ((-9223372036854775808 : Int) <= (low + (((high - low) + 1) / 2))) && decide ((low + (((high - low) + 1) / 2)) <= (9223372036854775807 : Int))) <|
  M.grd (decide ((-9223372036854775808 : Int) <= ((low + (((high - low) + 1) / 2)) * (low + (((high - low) + 1) / 2)))) && decide (((low + (((high - low) + 1) / 2)) * (low + (((high - low) + 1) / 2))) <= (9223372036854775807 : Int))) <|
  bif decide (((low + (((high - low) + 1) / 2)) * (low + (((high - low) + 1) / 2))) <= n) then (
  M.pure (.inl (low + (((high - low) + 1) / 2), high)))
  else (
  M.grd (decide ((-9223372036854775808 : Int) <= ((low + (((high - low) + 1) / 2)) - 1)) && decide (((low + (((high - low) + 1) / 2)) - 1) <= (9223372036854775807 : Int))) <|
  M.pure (.inl (low, (low + (((high - low) + 1) / 2)) - 1))))
  else (
  M.pure (.inr low))
def zcA (n : Int) : M Int :=
  M.bind (M.iter (zbV n) (0, 2147483648)) fun low2 =>
  M.pure low2
theorem zdq {R : List Chunk}  (n : Int)  {r : Int} (hM : (zcA n).Ends r) (w : World) (H : St w w [] R) : Ret Tryz.prog 108 #[I n] w fun v w' => ∃ (y0 : Int), y0 = r /\ v = I y0 /\ St w w' [] R := by
 refine ret_of_W Tryz.func108 rfl rfl rfl ?_
 refine W.seq ?_
 refine W.region rfl ?_
 refine zA (I 0) rfl ?_
 refine s_nil ?_
 refine W.seq ?_
 refine W.region rfl ?_
 refine zA (I 0) rfl ?_
 refine zA (I 2147483648) rfl ?_
 refine s_nil ?_
 refine W.seq ?_
 refine W.block ?_
 obtain ⟨ak, ac, am⟩ := M.e_bind hM
 obtain ⟨az, ac⟩ := M.e_iter ac
 refine W.loop (fun m σ W => ∃ (low : Int) (high : Int) (ρ : Env), σ = upds ρ [(0, I n), (3, I low), (4, I high)] /\ M.iterN (zbV n) m (low, high) = some ak /\ St w W [] R) ?_ ?_
 ·exact ⟨_, 0, 2147483648, _, upds_of _ _ ⟨rfl, rfl, rfl, trivial⟩, ac, H⟩
 rintro aA σ aB ⟨low, high, ρ, rfl, ag, H⟩
 obtain ⟨ai, aj, aC, hM, ae⟩ := M.e_iterN ag
 simp only [zbV] at hM
 clear ag
 refine W.seq ?_
 refine W.seq ?_
 refine W.region rfl ?_
 refine zM (I low) rfl ?_
 refine zM (I high) rfl ?_
 refine zC low high (decide (low < high)) rfl rfl rfl ?_
 refine s_nil ?_
 refine W.cond (decide (low < high)) rfl (fun aa => ?_) (fun aa => ?_)
 ·replace hM := M.e_t hM aa
  simp only [qy1, qy2, qy3, qy4, qy5, qy6, ne_eq, qy7] at aa
  refine W.skip ?_
  refine W.block ?_
  refine W.seq ?_
  refine W.region rfl ?_
  refine zM (I low) rfl ?_
  refine zM (I high) rfl ?_
  refine zM (I low) rfl ?_
  obtain ⟨ao, hM⟩ := M.e_grd hM
  simp only [Bool.and_eq_true, decide_eq_true_eq] at ao
  refine zR high low (high - low) rfl rfl rfl (by omega) ?_
  obtain ⟨ap, hM⟩ := M.e_grd hM
  simp only [Bool.and_eq_true, decide_eq_true_eq] at ap
  refine zR (high - low) 1 ((high - low) + 1) rfl rfl rfl (by omega) ?_
  obtain ⟨aq, hM⟩ := M.e_grd hM
  simp only [Bool.and_eq_true, decide_eq_true_eq] at aq
  refine s_val (x_quo (a := (high - low) + 1) (b := 2) rfl rfl (by omega)) ?_
  obtain ⟨au, hM⟩ := M.e_grd hM
  simp only [Bool.and_eq_true, decide_eq_true_eq] at au
  refine zR low (((high - low) + 1) / 2) (low + (((high - low) + 1) / 2)) rfl rfl rfl (by omega) ?_
  refine zA (I (low + (((high - low) + 1) / 2))) rfl ?_
  refine s_nil ?_
  refine W.seq ?_
  refine W.region rfl ?_
  refine zM (I (low + (((high - low) + 1) / 2))) rfl ?_
  refine zM (I (low + (((high - low) + 1) / 2))) rfl ?_
  obtain ⟨av, hM⟩ := M.e_grd hM
  simp only [Bool.and_eq_true, decide_eq_true_eq] at av
  refine zR (low + (((high - low) + 1) / 2)) (low + (((high - low) + 1) / 2)) ((low + (((high - low) + 1) / 2)) * (low + (((high - low) + 1) / 2))) rfl rfl rfl (by omega) ?_
  refine zM (I n) rfl ?_
  refine zC ((low + (((high - low) + 1) / 2)) * (low + (((high - low) + 1) / 2))) n (decide (((low + (((high - low) + 1) / 2)) * (low + (((high - low) + 1) / 2))) <= n)) rfl rfl rfl ?_
  refine s_nil ?_
  refine W.cond (decide (((low + (((high - low) + 1) / 2)) * (low + (((high - low) + 1) / 2))) <= n)) rfl (fun ab => ?_) (fun ab => ?_)
  ·replace hM := M.e_t hM ab
   simp only [qy1, qy2, qy3, qy4, qy5, qy6, ne_eq, qy7] at ab
   refine W.region rfl ?_
   refine zM (I (low + (((high - low) + 1) / 2))) rfl ?_
   refine zA (I (low + (((high - low) + 1) / 2))) rfl ?_
   refine s_nil ?_
   exact ⟨ai, aj, low + (((high - low) + 1) / 2), high, _, upds_of _ _ ⟨rfl, rfl, rfl, trivial⟩, M.e_inl hM ae, H⟩
  replace hM := M.e_f hM ab
  simp only [qy1, qy2, qy3, qy4, qy5, qy6, ne_eq, qy7] at ab
  refine W.region rfl ?_
  refine zM (I (low + (((high - low) + 1) / 2))) rfl ?_
  obtain ⟨aw, hM⟩ := M.e_grd hM
  simp only [Bool.and_eq_true, decide_eq_true_eq] at aw
  refine zR (low + (((high - low) + 1) / 2)) 1 ((low + (((high - low) + 1) / 2)) - 1) rfl rfl rfl (by omega) ?_
  refine zA (I ((low + (((high - low) + 1) / 2)) - 1)) rfl ?_
  refine s_nil ?_
  exact ⟨ai, aj, low, (low + (((high - low) + 1) / 2)) - 1, _, upds_of _ _ ⟨rfl, rfl, rfl, trivial⟩, M.e_inl hM ae, H⟩
 replace hM := M.e_f hM aa
 simp only [qy1, qy2, qy3, qy4, qy5, qy6, ne_eq, qy7] at aa
 refine W.exit ?_
 have ax := M.e_inr hM ae
 subst ax
 replace hM := am
 try dsimp only at hM
 refine W.seq ?_
 refine W.region rfl ?_
 refine zM (I low) rfl ?_
 refine zA (I low) rfl ?_
 refine s_nil ?_
 refine W.ret ?_
 have ay := M.e_pure hM
 exact ⟨_, resE_tmp rfl, ⟨low, ay, rfl, H⟩⟩

def zbA (aa : List Sect) (ab : List Mrk) (ac : List Rch) (r_ : Rch) (c : Cas) (r3 : Int) (s : Int) (a : Int) : M Int :=
  M.grd (decide ((0 : Int) <= r_.down) && decide (r_.down < (aa.length : Int))) <|
  M.grd (decide ((0 : Int) <= r_.up) && decide (r_.up < (aa.length : Int))) <|
  M.grd (decide ((-9223372036854775808 : Int) <= (((aa.getD (Int.toNat r_.down) default).place) - ((aa.getD (Int.toNat r_.up) default).place))) && decide ((((aa.getD (Int.toNat r_.down) default).place) - ((aa.getD (Int.toNat r_.up) default).place)) <= (9223372036854775807 : Int))) <|
  M.grd (decide ((-9223372036854775808 : Int) <= (10000 * a)) && decide ((10000 * a) <= (9223372036854775807 : Int))) <|
  M.grd (decide ((-9223372036854775808 : Int) <= ((10000 * a) * r3)) && decide (((10000 * a) * r3) <= (9223372036854775807 : Int))) <|
  M.grd (decide ((-9223372036854775808 : Int) <= (c.up - c.down)) && decide ((c.up - c.down) <= (9223372036854775807 : Int))) <|
  M.grd (decide ((-9223372036854775808 : Int) <= (((10000 * a) * r3) * (c.up - c.down))) && decide ((((10000 * a) * r3) * (c.up - c.down)) <= (9223372036854775807 : Int))) <|
  M.grd (decide ((-9223372036854775808 : Int) <= (s * c.roughdown)) && decide ((s * c.roughdown) <= (9223372036854775807 : Int))) <|
  M.grd (decide ((-9223372036854775808 : Int) <= ((s * c.roughdown) * (((aa.getD (Int.toNat r_.down) default).place) - ((aa.getD (Int.toNat r_.up) default).place)))) && decide (((s * c.roughdown) * (((aa.getD (Int.toNat r_.down) default).place) - ((aa.getD (Int.toNat r_.up) default).place))) <= (9223372036854775807 : Int))) <|
  M.grd (decide (0 <= (((10000 * a) * r3) * (c.up - c.down))) && decide ((((10000 * a) * r3) * (c.up - c.down)) <= (9223372036854775807 : Int)) && decide ((0 : Int) < ((s * c.roughdown) * (((aa.getD (Int.toNat r_.down) default).place) - ((aa.getD (Int.toNat r_.up) default).place))))) <|
  M.bind (zcA ((((10000 * a) * r3) * (c.up - c.down)) / ((s * c.roughdown) * (((aa.getD (Int.toNat r_.down) default).place) - ((aa.getD (Int.toNat r_.up) default).place))))) fun r4 =>
  M.pure r4
def zbi (aa : List Sect) (ab : List Mrk) (ac : List Rch) (r_ : Rch) (c : Cas) : M Int :=
  M.bind (zaa aa ab ac (⟨(r_.up : Int), (c.up : Int)⟩ : Spot)) fun r2 =>
  M.bind (zaa aa ab ac (⟨(r_.down : Int), (c.down : Int)⟩ : Spot)) fun r3 =>
  bif r_.narrow then (
  zbA aa ab ac r_ c r3 c.roughdown r3)
  else (
  zbA aa ab ac r_ c r3 c.roughup r2)
theorem zcg {R : List Chunk} {ac : Nat} {aw : Cells} {ag : Value} {ax : Cells} {ay : Value} {az : Cells} {aA : Value} {ap : Nat} (aa : List Sect) (ai : List Mrk) (aj : List Rch) (r_ : Rch) (c : Cas) (aq : Reads R aw) (ak : Sl aw ag aa) (aB : Reads R ax) (aC : Sl ax ay ai) (aD : Reads R az) (aE : Sl az aA aj) (au : Has R (cBlk ac [ag, ay, aA, .map (some ap)] 177)) {r : Int} (hM : (zbi aa ai aj r_ c).Ends r) (w : World) (H : St w w [cMemI encSpt ap (zaa aa ai aj)] R) : Ret Tryz.prog 72 #[Pq ac, .agg #[I r_.up, I r_.down, I r_.lo, I r_.hi, B r_.narrow], .agg #[I c.up, I c.down, I c.roughup, I c.roughdown]] w fun v w' => ∃ (y0 : Int), y0 = r /\ v = I y0 /\ St w w' [cMemI encSpt ap (zaa aa ai aj)] R := by
 refine ret_of_W Tryz.func72 rfl rfl rfl ?_
 refine W.seq ?_
 refine W.region rfl ?_
 refine t_box (v := .agg #[I r_.up, I r_.down, I r_.lo, I r_.hi, B r_.narrow]) (cs := [I r_.up, I r_.down, I r_.lo, I r_.hi, B r_.narrow]) H rfl rfl ?_
 intro ae aW H
 refine t_box (v := .agg #[I c.up, I c.down, I c.roughup, I c.roughdown]) (cs := [I c.up, I c.down, I c.roughup, I c.roughdown]) H rfl rfl ?_
 intro ab aX H
 refine zA (I 0) rfl ?_
 refine s_nil ?_
 refine W.seq ?_
 refine W.draw (fun W => St w W [cBlk ab [I c.up, I c.down, I c.roughup, I c.roughdown] 61, cBlk ae [I r_.up, I r_.down, I r_.lo, I r_.hi, B r_.narrow] 58] R) [(0, true), (1, true), (2, true), (3, true), (4, true), (5, true), (7, true), (8, true), (9, true), (10, true), (11, true), (12, true), (6, false), (13, false), (14, true), (15, true)] mixed (by decide +kernel) rfl ?_
 intro aY am
 replace H := H.ext am
 clear am
 refine ⟨(H.pk [0, 1]), ?_⟩
 refine d_q rfl (fun w' H => x_mv (v := Pq ac) rfl) ?_
 refine d_q rfl (fun w' H => x_fa (a := Pq ae) (v := Pq ae) rfl (fa_blk (o := 0) Fd58_0 Sz3)) ?_
 refine d_q rfl (fun w' H => x_ld (p := Pq ae) (v := I r_.up) rfl (ldb_sc Sc3 (H.bl 1) rfl)) ?_
 refine d_q rfl (fun w' H => x_fa (a := Pq ab) (v := Pq ab) rfl (fa_blk (o := 0) Fd61_0 Sz3)) ?_
 refine d_q rfl (fun w' H => x_ld (p := Pq ab) (v := I c.up) rfl (ldb_sc Sc3 (H.bl 0) rfl)) ?_
 refine d_q rfl (fun w' H => x_bld (ps := [(0, I r_.up), (1, I c.up)]) (zs := [I 0, I 0]) (L' := [I r_.up, I c.up]) rfl Tryz.underlying160 Al160 rfl (Bd160 Tryz.underlying160) (.cons (cs := [I r_.up]) rfl rfl rfl rfl rfl <| .cons (cs := [I c.up]) rfl rfl rfl rfl rfl <| .nil)) ?_
 refine d_q rfl (fun w' H => x_mv (v := Pq ac) rfl) ?_
 refine d_q rfl (fun w' H => x_fa (a := Pq ae) (v := Oq ae 1) rfl (fa_blk (o := 0) Fd58_1 Sz3)) ?_
 refine d_q rfl (fun w' H => x_ld (p := Oq ae 1) (v := I r_.down) rfl (ldb_sc Sc3 (H.bl 1) rfl)) ?_
 refine d_q rfl (fun w' H => x_fa (a := Pq ab) (v := Oq ab 1) rfl (fa_blk (o := 0) Fd61_1 Sz3)) ?_
 refine d_q rfl (fun w' H => x_ld (p := Oq ab 1) (v := I c.down) rfl (ldb_sc Sc3 (H.bl 0) rfl)) ?_
 refine d_q rfl (fun w' H => x_bld (ps := [(0, I r_.down), (1, I c.down)]) (zs := [I 0, I 0]) (L' := [I r_.down, I c.down]) rfl Tryz.underlying160 Al160 rfl (Bd160 Tryz.underlying160) (.cons (cs := [I r_.down]) rfl rfl rfl rfl rfl <| .cons (cs := [I c.down]) rfl rfl rfl rfl rfl <| .nil)) ?_
 refine d_l rfl ?_
 obtain ⟨aZ, aF, hM⟩ := M.e_bind hM
 refine s_call cf83 [Pq ac, .agg #[I r_.up, I c.up]] rfl (zct aa ai aj (⟨(r_.up : Int), (c.up : Int)⟩ : Spot) (aq.app _) ak (aB.app _) aC (aD.app _) aE (au.app _) aF _ ((H.pk [2, 0, 1]).gt 2)) ?_
 rintro vq a6 ⟨r2, aG, hvq, ao⟩
 subst aG
 subst vq
 try dsimp only at hM
 replace H := H.pk [2, 0, 1] |>.bk ao
 clear ao
 refine s_nil ⟨(H.pk [1, 2]), ?_⟩
 refine d_l rfl ?_
 obtain ⟨a7, aH, hM⟩ := M.e_bind hM
 refine s_call cf83 [Pq ac, .agg #[I r_.down, I c.down]] rfl (zct aa ai aj (⟨(r_.down : Int), (c.down : Int)⟩ : Spot) (aq.app _) ak (aB.app _) aC (aD.app _) aE (au.app _) aH _ (H.gt 2)) ?_
 rintro vq a8 ⟨r3, aI, hvq, ao⟩
 subst aI
 subst vq
 try dsimp only at hM
 replace H := H.bk ao
 clear ao
 refine s_nil ⟨(H.pk [1, 2]), ?_⟩
 refine d_q rfl (fun w' H => x_as (v := I r2) rfl) ?_
 refine d_q rfl (fun w' H => x_as (v := I r3) rfl) ?_
 refine d_nil ?_
 refine W.seqJ (fun σ W => ∃ (s : Int) (a : Int) (ρ : Env), σ = upds ρ [(0, Pq ac), (4, Pq ae), (5, Pq ab), (7, I a), (8, I r3)] /\ (zbA aa ai aj r_ c r3 s a).Ends r /\ St w W [cMemI encSpt ap (zaa aa ai aj), cBlk ab [I c.up, I c.down, I s, I c.roughdown] 61, cBlk ae [I r_.up, I r_.down, I r_.lo, I r_.hi, B r_.narrow] 58] R) ?_ ?_
 ·skip
  refine W.seq ?_
  refine W.region rfl ?_
  refine s_val (x_fa (a := Pq ae) (v := Oq ae 4) rfl (fa_blk (o := 0) Fd58_3 Sz4)) ?_
  refine s_val (x_ld (p := Oq ae 4) (v := B r_.narrow) rfl (ldb_sc Sc4 (H.bl 2) rfl)) ?_
  refine s_nil ?_
  refine W.cond r_.narrow rfl (fun av => ?_) (fun av => ?_)
  ·replace hM := M.e_t hM av
   refine W.draw (fun W => St w W [cMemI encSpt ap (zaa aa ai aj), cBlk ae [I r_.up, I r_.down, I r_.lo, I r_.hi, B r_.narrow] 58] R) [(0, true), (1, true), (3, true), (2, false), (4, true), (5, false)] mixed (by decide +kernel) rfl ?_
   intro ba am
   replace H := H.ext am
   clear am
   refine ⟨(H.pk [0, 2]), ?_⟩
   refine d_q rfl (fun w' H => x_mv (v := I r3) rfl) ?_
   refine d_q rfl (fun w' H => x_fa (a := Pq ab) (v := Oq ab 3) rfl (fa_blk (o := 0) Fd61_3 Sz3)) ?_
   refine d_q rfl (fun w' H => x_as (v := I r3) rfl) ?_
   refine d_l rfl ?_
   refine s_val (x_ld (p := Oq ab 3) (v := I c.roughdown) rfl (ldb_sc Sc3 (H.bl 1) rfl)) ?_
   refine s_nil ⟨(H.pk [0, 2]), ?_⟩
   refine d_q rfl (fun w' H => x_fa (a := Pq ab) (v := Oq ab 2) rfl (fa_blk (o := 0) Fd61_2 Sz3)) ?_
   refine d_l rfl ?_
   refine t_sw 1 2 [I c.roughdown] (I c.roughdown) H rfl rfl Sz3 rfl rfl rfl rfl ?_
   intro bb H
   refine s_nil ⟨(H.pk [0, 2]), ?_⟩
   refine d_nil ?_
   exact ⟨c.roughdown, r3, _, upds_of _ _ ⟨rfl, rfl, rfl, rfl, rfl, trivial⟩, hM, H⟩
  replace hM := M.e_f hM av
  refine W.skip ?_
  exact ⟨c.roughup, r2, _, upds_of _ _ ⟨rfl, rfl, rfl, rfl, rfl, trivial⟩, hM, H⟩
 rintro _ bc ⟨s, a, ρ, rfl, hM, H⟩
 unfold zbA at hM
 refine W.seq ?_
 refine W.draw (fun W => St w W [cMemI encSpt ap (zaa aa ai aj), cBlk ab [I c.up, I c.down, I s, I c.roughdown] 61, cBlk ae [I r_.up, I r_.down, I r_.lo, I r_.hi, B r_.narrow] 58] R) [(0, true), (1, true), (2, true), (3, true), (4, true), (5, true), (6, true), (7, true), (8, true), (9, true), (10, true), (11, true), (12, true), (13, true), (14, true), (15, true), (16, true), (17, true), (18, true), (19, true), (20, true), (21, true)] mixed (by decide +kernel) rfl ?_
 intro bf am
 replace H := H.ext am
 clear am
 refine ⟨(H.pk [0, 1, 2]), ?_⟩
 refine d_q rfl (fun w' H => x_mv (v := Pq ac) rfl) ?_
 refine d_q rfl (fun w' H => x_nc (a := ⟨ac, 0, none⟩) rfl) ?_
 refine d_q rfl (fun w' H => x_fa (a := Pq ac) (v := Pq ac) rfl (fa_blk (o := 0) Fd177_0 Sz27)) ?_
 refine d_q rfl (fun w' H => x_fa (a := Pq ac) (v := Pq ac) rfl (fa_blk (o := 0) Fd27_0 Sz23)) ?_
 refine d_q rfl (fun w' H => x_ld (p := Pq ac) (v := ag) rfl (ldb_sc Sc23 (au.blk H) rfl)) ?_
 refine d_q rfl (fun w' H => x_fa (a := Pq ae) (v := Oq ae 1) rfl (fa_blk (o := 0) Fd58_1 Sz3)) ?_
 refine d_q rfl (fun w' H => x_ld (p := Oq ae 1) (v := I r_.down) rfl (ldb_sc Sc3 (H.bl 2) rfl)) ?_
 obtain ⟨aJ, hM⟩ := M.e_grd hM
 simp only [Bool.and_eq_true, decide_eq_true_eq] at aJ
 refine d_q rfl (fun w' H => x_ix (a := ag) (b := I r_.down) (v := vat ag 2 (Int.toNat r_.down)) rfl rfl (Sl.ix (α := Sect) T23.und T23.size ak (by omega) (by omega))) ?_
 refine d_q rfl (fun w' H => x_fa (a := vat ag 2 (Int.toNat r_.down)) (v := fat (vat ag 2 (Int.toNat r_.down)) 0) rfl (fa_pl Fd68_0 Sz3 (Sl.pl (i := r_.down) ak (by omega) (by omega)))) ?_
 refine d_q rfl (fun w' H => x_ld (p := fat (vat ag 2 (Int.toNat r_.down)) 0) (v := I ((aa.getD (Int.toNat r_.down) default).place)) rfl (ld_sc Sc3 (At.mono (Sect_at0 ak (i := r_.down) (by omega) (by omega)) (aq.at H)))) ?_
 refine d_q rfl (fun w' H => x_mv (v := Pq ac) rfl) ?_
 refine d_q rfl (fun w' H => x_nc (a := ⟨ac, 0, none⟩) rfl) ?_
 refine d_q rfl (fun w' H => x_fa (a := Pq ac) (v := Pq ac) rfl (fa_blk (o := 0) Fd177_0 Sz27)) ?_
 refine d_q rfl (fun w' H => x_fa (a := Pq ac) (v := Pq ac) rfl (fa_blk (o := 0) Fd27_0 Sz23)) ?_
 refine d_q rfl (fun w' H => x_ld (p := Pq ac) (v := ag) rfl (ldb_sc Sc23 (au.blk H) rfl)) ?_
 refine d_q rfl (fun w' H => x_fa (a := Pq ae) (v := Pq ae) rfl (fa_blk (o := 0) Fd58_0 Sz3)) ?_
 refine d_q rfl (fun w' H => x_ld (p := Pq ae) (v := I r_.up) rfl (ldb_sc Sc3 (H.bl 2) rfl)) ?_
 obtain ⟨aK, hM⟩ := M.e_grd hM
 simp only [Bool.and_eq_true, decide_eq_true_eq] at aK
 refine d_q rfl (fun w' H => x_ix (a := ag) (b := I r_.up) (v := vat ag 2 (Int.toNat r_.up)) rfl rfl (Sl.ix (α := Sect) T23.und T23.size ak (by omega) (by omega))) ?_
 refine d_q rfl (fun w' H => x_fa (a := vat ag 2 (Int.toNat r_.up)) (v := fat (vat ag 2 (Int.toNat r_.up)) 0) rfl (fa_pl Fd68_0 Sz3 (Sl.pl (i := r_.up) ak (by omega) (by omega)))) ?_
 refine d_q rfl (fun w' H => x_ld (p := fat (vat ag 2 (Int.toNat r_.up)) 0) (v := I ((aa.getD (Int.toNat r_.up) default).place)) rfl (ld_sc Sc3 (At.mono (Sect_at0 ak (i := r_.up) (by omega) (by omega)) (aq.at H)))) ?_
 obtain ⟨aL, hM⟩ := M.e_grd hM
 simp only [Bool.and_eq_true, decide_eq_true_eq] at aL
 refine d_q rfl (fun w' H => x_ari (a := (aa.getD (Int.toNat r_.down) default).place) (b := (aa.getD (Int.toNat r_.up) default).place) (r := ((aa.getD (Int.toNat r_.down) default).place) - ((aa.getD (Int.toNat r_.up) default).place)) rfl rfl rfl (by omega)) ?_
 refine d_q rfl (fun w' H => x_as (v := I (((aa.getD (Int.toNat r_.down) default).place) - ((aa.getD (Int.toNat r_.up) default).place))) rfl) ?_
 refine d_nil ?_
 refine W.seq ?_
 refine W.region rfl ?_
 refine zM (I a) rfl ?_
 obtain ⟨aM, hM⟩ := M.e_grd hM
 simp only [Bool.and_eq_true, decide_eq_true_eq] at aM
 refine zR 10000 a (10000 * a) rfl rfl rfl (by omega) ?_
 refine zM (I r3) rfl ?_
 obtain ⟨aN, hM⟩ := M.e_grd hM
 simp only [Bool.and_eq_true, decide_eq_true_eq] at aN
 refine zR (10000 * a) r3 ((10000 * a) * r3) rfl rfl rfl (by omega) ?_
 refine s_val (x_fa (a := Pq ab) (v := Pq ab) rfl (fa_blk (o := 0) Fd61_0 Sz3)) ?_
 refine s_val (x_ld (p := Pq ab) (v := I c.up) rfl (ldb_sc Sc3 (H.bl 1) rfl)) ?_
 refine s_val (x_fa (a := Pq ab) (v := Oq ab 1) rfl (fa_blk (o := 0) Fd61_1 Sz3)) ?_
 refine s_val (x_ld (p := Oq ab 1) (v := I c.down) rfl (ldb_sc Sc3 (H.bl 1) rfl)) ?_
 obtain ⟨aO, hM⟩ := M.e_grd hM
 simp only [Bool.and_eq_true, decide_eq_true_eq] at aO
 refine zR c.up c.down (c.up - c.down) rfl rfl rfl (by omega) ?_
 obtain ⟨aP, hM⟩ := M.e_grd hM
 simp only [Bool.and_eq_true, decide_eq_true_eq] at aP
 refine zR ((10000 * a) * r3) (c.up - c.down) (((10000 * a) * r3) * (c.up - c.down)) rfl rfl rfl (by omega) ?_
 refine s_val (x_fa (a := Pq ab) (v := Oq ab 2) rfl (fa_blk (o := 0) Fd61_2 Sz3)) ?_
 refine s_val (x_ld (p := Oq ab 2) (v := I s) rfl (ldb_sc Sc3 (H.bl 1) rfl)) ?_
 refine s_val (x_fa (a := Pq ab) (v := Oq ab 3) rfl (fa_blk (o := 0) Fd61_3 Sz3)) ?_
 refine s_val (x_ld (p := Oq ab 3) (v := I c.roughdown) rfl (ldb_sc Sc3 (H.bl 1) rfl)) ?_
 obtain ⟨aQ, hM⟩ := M.e_grd hM
 simp only [Bool.and_eq_true, decide_eq_true_eq] at aQ
 refine zR s c.roughdown (s * c.roughdown) rfl rfl rfl (by omega) ?_
 refine zM (I (((aa.getD (Int.toNat r_.down) default).place) - ((aa.getD (Int.toNat r_.up) default).place))) rfl ?_
 obtain ⟨aR, hM⟩ := M.e_grd hM
 simp only [Bool.and_eq_true, decide_eq_true_eq] at aR
 refine zR (s * c.roughdown) (((aa.getD (Int.toNat r_.down) default).place) - ((aa.getD (Int.toNat r_.up) default).place)) ((s * c.roughdown) * (((aa.getD (Int.toNat r_.down) default).place) - ((aa.getD (Int.toNat r_.up) default).place))) rfl rfl rfl (by omega) ?_
 obtain ⟨aS, hM⟩ := M.e_grd hM
 simp only [Bool.and_eq_true, decide_eq_true_eq] at aS
 refine s_val (x_quo (a := ((10000 * a) * r3) * (c.up - c.down)) (b := (s * c.roughdown) * (((aa.getD (Int.toNat r_.down) default).place) - ((aa.getD (Int.toNat r_.up) default).place))) rfl rfl (by omega)) ?_
 obtain ⟨bg, aT, hM⟩ := M.e_bind hM
 refine s_call cf108 [I ((((10000 * a) * r3) * (c.up - c.down)) / ((s * c.roughdown) * (((aa.getD (Int.toNat r_.down) default).place) - ((aa.getD (Int.toNat r_.up) default).place))))] rfl (zdq ((((10000 * a) * r3) * (c.up - c.down)) / ((s * c.roughdown) * (((aa.getD (Int.toNat r_.down) default).place) - ((aa.getD (Int.toNat r_.up) default).place)))) aT _ (H.gt 3)) ?_
 rintro vq bh ⟨r4, aU, hvq, ao⟩
 subst aU
 subst vq
 try dsimp only at hM
 replace H := H.bk ao
 clear ao
 refine zA (I r4) rfl ?_
 refine s_nil ?_
 replace H := H.pk [0]
 refine W.ret ?_
 have aV := M.e_pure hM
 exact ⟨_, resE_tmp rfl, ⟨r4, aV, rfl, H⟩⟩

def zcD : M Unit :=
  M.pure ()
theorem zcx {R : List Chunk}    {r : Unit} (hM : (zcD).Ends r) (w : World) (H : St w w [] R) : Ret Tryz.prog 67 #[] w fun v w' => () = r /\ v = .agg #[.func (.func 106) #[] #[]] /\ St w w' [] R := by
 refine ret_of_W Tryz.func67 rfl rfl rfl ?_
 refine W.seq ?_
 refine W.region rfl ?_
 refine t_alloc (cs := [.nilFunc]) H Al138 rfl ?_
 intro ac ae H
 refine s_nil ?_
 refine W.seq ?_
 refine W.region rfl ?_
 refine s_val (x_bld (ps := [(0, .func (.func 106) #[] #[])]) (zs := [.nilFunc]) (L' := [.func (.func 106) #[] #[]]) rfl Tryz.underlying138 Al138 rfl (Bd138 Tryz.underlying138) (.cons (cs := [.func (.func 106) #[] #[]]) rfl rfl rfl rfl rfl <| .nil)) ?_
 refine t_sw 0 0 [.func (.func 106) #[] #[]] (.agg #[.func (.func 106) #[] #[]]) H rfl rfl Sz138 rfl rfl rfl rfl ?_
 intro ag H
 refine s_nil ?_
 refine W.ret ?_
 have aa := (H.bl 0)
 have ab := M.e_pure hM
 exact ⟨_, (resE_of1 (v := .agg #[.func (.func 106) #[] #[]]) rfl (.cell (v := .agg #[.func (.func 106) #[] #[]]) rfl (run_loadVar_ag (ds := [.func (.func 106) #[] #[]]) Ag138 Sz138 aa rfl rfl) <| .nil)), ⟨ab, rfl, (H.pk [])⟩⟩

def za5 (l : List Int) : (Int × Nat) -> M ((Int × Nat) ⊕ Int) := fun (first2, s) =>
  bif decide ((s : Int) < (l.length : Int)) then (
  M.grd (decide ((s : Int) < (l.length : Int))) <|
  M.pure (.inl (min first2 (l.getD s 0), s + 1)))
  else (
  M.pure (.inr first2))
def zaB (first : Int) (l : List Int) : M Int :=
  M.bind (M.iter (za5 l) (first, 0)) fun first3 =>
  M.pure first3
theorem zce {R : List Chunk} {ag : Cells} {aa : Value} (first : Int) (l : List Int) (ak : Reads R ag) (ac : Sl ag aa l) {r : Int} (hM : (zaB first l).Ends r) (w : World) (H : St w w [] R) : Ret Tryz.prog 73 #[I first, aa] w fun v w' => ∃ (y0 : Int), y0 = r /\ v = I y0 /\ St w w' [] R := by
 refine ret_of_W Tryz.func73 rfl rfl rfl ?_
 refine W.seq ?_
 refine W.region rfl ?_
 refine zA (I 0) rfl ?_
 refine s_nil ?_
 refine W.seq ?_
 refine W.seq ?_
 refine W.region rfl ?_
 refine zM aa rfl ?_
 have ax := (ac).len_le
 refine s_val (x_lenS T28.und rfl ac) ?_
 refine zM (I 0) rfl ?_
 refine s_nil ?_
 refine W.block ?_
 obtain ⟨am, ae, ao⟩ := M.e_bind hM
 obtain ⟨ay, ae⟩ := M.e_iter ae
 refine W.loop (fun m σ W => ∃ (first2 : Int) (s : Nat) (ρ : Env), σ = upds ρ [(0, I first2), (7, aa), (8, I (l.length : Int)), (9, I (s : Int))] /\ M.iterN (za5 l) m (first2, s) = some am /\ St w W [] R) ?_ ?_
 ·exact ⟨_, first, 0, _, upds_of _ _ ⟨rfl, rfl, rfl, rfl, trivial⟩, ae, H⟩
 rintro az σ aA ⟨first2, s, ρ, rfl, ai, H⟩
 obtain ⟨ap, aq, aB, hM, aj⟩ := M.e_iterN ai
 simp only [za5] at hM
 clear ai
 refine W.seq ?_
 refine W.region rfl ?_
 refine zC (s : Int) (l.length : Int) (decide ((s : Int) < (l.length : Int))) rfl rfl rfl ?_
 refine s_nil ?_
 refine W.seq ?_
 refine W.cond (decide ((s : Int) < (l.length : Int))) rfl (fun ab => ?_) (fun ab => ?_)
 ·replace hM := M.e_t hM ab
  simp only [qy1, qy2, qy3, qy4, qy5, qy6, ne_eq, qy7] at ab
  refine W.skip ?_
  refine W.seq ?_
  refine W.block ?_
  refine W.seq ?_
  refine W.region rfl ?_
  obtain ⟨au, hM⟩ := M.e_grd hM
  simp only [Bool.and_eq_true, decide_eq_true_eq] at au
  refine s_val (x_ix (a := aa) (b := I (s : Int)) (v := vat aa 1 (Int.toNat (s : Int))) rfl rfl (Sl.ix (α := Int) T28.und T28.size ac (by omega) (by omega))) ?_
  refine s_val (x_ld (p := vat aa 1 (Int.toNat (s : Int))) (v := I (l.getD s 0)) rfl (ld_sc Sc3 (At.mono (Int_at ac (i := (s : Int)) (by omega) (by omega)) (ak.at H)))) ?_
  refine zA (I (l.getD s 0)) rfl ?_
  refine s_nil ?_
  refine W.region rfl ?_
  refine zM (I first2) rfl ?_
  refine zM (I (l.getD s 0)) rfl ?_
  refine s_val (x_min (kd := .i64) (a := first2) (b := l.getD s 0) rfl rfl) ?_
  refine zA (I (min first2 (l.getD s 0))) rfl ?_
  refine s_nil ?_
  refine W.region rfl ?_
  refine zR (s : Int) 1 ((s : Int) + 1) rfl rfl rfl (by omega) ?_
  refine zM (I ((s : Int) + 1)) rfl ?_
  refine s_nil ?_
  exact ⟨ap, aq, min first2 (l.getD s 0), s + 1, _, upds_of _ _ ⟨rfl, rfl, rfl, rfl, trivial⟩, M.e_inl hM aj, H⟩
 replace hM := M.e_f hM ab
 simp only [qy1, qy2, qy3, qy4, qy5, qy6, ne_eq, qy7] at ab
 refine W.exit ?_
 have av := M.e_inr hM aj
 subst av
 replace hM := ao
 try dsimp only at hM
 refine W.seq ?_
 refine W.region rfl ?_
 refine zM (I first2) rfl ?_
 refine zA (I first2) rfl ?_
 refine s_nil ?_
 refine W.ret ?_
 have aw := M.e_pure hM
 exact ⟨_, resE_tmp rfl, ⟨first2, aw, rfl, H⟩⟩

def zaZ (ac : List Sect) (aa : List Mrk) (marks : List Int) (ab : Int) : (Int × Int × Nat) -> M ((Int × Int × Nat) ⊕ (Int × Int)) := fun (s2, s3, s4) =>
  bif decide ((s4 : Int) < (marks.length : Int)) then (
  M.grd (decide ((s4 : Int) < (marks.length : Int))) <|
  M.grd (decide ((0 : Int) <= (marks.getD s4 0)) && decide ((marks.getD s4 0) < (aa.length : Int))) <|
  M.grd (decide ((0 : Int) <= ab) && decide (ab < (ac.length : Int))) <|
  bif decide (((aa.getD (Int.toNat (marks.getD s4 0)) default).place) <= ((ac.getD (Int.toNat ab) default).place)) then (
  M.bind (zaB s3 ([((aa.getD (Int.toNat (marks.getD s4 0)) default).hi : Int)])) fun r2 =>
  bif decide (((ac.getD (Int.toNat ab) default).place) <= ((aa.getD (Int.toNat (marks.getD s4 0)) default).place)) then (
  M.pure (.inl (max s2 ((aa.getD (Int.toNat (marks.getD s4 0)) default).lo), r2, s4 + 1)))
  else (
  M.pure (.inl (s2, r2, s4 + 1))))
  else (
  bif decide (((ac.getD (Int.toNat ab) default).place) <= ((aa.getD (Int.toNat (marks.getD s4 0)) default).place)) then (
  M.pure (.inl (max s2 ((aa.getD (Int.toNat (marks.getD s4 0)) default).lo), s3, s4 + 1)))
  else (
  M.pure (.inl (s2, s3, s4 + 1)))))
  else (
  M.pure (.inr (s2, s3)))
def zao (aa : List Sect) (ab : List Mrk) (ae : List Rch) (marks : List Int) (ac : Int) : M (Int × Int) :=
  M.bind (M.iter (zaZ aa ab marks ac) (0, 2000, 0)) fun (s5, s6) =>
  M.pure (s5, s6)
theorem za7 {R : List Chunk} {ac : Nat} {aF : Cells} {ai : Value} {aG : Cells} {ap : Value} {aH : Cells} {aI : Value} {aP : Nat} {aJ : Cells} {ao : Value} (aj : List Sect) (aa : List Mrk) (aK : List Rch) (marks : List Int) (ab : Int) (aD : Reads R aF) (ak : Sl aF ai aj) (aQ : Reads R aG) (aL : Sl aG ap aa) (a8 : Reads R aH) (ba : Sl aH aI aK) (az : Has R (cBlk ac [ai, ap, aI, .map (some aP)] 177)) (aR : Reads R aJ) (aA : Sl aJ ao marks) {r : (Int × Int)} (hM : (zao aj aa aK marks ab).Ends r) (w : World) (H : St w w [] R) : Ret Tryz.prog 59 #[Pq ac, ao, I ab] w fun v w' => ∃ (y0 : Int) (y1 : Int), (y0, y1) = r /\ v = .agg #[I y0, I y1] /\ St w w' [] R := by
 refine ret_of_W Tryz.func59 rfl rfl rfl ?_
 refine W.seq ?_
 refine W.region rfl ?_
 refine t_alloc (cs := [I 0, I 0]) H Al54 rfl ?_
 intro aq bb H
 refine s_nil ?_
 refine W.seq ?_
 refine W.region rfl ?_
 refine s_val (x_bld (ps := [(1, I 2000)]) (zs := [I 0, I 0]) (L' := [I 0, I 2000]) rfl Tryz.underlying54 Al54 rfl (Bd54 Tryz.underlying54) (.cons (cs := [I 2000]) rfl rfl rfl rfl rfl <| .nil)) ?_
 refine t_alloc (cs := [I 0, I 0]) H Al54 rfl ?_
 intro ag bc H
 refine t_sw 0 0 [I 0, I 2000] (.agg #[I 0, I 2000]) H rfl rfl Sz54 rfl rfl rfl rfl ?_
 intro bf H
 refine s_nil ?_
 refine W.seq ?_
 refine W.seq ?_
 refine W.region rfl ?_
 refine zM ao rfl ?_
 have bg := (aA).len_le
 refine s_val (x_lenS T28.und rfl aA) ?_
 refine zM (I 0) rfl ?_
 refine s_nil ?_
 refine W.block ?_
 obtain ⟨aS, aE, aT⟩ := M.e_bind hM
 obtain ⟨bh, aE⟩ := M.e_iter aE
 refine W.loop (fun m σ W => ∃ (s2 : Int) (s3 : Int) (s4 : Nat) (ρ : Env), σ = upds ρ [(0, Pq ac), (2, I ab), (6, Pq aq), (7, Pq ag), (12, ao), (13, I (marks.length : Int)), (14, I (s4 : Int))] /\ M.iterN (zaZ aj aa marks ab) m (s2, s3, s4) = some aS /\ St w W [cBlk ag [I s2, I s3] 54, cBlk aq [I 0, I 0] 54] R) ?_ ?_
 ·exact ⟨_, 0, 2000, 0, _, upds_of _ _ ⟨rfl, rfl, rfl, rfl, rfl, rfl, rfl, trivial⟩, aE, H⟩
 rintro bi σ bj ⟨s2, s3, s4, ρ, rfl, aM, H⟩
 obtain ⟨aB, aC, bm, hM, au⟩ := M.e_iterN aM
 simp only [zaZ] at hM
 clear aM
 refine W.seq ?_
 refine W.region rfl ?_
 refine zC (s4 : Int) (marks.length : Int) (decide ((s4 : Int) < (marks.length : Int))) rfl rfl rfl ?_
 refine s_nil ?_
 refine W.seq ?_
 refine W.cond (decide ((s4 : Int) < (marks.length : Int))) rfl (fun av => ?_) (fun av => ?_)
 ·replace hM := M.e_t hM av
  simp only [qy1, qy2, qy3, qy4, qy5, qy6, ne_eq, qy7] at av
  refine W.skip ?_
  refine W.seq ?_
  refine W.block ?_
  refine W.seq ?_
  refine W.region rfl ?_
  obtain ⟨aU, hM⟩ := M.e_grd hM
  simp only [Bool.and_eq_true, decide_eq_true_eq] at aU
  refine s_val (x_ix (a := ao) (b := I (s4 : Int)) (v := vat ao 1 (Int.toNat (s4 : Int))) rfl rfl (Sl.ix (α := Int) T28.und T28.size aA (by omega) (by omega))) ?_
  refine s_val (x_ld (p := vat ao 1 (Int.toNat (s4 : Int))) (v := I (marks.getD s4 0)) rfl (ld_sc Sc3 (At.mono (Int_at aA (i := (s4 : Int)) (by omega) (by omega)) (aR.at H)))) ?_
  refine zA (I (marks.getD s4 0)) rfl ?_
  refine s_nil ?_
  refine W.seq ?_
  refine W.region rfl ?_
  refine zM (Pq ac) rfl ?_
  refine s_val (x_nc (a := ⟨ac, 0, none⟩) rfl) ?_
  refine s_val (x_fa (a := Pq ac) (v := Pq ac) rfl (fa_blk (o := 0) Fd177_0 Sz27)) ?_
  refine s_val (x_fa (a := Pq ac) (v := Oq ac 1) rfl (fa_blk (o := 0) Fd27_1 Sz24)) ?_
  refine s_val (x_ld (p := Oq ac 1) (v := ap) rfl (ldb_sc Sc24 (az.blk H) rfl)) ?_
  refine zM (I (marks.getD s4 0)) rfl ?_
  obtain ⟨aV, hM⟩ := M.e_grd hM
  simp only [Bool.and_eq_true, decide_eq_true_eq] at aV
  refine s_val (x_ix (a := ap) (b := I (marks.getD s4 0)) (v := vat ap 3 (Int.toNat (marks.getD s4 0))) rfl rfl (Sl.ix (α := Mrk) T24.und T24.size aL (by omega) (by omega))) ?_
  refine s_val (x_ld (p := vat ap 3 (Int.toNat (marks.getD s4 0))) (v := .agg #[I ((aa.getD (Int.toNat (marks.getD s4 0)) default).place), I ((aa.getD (Int.toNat (marks.getD s4 0)) default).lo), I ((aa.getD (Int.toNat (marks.getD s4 0)) default).hi)]) rfl (ld_ag Ag70 Sz70 (At.mono (Mrk_atA aL (i := marks.getD s4 0) (by omega) (by omega)) (aQ.at H)))) ?_
  refine t_alloc (cs := [I 0, I 0, I 0]) H Al70 rfl ?_
  intro ae bn H
  refine t_sw 0 0 [I ((aa.getD (Int.toNat (marks.getD s4 0)) default).place), I ((aa.getD (Int.toNat (marks.getD s4 0)) default).lo), I ((aa.getD (Int.toNat (marks.getD s4 0)) default).hi)] (.agg #[I ((aa.getD (Int.toNat (marks.getD s4 0)) default).place), I ((aa.getD (Int.toNat (marks.getD s4 0)) default).lo), I ((aa.getD (Int.toNat (marks.getD s4 0)) default).hi)]) H rfl rfl Sz70 rfl rfl rfl rfl ?_
  intro bo H
  refine s_nil ?_
  refine W.seq ?_
  refine W.seq ?_
  refine W.draw (fun W => St w W [cBlk ae [I ((aa.getD (Int.toNat (marks.getD s4 0)) default).place), I ((aa.getD (Int.toNat (marks.getD s4 0)) default).lo), I ((aa.getD (Int.toNat (marks.getD s4 0)) default).hi)] 70, cBlk ag [I s2, I s3] 54, cBlk aq [I 0, I 0] 54] R) [(0, true), (1, true), (2, true), (3, true), (4, true), (5, true), (6, true), (7, true), (8, true), (9, true), (10, true), (11, true)] mixed (by decide +kernel) rfl ?_
  intro bp am
  replace H := H.ext am
  clear am
  refine ⟨(H.pk [0, 1, 2]), ?_⟩
  refine d_q rfl (fun w' H => x_fa (a := Pq ae) (v := Pq ae) rfl (fa_blk (o := 0) Fd70_0 Sz3)) ?_
  refine d_q rfl (fun w' H => x_ld (p := Pq ae) (v := I ((aa.getD (Int.toNat (marks.getD s4 0)) default).place)) rfl (ldb_sc Sc3 (H.bl 0) rfl)) ?_
  refine d_q rfl (fun w' H => x_mv (v := Pq ac) rfl) ?_
  refine d_q rfl (fun w' H => x_nc (a := ⟨ac, 0, none⟩) rfl) ?_
  refine d_q rfl (fun w' H => x_fa (a := Pq ac) (v := Pq ac) rfl (fa_blk (o := 0) Fd177_0 Sz27)) ?_
  refine d_q rfl (fun w' H => x_fa (a := Pq ac) (v := Pq ac) rfl (fa_blk (o := 0) Fd27_0 Sz23)) ?_
  refine d_q rfl (fun w' H => x_ld (p := Pq ac) (v := ai) rfl (ldb_sc Sc23 (az.blk H) rfl)) ?_
  refine d_q rfl (fun w' H => x_mv (v := I ab) rfl) ?_
  obtain ⟨aW, hM⟩ := M.e_grd hM
  simp only [Bool.and_eq_true, decide_eq_true_eq] at aW
  refine d_q rfl (fun w' H => x_ix (a := ai) (b := I ab) (v := vat ai 2 (Int.toNat ab)) rfl rfl (Sl.ix (α := Sect) T23.und T23.size ak (by omega) (by omega))) ?_
  refine d_q rfl (fun w' H => x_fa (a := vat ai 2 (Int.toNat ab)) (v := fat (vat ai 2 (Int.toNat ab)) 0) rfl (fa_pl Fd68_0 Sz3 (Sl.pl (i := ab) ak (by omega) (by omega)))) ?_
  refine d_q rfl (fun w' H => x_ld (p := fat (vat ai 2 (Int.toNat ab)) 0) (v := I ((aj.getD (Int.toNat ab) default).place)) rfl (ld_sc Sc3 (At.mono (Sect_at0 ak (i := ab) (by omega) (by omega)) (aD.at H)))) ?_
  refine d_q rfl (fun w' H => x_cmp (kd := .i64) (a := (aa.getD (Int.toNat (marks.getD s4 0)) default).place) (b := (aj.getD (Int.toNat ab) default).place) (r := decide (((aa.getD (Int.toNat (marks.getD s4 0)) default).place) <= ((aj.getD (Int.toNat ab) default).place))) rfl rfl rfl) ?_
  refine d_nil ?_
  refine W.cond (decide (((aa.getD (Int.toNat (marks.getD s4 0)) default).place) <= ((aj.getD (Int.toNat ab) default).place))) rfl (fun aw => ?_) (fun aw => ?_)
  ·replace hM := M.e_t hM aw
   simp only [qy1, qy2, qy3, qy4, qy5, qy6, ne_eq, qy7] at aw
   refine W.region rfl ?_
   refine s_val (x_fa (a := Pq ag) (v := Oq ag 1) rfl (fa_blk (o := 0) Fd54_1 Sz3)) ?_
   refine s_val (x_ld (p := Oq ag 1) (v := I s3) rfl (ldb_sc Sc3 (H.bl 1) rfl)) ?_
   refine s_val (x_fa (a := Pq ae) (v := Oq ae 1) rfl (fa_blk (o := 0) Fd70_1 Sz54)) ?_
   refine s_val (x_fa (a := Oq ae 1) (v := Oq ae 2) rfl (fa_blk (o := 1) Fd54_1 Sz3)) ?_
   refine s_val (x_ld (p := Oq ae 2) (v := I ((aa.getD (Int.toNat (marks.getD s4 0)) default).hi)) rfl (ldb_sc Sc3 (H.bl 0) rfl)) ?_
   refine t_bs (α := Int) T28 [I ((aa.getD (Int.toNat (marks.getD s4 0)) default).hi)] [((aa.getD (Int.toNat (marks.getD s4 0)) default).hi : Int)] H rfl (.cons rfl (Flat.rep_enc _ ((aa.getD (Int.toNat (marks.getD s4 0)) default).hi : Int)) <| .nil) rfl rfl rfl ?_
   intro aN bq H
   obtain ⟨br, aX, hM⟩ := M.e_bind hM
   refine s_call cf73 [I s3, aN] rfl (zce s3 ([((aa.getD (Int.toNat (marks.getD s4 0)) default).hi : Int)]) (rdo 0) (H.os 0) aX _ (H.gt 4)) ?_
   rintro vq bt ⟨r2, aY, hvq, aO⟩
   subst aY
   subst vq
   try dsimp only at hM
   replace H := H.bk aO
   clear aO
   refine s_val (x_fa (a := Pq ag) (v := Oq ag 1) rfl (fa_blk (o := 0) Fd54_1 Sz3)) ?_
   refine t_sw 2 1 [I r2] (I r2) H rfl rfl Sz3 rfl rfl rfl rfl ?_
   intro bu H
   refine s_nil ?_
   refine W.seq ?_
   refine W.draw (fun W => St w W [cOwn (α := Int) 3 aN ([((aa.getD (Int.toNat (marks.getD s4 0)) default).hi : Int)]), cBlk ae [I ((aa.getD (Int.toNat (marks.getD s4 0)) default).place), I ((aa.getD (Int.toNat (marks.getD s4 0)) default).lo), I ((aa.getD (Int.toNat (marks.getD s4 0)) default).hi)] 70, cBlk ag [I s2, I r2] 54, cBlk aq [I 0, I 0] 54] R) [(0, true), (1, true), (2, true), (3, true), (4, true), (5, true), (6, true), (7, true), (8, true), (9, true), (10, true), (11, true)] mixed (by decide +kernel) rfl ?_
   intro bv am
   replace H := H.ext am
   clear am
   refine ⟨(H.pk [0, 1, 2, 3]), ?_⟩
   refine d_q rfl (fun w' H => x_fa (a := Pq ae) (v := Pq ae) rfl (fa_blk (o := 0) Fd70_0 Sz3)) ?_
   refine d_q rfl (fun w' H => x_ld (p := Pq ae) (v := I ((aa.getD (Int.toNat (marks.getD s4 0)) default).place)) rfl (ldb_sc Sc3 (H.bl 1) rfl)) ?_
   refine d_q rfl (fun w' H => x_mv (v := Pq ac) rfl) ?_
   refine d_q rfl (fun w' H => x_nc (a := ⟨ac, 0, none⟩) rfl) ?_
   refine d_q rfl (fun w' H => x_fa (a := Pq ac) (v := Pq ac) rfl (fa_blk (o := 0) Fd177_0 Sz27)) ?_
   refine d_q rfl (fun w' H => x_fa (a := Pq ac) (v := Pq ac) rfl (fa_blk (o := 0) Fd27_0 Sz23)) ?_
   refine d_q rfl (fun w' H => x_ld (p := Pq ac) (v := ai) rfl (ldb_sc Sc23 (az.blk H) rfl)) ?_
   refine d_q rfl (fun w' H => x_mv (v := I ab) rfl) ?_
   refine d_q rfl (fun w' H => x_ix (a := ai) (b := I ab) (v := vat ai 2 (Int.toNat ab)) rfl rfl (Sl.ix (α := Sect) T23.und T23.size ak (by omega) (by omega))) ?_
   refine d_q rfl (fun w' H => x_fa (a := vat ai 2 (Int.toNat ab)) (v := fat (vat ai 2 (Int.toNat ab)) 0) rfl (fa_pl Fd68_0 Sz3 (Sl.pl (i := ab) ak (by omega) (by omega)))) ?_
   refine d_q rfl (fun w' H => x_ld (p := fat (vat ai 2 (Int.toNat ab)) 0) (v := I ((aj.getD (Int.toNat ab) default).place)) rfl (ld_sc Sc3 (At.mono (Sect_at0 ak (i := ab) (by omega) (by omega)) (aD.at H)))) ?_
   refine d_q rfl (fun w' H => x_cmp (kd := .i64) (a := (aa.getD (Int.toNat (marks.getD s4 0)) default).place) (b := (aj.getD (Int.toNat ab) default).place) (r := decide (((aj.getD (Int.toNat ab) default).place) <= ((aa.getD (Int.toNat (marks.getD s4 0)) default).place))) rfl rfl rfl) ?_
   refine d_nil ?_
   refine W.cond (decide (((aj.getD (Int.toNat ab) default).place) <= ((aa.getD (Int.toNat (marks.getD s4 0)) default).place))) rfl (fun ax => ?_) (fun ax => ?_)
   ·replace hM := M.e_t hM ax
    simp only [qy1, qy2, qy3, qy4, qy5, qy6, ne_eq, qy7] at ax
    refine W.region rfl ?_
    refine s_val (x_fa (a := Pq ag) (v := Pq ag) rfl (fa_blk (o := 0) Fd54_0 Sz3)) ?_
    refine s_val (x_ld (p := Pq ag) (v := I s2) rfl (ldb_sc Sc3 (H.bl 2) rfl)) ?_
    refine s_val (x_fa (a := Pq ae) (v := Oq ae 1) rfl (fa_blk (o := 0) Fd70_1 Sz54)) ?_
    refine s_val (x_fa (a := Oq ae 1) (v := Oq ae 1) rfl (fa_blk (o := 1) Fd54_0 Sz3)) ?_
    refine s_val (x_ld (p := Oq ae 1) (v := I ((aa.getD (Int.toNat (marks.getD s4 0)) default).lo)) rfl (ldb_sc Sc3 (H.bl 1) rfl)) ?_
    refine s_val (x_max (kd := .i64) (a := s2) (b := (aa.getD (Int.toNat (marks.getD s4 0)) default).lo) rfl rfl) ?_
    refine s_val (x_fa (a := Pq ag) (v := Pq ag) rfl (fa_blk (o := 0) Fd54_0 Sz3)) ?_
    refine t_sw 2 0 [I (max s2 ((aa.getD (Int.toNat (marks.getD s4 0)) default).lo))] (I (max s2 ((aa.getD (Int.toNat (marks.getD s4 0)) default).lo))) H rfl rfl Sz3 rfl rfl rfl rfl ?_
    intro bw H
    refine s_nil ?_
    replace H := H.pk [2, 3]
    refine W.region rfl ?_
    refine zR (s4 : Int) 1 ((s4 : Int) + 1) rfl rfl rfl (by omega) ?_
    refine zM (I ((s4 : Int) + 1)) rfl ?_
    refine s_nil ?_
    exact ⟨aB, aC, max s2 ((aa.getD (Int.toNat (marks.getD s4 0)) default).lo), r2, s4 + 1, _, upds_of _ _ ⟨rfl, rfl, rfl, rfl, rfl, rfl, rfl, trivial⟩, M.e_inl hM au, H⟩
   replace hM := M.e_f hM ax
   simp only [qy1, qy2, qy3, qy4, qy5, qy6, ne_eq, qy7] at ax
   refine W.skip ?_
   replace H := H.pk [2, 3]
   refine W.region rfl ?_
   refine zR (s4 : Int) 1 ((s4 : Int) + 1) rfl rfl rfl (by omega) ?_
   refine zM (I ((s4 : Int) + 1)) rfl ?_
   refine s_nil ?_
   exact ⟨aB, aC, s2, r2, s4 + 1, _, upds_of _ _ ⟨rfl, rfl, rfl, rfl, rfl, rfl, rfl, trivial⟩, M.e_inl hM au, H⟩
  replace hM := M.e_f hM aw
  simp only [qy1, qy2, qy3, qy4, qy5, qy6, ne_eq, qy7] at aw
  refine W.skip ?_
  refine W.seq ?_
  refine W.draw (fun W => St w W [cBlk ae [I ((aa.getD (Int.toNat (marks.getD s4 0)) default).place), I ((aa.getD (Int.toNat (marks.getD s4 0)) default).lo), I ((aa.getD (Int.toNat (marks.getD s4 0)) default).hi)] 70, cBlk ag [I s2, I s3] 54, cBlk aq [I 0, I 0] 54] R) [(0, true), (1, true), (2, true), (3, true), (4, true), (5, true), (6, true), (7, true), (8, true), (9, true), (10, true), (11, true)] mixed (by decide +kernel) rfl ?_
  intro bx am
  replace H := H.ext am
  clear am
  refine ⟨(H.pk [0, 1, 2]), ?_⟩
  refine d_q rfl (fun w' H => x_fa (a := Pq ae) (v := Pq ae) rfl (fa_blk (o := 0) Fd70_0 Sz3)) ?_
  refine d_q rfl (fun w' H => x_ld (p := Pq ae) (v := I ((aa.getD (Int.toNat (marks.getD s4 0)) default).place)) rfl (ldb_sc Sc3 (H.bl 0) rfl)) ?_
  refine d_q rfl (fun w' H => x_mv (v := Pq ac) rfl) ?_
  refine d_q rfl (fun w' H => x_nc (a := ⟨ac, 0, none⟩) rfl) ?_
  refine d_q rfl (fun w' H => x_fa (a := Pq ac) (v := Pq ac) rfl (fa_blk (o := 0) Fd177_0 Sz27)) ?_
  refine d_q rfl (fun w' H => x_fa (a := Pq ac) (v := Pq ac) rfl (fa_blk (o := 0) Fd27_0 Sz23)) ?_
  refine d_q rfl (fun w' H => x_ld (p := Pq ac) (v := ai) rfl (ldb_sc Sc23 (az.blk H) rfl)) ?_
  refine d_q rfl (fun w' H => x_mv (v := I ab) rfl) ?_
  refine d_q rfl (fun w' H => x_ix (a := ai) (b := I ab) (v := vat ai 2 (Int.toNat ab)) rfl rfl (Sl.ix (α := Sect) T23.und T23.size ak (by omega) (by omega))) ?_
  refine d_q rfl (fun w' H => x_fa (a := vat ai 2 (Int.toNat ab)) (v := fat (vat ai 2 (Int.toNat ab)) 0) rfl (fa_pl Fd68_0 Sz3 (Sl.pl (i := ab) ak (by omega) (by omega)))) ?_
  refine d_q rfl (fun w' H => x_ld (p := fat (vat ai 2 (Int.toNat ab)) 0) (v := I ((aj.getD (Int.toNat ab) default).place)) rfl (ld_sc Sc3 (At.mono (Sect_at0 ak (i := ab) (by omega) (by omega)) (aD.at H)))) ?_
  refine d_q rfl (fun w' H => x_cmp (kd := .i64) (a := (aa.getD (Int.toNat (marks.getD s4 0)) default).place) (b := (aj.getD (Int.toNat ab) default).place) (r := decide (((aj.getD (Int.toNat ab) default).place) <= ((aa.getD (Int.toNat (marks.getD s4 0)) default).place))) rfl rfl rfl) ?_
  refine d_nil ?_
  refine W.cond (decide (((aj.getD (Int.toNat ab) default).place) <= ((aa.getD (Int.toNat (marks.getD s4 0)) default).place))) rfl (fun ay => ?_) (fun ay => ?_)
  ·replace hM := M.e_t hM ay
   simp only [qy1, qy2, qy3, qy4, qy5, qy6, ne_eq, qy7] at ay
   refine W.region rfl ?_
   refine s_val (x_fa (a := Pq ag) (v := Pq ag) rfl (fa_blk (o := 0) Fd54_0 Sz3)) ?_
   refine s_val (x_ld (p := Pq ag) (v := I s2) rfl (ldb_sc Sc3 (H.bl 1) rfl)) ?_
   refine s_val (x_fa (a := Pq ae) (v := Oq ae 1) rfl (fa_blk (o := 0) Fd70_1 Sz54)) ?_
   refine s_val (x_fa (a := Oq ae 1) (v := Oq ae 1) rfl (fa_blk (o := 1) Fd54_0 Sz3)) ?_
   refine s_val (x_ld (p := Oq ae 1) (v := I ((aa.getD (Int.toNat (marks.getD s4 0)) default).lo)) rfl (ldb_sc Sc3 (H.bl 0) rfl)) ?_
   refine s_val (x_max (kd := .i64) (a := s2) (b := (aa.getD (Int.toNat (marks.getD s4 0)) default).lo) rfl rfl) ?_
   refine s_val (x_fa (a := Pq ag) (v := Pq ag) rfl (fa_blk (o := 0) Fd54_0 Sz3)) ?_
   refine t_sw 1 0 [I (max s2 ((aa.getD (Int.toNat (marks.getD s4 0)) default).lo))] (I (max s2 ((aa.getD (Int.toNat (marks.getD s4 0)) default).lo))) H rfl rfl Sz3 rfl rfl rfl rfl ?_
   intro bz H
   refine s_nil ?_
   refine W.region rfl ?_
   refine zR (s4 : Int) 1 ((s4 : Int) + 1) rfl rfl rfl (by omega) ?_
   refine zM (I ((s4 : Int) + 1)) rfl ?_
   refine s_nil ?_
   exact ⟨aB, aC, max s2 ((aa.getD (Int.toNat (marks.getD s4 0)) default).lo), s3, s4 + 1, _, upds_of _ _ ⟨rfl, rfl, rfl, rfl, rfl, rfl, rfl, trivial⟩, M.e_inl hM au, (H.pk [1, 2])⟩
  replace hM := M.e_f hM ay
  simp only [qy1, qy2, qy3, qy4, qy5, qy6, ne_eq, qy7] at ay
  refine W.skip ?_
  refine W.region rfl ?_
  refine zR (s4 : Int) 1 ((s4 : Int) + 1) rfl rfl rfl (by omega) ?_
  refine zM (I ((s4 : Int) + 1)) rfl ?_
  refine s_nil ?_
  exact ⟨aB, aC, s2, s3, s4 + 1, _, upds_of _ _ ⟨rfl, rfl, rfl, rfl, rfl, rfl, rfl, trivial⟩, M.e_inl hM au, (H.pk [1, 2])⟩
 replace hM := M.e_f hM av
 simp only [qy1, qy2, qy3, qy4, qy5, qy6, ne_eq, qy7] at av
 refine W.exit ?_
 have aZ := M.e_inr hM au
 subst aZ
 replace hM := aT
 try dsimp only at hM
 refine W.seq ?_
 refine W.region rfl ?_
 refine s_val (x_ld (p := Pq ag) (v := .agg #[I s2, I s3]) rfl (ldb_ag (ds := [I s2, I s3]) Ag54 Sz54 (H.bl 0) rfl rfl)) ?_
 refine t_sw 1 0 [I s2, I s3] (.agg #[I s2, I s3]) H rfl rfl Sz54 rfl rfl rfl rfl ?_
 intro bA H
 refine s_nil ?_
 refine W.ret ?_
 have a6 := (H.bl 1)
 have a7 := M.e_pure hM
 exact ⟨_, (resE_of1 (v := .agg #[I s2, I s3]) rfl (.cell (v := .agg #[I s2, I s3]) rfl (run_loadVar_ag (ds := [I s2, I s3]) Ag54 Sz54 a6 rfl rfl) <| .nil)), ⟨s2, s3, a7, rfl, (H.pk [])⟩⟩

def zbZ (a : Int) (b : Int) : M Bool :=
  M.pure (decide (a < b))
theorem zcp {R : List Chunk}  (a : Int) (b : Int)  {r : Bool} (hM : (zbZ a b).Ends r) (w : World) (H : St w w [] R) : Ret Tryz.prog 106 #[I a, I b] w fun v w' => ∃ (y0 : Bool), y0 = r /\ v = B y0 /\ St w w' [] R := by
 refine ret_of_W Tryz.func106 rfl rfl rfl ?_
 refine W.seq ?_
 refine W.region rfl ?_
 refine zA (B false) rfl ?_
 refine s_nil ?_
 refine W.seq ?_
 refine W.region rfl ?_
 refine zM (I a) rfl ?_
 refine zM (I b) rfl ?_
 refine zC a b (decide (a < b)) rfl rfl rfl ?_
 refine zA (B (decide (a < b))) rfl ?_
 refine s_nil ?_
 refine W.ret ?_
 have aa := M.e_pure hM
 exact ⟨_, resE_tmp rfl, ⟨(decide (a < b)), aa, rfl, H⟩⟩

def zbW (s : Span) : M (Int × Int) :=
  M.pure (s.lo, s.hi)
theorem zcy {R : List Chunk}  (s : Span)  {r : (Int × Int)} (hM : (zbW s).Ends r) (w : World) (H : St w w [] R) : Ret Tryz.prog 95 #[.agg #[I s.lo, I s.hi]] w fun v w' => ∃ (y0 : Int) (y1 : Int) (ab : Nat), (y0, y1) = r /\ v = .func (.func 119) #[] #[Pq ab] /\ St w w' [cBlk ab [I y0, I y1] 54] R := by
 refine ret_of_W Tryz.func95 rfl rfl rfl ?_
 refine W.seq ?_
 refine W.region rfl ?_
 refine t_box (v := .agg #[I s.lo, I s.hi]) (cs := [I s.lo, I s.hi]) H rfl rfl ?_
 intro aa ae H
 refine zA .nilFunc rfl ?_
 refine s_nil ?_
 refine W.seq ?_
 refine W.region rfl ?_
 refine s_val (x_mf (fs := []) (cs := [Pq aa]) rfl rfl) ?_
 refine zA (.func (.func 119) #[] #[Pq aa]) rfl ?_
 refine s_nil ?_
 refine W.ret ?_
 have ac := M.e_pure hM
 exact ⟨_, resE_tmp rfl, ⟨s.lo, s.hi, aa, ac, rfl, H⟩⟩

def zbr {T_ : Type} (aa : T_ -> Int -> M (Bool × T_)) (ab : Int) : (Int × T_) -> M ((Int × T_) ⊕ (T_ ⊕ T_)) := fun (n, t2) =>
  bif decide (n <= ab) then (
  M.bind (aa t2 n) fun (go, t) =>
  bif !go then (
  M.pure (.inr (.inl t)))
  else (
  M.grd (decide ((-9223372036854775808 : Int) <= (n + 1)) && decide ((n + 1) <= (9223372036854775807 : Int))) <|
  M.pure (.inl (n + 1, t))))
  else (
  M.pure (.inr (.inr t2)))
def zay {T_ : Type} (aa : T_ -> Int -> M (Bool × T_)) (t_ : T_) (ab : Int) (ac : Int) : M T_ :=
  M.bind (M.iter (zbr aa ac) (ab, t_)) fun x_ => match x_ with
  | (.inl t3) => (
  M.pure t3)
  | (.inr t4) => (
  M.pure t4)
theorem zcn {R : List Chunk} {T_ : Type} {Y_ : T_ -> List Chunk -> Prop} {ag : Value} {ai : List Chunk} {aa : Nat} (aj : T_ -> Int -> M (Bool × T_)) (t_ : T_) (ac : Int) (ab : Int) (ay : YieldC Tryz.prog R arI Y_ ag aj) (az : Y_ t_ ai) (aq : Has R (cBlk aa [I ac, I ab] 54)) {r : T_} (hM : (zay aj t_ ac ab).Ends r) (w : World) (H : St w w [cAll ai] R) : Ret Tryz.prog 119 #[ag, Pq aa] w fun v w' => ∃ (y0 : T_) (Ls0 : List Chunk), y0 = r /\ v = .tuple #[] /\ St w w' [cAll Ls0] R /\ Y_ y0 Ls0 := by
 refine ret_of_W Tryz.func119 rfl rfl rfl ?_
 refine W.seq ?_
 refine W.region rfl ?_
 refine s_val (x_fa (a := Pq aa) (v := Pq aa) rfl (fa_blk (o := 0) Fd54_0 Sz3)) ?_
 refine s_val (x_ld (p := Pq aa) (v := I ac) rfl (ldb_sc Sc3 (aq.blk H) rfl)) ?_
 refine zA (I ac) rfl ?_
 refine s_nil ?_
 refine W.block ?_
 obtain ⟨aA, ak, au⟩ := M.e_bind hM
 obtain ⟨aH, ak⟩ := M.e_iter ak
 refine W.loop (fun m σ W => ∃ (n : Int) (t2 : T_) (Ls_t2 : List Chunk) (ρ : Env), σ = upds ρ [(0, ag), (1, Pq aa), (3, I n)] /\ M.iterN (zbr aj ab) m (n, t2) = some aA /\ St w W [cAll Ls_t2] R /\ Y_ t2 Ls_t2) ?_ ?_
 ·exact ⟨_, ac, t_, ai, _, upds_of _ _ ⟨rfl, rfl, rfl, trivial⟩, ak, H, az⟩
 rintro aI σ aJ ⟨n, t2, Ls_t2, ρ, rfl, av, H, hY_t2⟩
 obtain ⟨aB, aC, aK, hM, am⟩ := M.e_iterN av
 simp only [zbr] at hM
 clear av
 refine W.seq ?_
 refine W.seq ?_
 refine W.region rfl ?_
 refine zM (I n) rfl ?_
 refine s_val (x_fa (a := Pq aa) (v := Oq aa 1) rfl (fa_blk (o := 0) Fd54_1 Sz3)) ?_
 refine s_val (x_ld (p := Oq aa 1) (v := I ab) rfl (ldb_sc Sc3 (aq.blk H) rfl)) ?_
 refine zC n ab (decide (n <= ab)) rfl rfl rfl ?_
 refine s_nil ?_
 refine W.cond (decide (n <= ab)) rfl (fun ae => ?_) (fun ae => ?_)
 ·replace hM := M.e_t hM ae
  simp only [qy1, qy2, qy3, qy4, qy5, qy6, ne_eq, qy7] at ae
  refine W.skip ?_
  refine W.seq ?_
  refine W.block ?_
  refine W.seq ?_
  refine W.region rfl ?_
  refine zM ag rfl ?_
  refine zM (I n) rfl ?_
  obtain ⟨⟨go, t⟩, aD, hM⟩ := M.e_bind hM
  try dsimp only at hM
  refine t_yield (L := []) H ay hY_t2 rfl [I n] rfl n Reads.none rfl aD ?_
  intro aw aL ax H
  replace H := H.nf
  refine s_val (x_not (b := go) rfl) ?_
  refine s_nil ?_
  refine W.cond (!go) rfl (fun ao => ?_) (fun ao => ?_)
  ·replace hM := M.e_t hM ao
   refine W.ret ?_
   have aE := M.e_inr hM am
   subst aE
   replace hM := au
   try dsimp only at hM
   have ap := M.e_pure hM
   exact ⟨_, resE_tmp0 rfl, ⟨t, aw, ap, rfl, H, ax⟩⟩
  replace hM := M.e_f hM ao
  refine W.skip ?_
  refine W.region rfl ?_
  refine zM (I n) rfl ?_
  obtain ⟨aF, hM⟩ := M.e_grd hM
  simp only [Bool.and_eq_true, decide_eq_true_eq] at aF
  refine zR n 1 (n + 1) rfl rfl rfl (by omega) ?_
  refine zA (I (n + 1)) rfl ?_
  refine s_nil ?_
  exact ⟨aB, aC, n + 1, t, aw, _, upds_of _ _ ⟨rfl, rfl, rfl, trivial⟩, M.e_inl hM am, H, ax⟩
 replace hM := M.e_f hM ae
 simp only [qy1, qy2, qy3, qy4, qy5, qy6, ne_eq, qy7] at ae
 refine W.exit ?_
 have aG := M.e_inr hM am
 subst aG
 replace hM := au
 try dsimp only at hM
 have ap := M.e_pure hM
 exact ⟨_, resE_tmp0 rfl, ⟨t2, Ls_t2, ap, rfl, H, hY_t2⟩⟩
theorem zdg {T_ : Type} {n_ : Nat} {y y' : T_ -> Int -> M (Bool × T_)} (h : ∀ s a, M.LeN n_ (y s a) (y' s a)) (t_ : T_) (aa : Int) (ab : Int) : M.LeN n_ (zay y t_ aa ab) (zay y' t_ aa ab) := by
  simp only [zay, zbr]
  repeat' (first | exact M.le_same _ _ | exact h _ _ | refine M.le_grd ?_ | refine M.le_if ?_ ?_ | refine M.le_bind ?_ (fun x => ?_) | refine M.le_opt ?_ | refine M.le_iter (fun x => ?_) _ | (rename_i x; cases x) | (rename_i x; obtain ⟨_, _⟩ := x))

end Go.Proofs.YtlemgioaakecpaaGreat
end
