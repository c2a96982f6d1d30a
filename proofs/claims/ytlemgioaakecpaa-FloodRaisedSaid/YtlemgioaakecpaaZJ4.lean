/- Part 4 of the texts on which the proof rests. Conditions: none. -/
import Derived.Recover
import Derived.Tactics
import Derived.Tactics2
import Derived.Laws.Pointers
import Derived.Test.YtlemgioaakecpaaZJ3
set_option linter.unusedVariables false
set_option linter.unusedSimpArgs false
set_option linter.unusedSectionVars false
namespace Go.Nm
namespace Fl
section
variable {M : List Mrk} {p : Int}
theorem lo_fold : ∀ (ms : List Int) (a : Int), a <= ms.foldl (fun a k => if p <= (M.getD (Int.toNat k) default).place then max a (M.getD (Int.toNat k) default).lo else a) a ∧
    (∀ k ∈ ms, p <= (M.getD (Int.toNat k) default).place -> (M.getD (Int.toNat k) default).lo <= ms.foldl (fun a k => if p <= (M.getD (Int.toNat k) default).place then max a (M.getD (Int.toNat k) default).lo else a) a) ∧
    (ms.foldl (fun a k => if p <= (M.getD (Int.toNat k) default).place then max a (M.getD (Int.toNat k) default).lo else a) a = a ∨ ∃ k ∈ ms, p <= (M.getD (Int.toNat k) default).place /\ ms.foldl (fun a k => if p <= (M.getD (Int.toNat k) default).place then max a (M.getD (Int.toNat k) default).lo else a) a = (M.getD (Int.toNat k) default).lo)
  | [], a => ⟨Int.le_refl _, fun k hk => (List.not_mem_nil hk).elim, .inl rfl⟩
  | k :: ms, a => by
    rw [List.foldl_cons]
    obtain ⟨h1, h2, h3⟩ := lo_fold ms (if p <= (M.getD (Int.toNat k) default).place then max a (M.getD (Int.toNat k) default).lo else a)
    by_cases hp : p <= (M.getD (Int.toNat k) default).place
    · rw [if_pos hp] at h1 h2 h3 ⊢
      refine ⟨by omega, fun j hj hpj => ?_, ?_⟩
      · rcases List.mem_cons.1 hj with rfl | hj
        · omega
        · exact h2 j hj hpj
      · rcases h3 with h3 | ⟨j, hj, hpj, e⟩
        · rcases Int.le_total (M.getD (Int.toNat k) default).lo a with e | e
          · left; omega
          · right; exact ⟨k, by simp, hp, by omega⟩
        · right; exact ⟨j, by simp [hj], hpj, e⟩
    · rw [if_neg hp] at h1 h2 h3 ⊢
      refine ⟨h1, fun j hj hpj => ?_, ?_⟩
      · rcases List.mem_cons.1 hj with rfl | hj
        · exact absurd hpj hp
        · exact h2 j hj hpj
      · rcases h3 with h3 | ⟨j, hj, hpj, e⟩
        · exact .inl h3
        · right; exact ⟨j, by simp [hj], hpj, e⟩
theorem hi_fold : ∀ (ms : List Int) (a : Int), ms.foldl (fun a k => if (M.getD (Int.toNat k) default).place <= p then min a (M.getD (Int.toNat k) default).hi else a) a <= a ∧
    (∀ k ∈ ms, (M.getD (Int.toNat k) default).place <= p -> ms.foldl (fun a k => if (M.getD (Int.toNat k) default).place <= p then min a (M.getD (Int.toNat k) default).hi else a) a <= (M.getD (Int.toNat k) default).hi) ∧
    (ms.foldl (fun a k => if (M.getD (Int.toNat k) default).place <= p then min a (M.getD (Int.toNat k) default).hi else a) a = a ∨ ∃ k ∈ ms, (M.getD (Int.toNat k) default).place <= p /\ ms.foldl (fun a k => if (M.getD (Int.toNat k) default).place <= p then min a (M.getD (Int.toNat k) default).hi else a) a = (M.getD (Int.toNat k) default).hi)
  | [], a => ⟨Int.le_refl _, fun k hk => (List.not_mem_nil hk).elim, .inl rfl⟩
  | k :: ms, a => by
    rw [List.foldl_cons]
    obtain ⟨h1, h2, h3⟩ := hi_fold ms (if (M.getD (Int.toNat k) default).place <= p then min a (M.getD (Int.toNat k) default).hi else a)
    by_cases hp : (M.getD (Int.toNat k) default).place <= p
    · rw [if_pos hp] at h1 h2 h3 ⊢
      refine ⟨by omega, fun j hj hpj => ?_, ?_⟩
      · rcases List.mem_cons.1 hj with rfl | hj
        · omega
        · exact h2 j hj hpj
      · rcases h3 with h3 | ⟨j, hj, hpj, e⟩
        · rcases Int.le_total a (M.getD (Int.toNat k) default).hi with e | e
          · left; omega
          · right; exact ⟨k, by simp, hp, by omega⟩
        · right; exact ⟨j, by simp [hj], hpj, e⟩
    · rw [if_neg hp] at h1 h2 h3 ⊢
      refine ⟨h1, fun j hj hpj => ?_, ?_⟩
      · rcases List.mem_cons.1 hj with rfl | hj
        · exact absurd hpj hp
        · exact h2 j hj hpj
      · rcases h3 with h3 | ⟨j, hj, hpj, e⟩
        · exact .inl h3
        · right; exact ⟨j, by simp [hj], hpj, e⟩
theorem stLo_nn (ms : List Int) : 0 <= stLo M ms p := (lo_fold ms 0).1
theorem stLo_ge {ms : List Int} {k : Int} (h : k ∈ ms) (hp : p <= (M.getD (Int.toNat k) default).place) : (M.getD (Int.toNat k) default).lo <= stLo M ms p := (lo_fold ms 0).2.1 k h hp
theorem stLo_ex (ms : List Int) : stLo M ms p = 0 ∨ ∃ k ∈ ms, p <= (M.getD (Int.toNat k) default).place /\ stLo M ms p = (M.getD (Int.toNat k) default).lo := (lo_fold ms 0).2.2
theorem stHi_le (ms : List Int) : stHi M ms p <= 2000 := (hi_fold ms 2000).1
theorem stHi_ge {ms : List Int} {k : Int} (h : k ∈ ms) (hp : (M.getD (Int.toNat k) default).place <= p) : stHi M ms p <= (M.getD (Int.toNat k) default).hi := (hi_fold ms 2000).2.1 k h hp
theorem stHi_ex (ms : List Int) : stHi M ms p = 2000 ∨ ∃ k ∈ ms, (M.getD (Int.toNat k) default).place <= p /\ stHi M ms p = (M.getD (Int.toNat k) default).hi := (hi_fold ms 2000).2.2
end
/-- Marks that are true together. -/
def Tog (M : List Mrk) (ms : List Int) : Prop := ∀ a ∈ ms, ∀ b ∈ ms, ¬((M.getD (Int.toNat a) default).place <= (M.getD (Int.toNat b) default).place /\ (M.getD (Int.toNat a) default).hi < (M.getD (Int.toNat b) default).lo)
def Ixs (M : List Mrk) (ms : List Int) : Prop := ∀ k ∈ ms, 0 <= k /\ k < M.length
theorem Ixs.mok {M : List Mrk} {ms : List Int} (hk : ∀ x ∈ M, Mok x) (h : Ixs M ms) {k : Int} (hm : k ∈ ms) : Mok (M.getD (Int.toNat k) default) := by
  have := h k hm
  have hl : Int.toNat k < M.length := by omega
  rw [getD_el M hl]
  exact hk _ (List.getElem_mem hl)
/-- What lies further up is bounded by no less from above. -/
theorem st_le {M : List Mrk} {ms : List Int} (hk : ∀ x ∈ M, Mok x) (h : Ixs M ms) (ht : Tog M ms) {p q : Int} (hpq : q <= p) : stLo M ms p <= stHi M ms q := by
  rcases stLo_ex (M := M) (p := p) ms with e | ⟨a, ha, hpa, e⟩ <;> rcases stHi_ex (M := M) (p := q) ms with e' | ⟨b, hb, hpb, e'⟩
  · omega
  · have k1 := (h.mok hk hb).lh
    have k2 := (h.mok hk hb).l0
    omega
  · have := (h.mok hk ha).lh
    have := (h.mok hk ha).h2
    omega
  · have := ht b hb a ha
    rw [e, e']
    rcases Int.lt_or_le (M.getD (Int.toNat b) default).hi (M.getD (Int.toNat a) default).lo with k | k
    · exact absurd ⟨by omega, k⟩ this
    · exact k
section
variable (S : List Sect) (M : List Mrk) (ms : List Int) (r : Rch)
def pu : Int := (S.getD (Int.toNat r.up) default).place
def pd : Int := (S.getD (Int.toNat r.down) default).place
/-- The lower stages that there can be. -/
def Dn (x : Int) : Prop := stLo M ms (pd S r) <= x /\ x <= min (stHi M ms (pd S r)) (stHi M ms (pu S r))
def lc (x : Int) : Cas := ⟨max (stLo M ms (pu S r)) x, x, r.hi, r.hi⟩
def hc (x : Int) : Cas := ⟨stHi M ms (pu S r), x, r.lo, r.lo⟩
def IsLow (c : Cas) (n : Int) : Prop := ∃ x, Dn S M ms r x /\ c = lc S M ms r x /\ n = fl S r c /\ ∀ y, Dn S M ms r y -> n <= fl S r (lc S M ms r y)
def IsHigh (c : Cas) (n : Int) : Prop := ∃ x, Dn S M ms r x /\ c = hc S M ms r x /\ n = fl S r c /\ ∀ y, Dn S M ms r y -> fl S r (hc S M ms r y) <= n
end
section
variable {S : List Sect} {M : List Mrk} {ms : List Int} {r : Rch}
theorem lc_ok (hr : Rok S r) (hk : ∀ x ∈ M, Mok x) (h : Ixs M ms) (ht : Tog M ms) {x : Int} (hx : Dn S M ms r x) : Cok (lc S M ms r x) := by
  have h1 := stLo_nn (M := M) (p := pu S r) ms
  have h2 := stLo_nn (M := M) (p := pd S r) ms
  have h3 := stHi_le (M := M) (p := pu S r) ms
  have h4 := st_le hk h ht (Int.le_refl (pu S r))
  obtain ⟨a, b⟩ := hx
  have := hr.l1
  have := hr.lh
  have := hr.h4
  unfold lc
  constructor <;> dsimp only <;> omega
theorem hc_ok (hr : Rok S r) {x : Int} (hx : Dn S M ms r x) : Cok (hc S M ms r x) := by
  have h2 := stLo_nn (M := M) (p := pd S r) ms
  have h3 := stHi_le (M := M) (p := pu S r) ms
  obtain ⟨a, b⟩ := hx
  have := hr.l1
  have := hr.lh
  have := hr.h4
  unfold hc
  constructor <;> dsimp only <;> omega
theorem pu_pd (hS : Secs S) (hr : Rok S r) : pu S r < pd S r := by
  have := far hS hr
  unfold pu pd
  omega
theorem Dn.ne (hS : Secs S) (hr : Rok S r) (hk : ∀ x ∈ M, Mok x) (h : Ixs M ms) (ht : Tog M ms) : Dn S M ms r (stLo M ms (pd S r)) := by
  have h1 := st_le hk h ht (Int.le_refl (pd S r))
  have h2 := st_le hk h ht (Int.le_of_lt (pu_pd hS hr))
  exact ⟨Int.le_refl _, by omega⟩
end
end Fl
end Go.Nm
namespace Go.Proofs.Ytlemgioaakecpaa
open Go Go.Nm
section
variable {S : List Sect} {M' : List Mrk} {R' : List Rch} {ms : List Int} {r : Rch}
theorem best82_out (hS : Fl.Secs S) (hr : Fl.Rok S r) (hk : ∀ x ∈ M', Fl.Mok x) (h : Fl.Ixs M' ms) (ht : Fl.Tog M' ms) :
    (zaW S M' R' ms r).Out (fun x => Fl.IsLow S M' ms r ⟨x.1, x.2.1, x.2.2.1, x.2.2.2.1⟩ x.2.2.2.2) := by
  have hne := Fl.Dn.ne hS hr hk h ht
  have b1 := Fl.stLo_nn (M := M') (p := Fl.pd S r) ms
  have b2 := Fl.stHi_le (M := M') (p := Fl.pu S r) ms
  have hlo := hr.l1
  have hlh := hr.lh
  unfold zaW
  have h0 := hr.u0
  have h1 := hr.ud
  have h2 := hr.d1
  refine M.o_bindE (stages_ends h (by omega) (by omega)) (M.o_bindE (stages_ends h (by omega) (by omega)) (M.o_bindE (a := false) (by unfold zaJ; exact M.i_pure) (M.o_t rfl (M.o_bindE (least_ends _ _) (M.o_bindE (by unfold za7; exact M.i_pure) ?_)))))
  dsimp only
  refine M.o_bind (nums_out (lo := Fl.stLo M' ms (Fl.pd S r)) (hi := min (Fl.stHi M' ms (Fl.pd S r)) (Fl.stHi M' ms (Fl.pu S r))) (fun x (s : Int × Int × Int × Int × Int) => (x = Fl.stLo M' ms (Fl.pd S r) /\ s = (0, 0, 0, 0, 0)) ∨ ∃ y, Fl.Dn S M' ms r y /\ y < x /\ s = (Fl.fl S r (Fl.lc S M' ms r y), (Fl.lc S M' ms r y).up, (Fl.lc S M' ms r y).down, (Fl.lc S M' ms r y).roughup, (Fl.lc S M' ms r y).roughdown) /\ ∀ z, Fl.stLo M' ms (Fl.pd S r) <= z -> z < x -> Fl.fl S r (Fl.lc S M' ms r y) <= Fl.fl S r (Fl.lc S M' ms r z)) (by have := hne.2; omega) (by omega) (by have := hne.1; omega) (.inl ⟨rfl, rfl⟩) ?_) ?_
  · rintro x ⟨n, a, b, c, d⟩ hx1 hx2 hj
    have hx : Fl.Dn S M' ms r x := ⟨hx1, hx2⟩
    simp only [zau]
    refine M.o_f rfl (M.o_bindE (flow_ends hS hr (Fl.lc_ok hr hk h ht hx)) ?_)
    rcases hj with ⟨rfl, e⟩ | ⟨y, hy, hyx, e, hz⟩
    · obtain ⟨rfl, rfl, rfl, rfl, rfl⟩ : n = 0 /\ a = 0 /\ b = 0 /\ c = 0 /\ d = 0 := by simpa using e
      refine M.o_bindE (M.i_opt (r := false) (fun hc => by simp at hc) (fun _ => rfl)) (M.o_t (by simp) (M.o_pure (.inr ⟨_, hx, by omega, rfl, fun z h1 h2 => ?_⟩)))
      rw [show z = Fl.stLo M' ms (Fl.pd S r) by omega]
      exact Int.le_refl _
    · obtain ⟨e1, e2, e3, e4, e5⟩ : n = Fl.fl S r (Fl.lc S M' ms r y) /\ a = (Fl.lc S M' ms r y).up /\ b = (Fl.lc S M' ms r y).down /\ c = (Fl.lc S M' ms r y).roughup /\ d = (Fl.lc S M' ms r y).roughdown := by simpa only [Prod.mk.injEq] using e
      rw [e1, e2, e3, e4, e5]
      have hd : decide ((⟨(Fl.lc S M' ms r y).up, (Fl.lc S M' ms r y).down, (Fl.lc S M' ms r y).roughup, (Fl.lc S M' ms r y).roughdown⟩ : Cas) = ⟨0, 0, 0, 0⟩) = false := decide_eq_false (fun e => by
        have : (Fl.lc S M' ms r y).roughup = 0 := congrArg Cas.roughup e
        have e2 : (Fl.lc S M' ms r y).roughup = r.hi := rfl
        omega)
      refine M.o_bindE (M.i_opt (r := decide (Fl.fl S r (Fl.lc S M' ms r x) < Fl.fl S r (Fl.lc S M' ms r y))) (fun _ => by unfold zaJ; exact M.i_pure) (fun hc => by rw [hd] at hc; cases hc)) ?_
      refine M.o_if (fun hc => ?_) (fun hc => ?_)
      · rw [hd, Bool.false_or] at hc
        have hc := of_decide_eq_true hc
        refine M.o_pure (.inr ⟨x, hx, by omega, rfl, fun z h1 h2 => ?_⟩)
        by_cases e : z < x
        · have := hz z h1 e
          omega
        · rw [show z = x by omega]
          exact Int.le_refl _
      · rw [hd, Bool.false_or] at hc
        have hc := of_decide_eq_false hc
        refine M.o_pure (.inr ⟨y, hy, by omega, rfl, fun z h1 h2 => ?_⟩)
        by_cases e : z < x
        · exact hz z h1 e
        · rw [show z = x by omega]
          omega
  · intro s hs
    cases s with
    | inr _ => exact hs.elim
    | inl s =>
      rcases hs with ⟨e, _⟩ | ⟨y, hy, _, rfl, hz⟩
      · have := hne.2
        omega
      · exact M.o_pure ⟨y, hy, rfl, rfl, fun z hz' => hz z hz'.1 (by have := hz'.2; omega)⟩
theorem best83_out (hS : Fl.Secs S) (hr : Fl.Rok S r) (hk : ∀ x ∈ M', Fl.Mok x) (h : Fl.Ixs M' ms) (ht : Fl.Tog M' ms) :
    (za6 S M' R' ms r).Out (fun x => Fl.IsHigh S M' ms r ⟨x.1, x.2.1, x.2.2.1, x.2.2.2.1⟩ x.2.2.2.2) := by
  have hne := Fl.Dn.ne hS hr hk h ht
  have b1 := Fl.stLo_nn (M := M') (p := Fl.pd S r) ms
  have b2 := Fl.stHi_le (M := M') (p := Fl.pu S r) ms
  have hlo := hr.l1
  have hlh := hr.lh
  unfold za6
  have h0 := hr.u0
  have h1 := hr.ud
  have h2 := hr.d1
  refine M.o_bindE (stages_ends h (by omega) (by omega)) (M.o_bindE (stages_ends h (by omega) (by omega)) (M.o_bindE (a := true) (by unfold zaR; exact M.i_pure) (M.o_f rfl (M.o_bindE (least_ends _ _) (M.o_bindE (by unfold za7; exact M.i_pure) ?_)))))
  dsimp only
  refine M.o_bind (nums_out (lo := Fl.stLo M' ms (Fl.pd S r)) (hi := min (Fl.stHi M' ms (Fl.pd S r)) (Fl.stHi M' ms (Fl.pu S r))) (fun x (s : Int × Int × Int × Int × Int) => (x = Fl.stLo M' ms (Fl.pd S r) /\ s = (0, 0, 0, 0, 0)) ∨ ∃ y, Fl.Dn S M' ms r y /\ y < x /\ s = (Fl.fl S r (Fl.hc S M' ms r y), (Fl.hc S M' ms r y).up, (Fl.hc S M' ms r y).down, (Fl.hc S M' ms r y).roughup, (Fl.hc S M' ms r y).roughdown) /\ ∀ z, Fl.stLo M' ms (Fl.pd S r) <= z -> z < x -> Fl.fl S r (Fl.hc S M' ms r z) <= Fl.fl S r (Fl.hc S M' ms r y)) (by have := hne.2; omega) (by omega) (by have := hne.1; omega) (.inl ⟨rfl, rfl⟩) ?_) ?_
  · rintro x ⟨n, a, b, c, d⟩ hx1 hx2 hj
    have hx : Fl.Dn S M' ms r x := ⟨hx1, hx2⟩
    simp only [zat]
    refine M.o_t rfl (M.o_bindE (flow_ends hS hr (Fl.hc_ok hr hx)) ?_)
    rcases hj with ⟨rfl, e⟩ | ⟨y, hy, hyx, e, hz⟩
    · obtain ⟨rfl, rfl, rfl, rfl, rfl⟩ : n = 0 /\ a = 0 /\ b = 0 /\ c = 0 /\ d = 0 := by simpa using e
      refine M.o_bindE (M.i_opt (r := false) (fun hc => by simp at hc) (fun _ => rfl)) (M.o_t (by simp) (M.o_pure (.inr ⟨_, hx, by omega, rfl, fun z h1 h2 => ?_⟩)))
      rw [show z = Fl.stLo M' ms (Fl.pd S r) by omega]
      exact Int.le_refl _
    · obtain ⟨e1, e2, e3, e4, e5⟩ : n = Fl.fl S r (Fl.hc S M' ms r y) /\ a = (Fl.hc S M' ms r y).up /\ b = (Fl.hc S M' ms r y).down /\ c = (Fl.hc S M' ms r y).roughup /\ d = (Fl.hc S M' ms r y).roughdown := by simpa only [Prod.mk.injEq] using e
      rw [e1, e2, e3, e4, e5]
      have hd : decide ((⟨(Fl.hc S M' ms r y).up, (Fl.hc S M' ms r y).down, (Fl.hc S M' ms r y).roughup, (Fl.hc S M' ms r y).roughdown⟩ : Cas) = ⟨0, 0, 0, 0⟩) = false := decide_eq_false (fun e => by
        have : (Fl.hc S M' ms r y).roughup = 0 := congrArg Cas.roughup e
        have e2 : (Fl.hc S M' ms r y).roughup = r.lo := rfl
        omega)
      refine M.o_bindE (M.i_opt (r := decide (Fl.fl S r (Fl.hc S M' ms r y) < Fl.fl S r (Fl.hc S M' ms r x))) (fun _ => by unfold zaR; exact M.i_pure) (fun hc => by rw [hd] at hc; cases hc)) ?_
      refine M.o_if (fun hc => ?_) (fun hc => ?_)
      · rw [hd, Bool.false_or] at hc
        have hc := of_decide_eq_true hc
        refine M.o_pure (.inr ⟨x, hx, by omega, rfl, fun z h1 h2 => ?_⟩)
        by_cases e : z < x
        · have := hz z h1 e
          omega
        · rw [show z = x by omega]
          exact Int.le_refl _
      · rw [hd, Bool.false_or] at hc
        have hc := of_decide_eq_false hc
        refine M.o_pure (.inr ⟨y, hy, by omega, rfl, fun z h1 h2 => ?_⟩)
        by_cases e : z < x
        · exact hz z h1 e
        · rw [show z = x by omega]
          omega
  · intro s hs
    cases s with
    | inr _ => exact hs.elim
    | inl s =>
      rcases hs with ⟨e, _⟩ | ⟨y, hy, _, rfl, hz⟩
      · have := hne.2
        omega
      · exact M.o_pure ⟨y, hy, rfl, rfl, fun z hz' => hz z hz'.1 (by have := hz'.2; omega)⟩
theorem peak_out (hS : Fl.Secs S) (hr : Fl.Rok S r) (hk : ∀ x ∈ M', Fl.Mok x) (h : Fl.Ixs M' ms) (ht : Fl.Tog M' ms) :
    (zbx S M' R' ms r).Out (fun x => (∃ c, Fl.IsLow S M' ms r c x.1) /\ ∃ c, Fl.IsHigh S M' ms r c x.2) := by
  unfold zbx
  refine M.o_bindE (by unfold zb2; exact M.i_pure) (M.o_bind (best82_out hS hr hk h ht) ?_)
  rintro ⟨a, b, c, d, n⟩ h1
  refine M.o_bindE (by unfold zb0; exact M.i_pure) (M.o_bind (best83_out hS hr hk h ht) ?_)
  rintro ⟨a', b', c', d', n'⟩ h2
  exact M.o_pure ⟨⟨_, h1⟩, ⟨_, h2⟩⟩
end
end Go.Proofs.Ytlemgioaakecpaa
namespace Go.Nm
namespace Fl
theorem Rows.cle {l : List FRow} (h : Rows l) {i j : Nat} (hij : i <= j) (hj : j < l.length) : (l.getD i default).carry <= (l.getD j default).carry := by
  induction j with
  | zero => rw [show i = 0 by omega]; exact Int.le_refl _
  | succ j ih =>
    rcases Nat.lt_or_eq_of_le hij with e | rfl
    · have := ih (by omega) (by omega)
      have := h.cm j hj
      omega
    · exact Int.le_refl _
/-- Marks, one behind the other. -/
def Inc (M : List Mrk) (ms : List Int) : Prop := ms.Pairwise (· < ·) /\ Ixs M ms
end Fl
end Go.Nm
namespace Go.Proofs.Ytlemgioaakecpaa
open Go Go.Nm
theorem in_true {n a b : Int} (h1 : a <= n) (h2 : n <= b) : (zab n a b).Ends true := by
  have : (zab n a b).Ends (decide (a <= n) && decide (n <= b)) := M.i_pure
  rwa [gA2 h1 h2] at this
theorem every_sect (l : List Sect) (so : Sect -> M Bool) (h : ∀ t ∈ l, (so t).Ends true) : (zbL l so).Ends true := by
  unfold zbL zcb zb9
  refine M.i_bind (a := false) (M.i_bind (a := -1) (M.i_bind (a := (.inr () : Int ⊕ Unit)) ?_ M.i_pure) M.i_pure) M.i_pure
  refine M.i_for (fun i => i) l.length (fun i hi => ?_) ?_
  · simp only [zaQ]
    have hm : l.getD i default ∈ l := by rw [getD_el l hi]; exact List.getElem_mem hi
    refine M.i_t (decide_eq_true (by omega)) (M.i_grd (decide_eq_true (by omega)) (M.i_bind (a := false) ?_ (M.i_f rfl M.i_pure)))
    unfold zbF
    exact M.i_bind (h _ hm) M.i_pure
  · simp only [zaQ]
    exact M.i_f (decide_eq_false (by omega)) M.i_pure
theorem every_mark (l : List Mrk) (so : Mrk -> M Bool) (h : ∀ t ∈ l, (so t).Ends true) : (zbJ l so).Ends true := by
  unfold zbJ zb4 zcc
  refine M.i_bind (a := false) (M.i_bind (a := -1) (M.i_bind (a := (.inr () : Int ⊕ Unit)) ?_ M.i_pure) M.i_pure) M.i_pure
  refine M.i_for (fun i => i) l.length (fun i hi => ?_) ?_
  · simp only [zbi]
    have hm : l.getD i default ∈ l := by rw [getD_el l hi]; exact List.getElem_mem hi
    refine M.i_t (decide_eq_true (by omega)) (M.i_grd (decide_eq_true (by omega)) (M.i_bind (a := false) ?_ (M.i_f rfl M.i_pure)))
    unfold zbB
    exact M.i_bind (h _ hm) M.i_pure
  · simp only [zbi]
    exact M.i_f (decide_eq_false (by omega)) M.i_pure
theorem every_reach (l : List Rch) (so : Rch -> M Bool) (h : ∀ t ∈ l, (so t).Ends true) : (zbP l so).Ends true := by
  unfold zbP zbU zb6
  refine M.i_bind (a := false) (M.i_bind (a := -1) (M.i_bind (a := (.inr () : Int ⊕ Unit)) ?_ M.i_pure) M.i_pure) M.i_pure
  refine M.i_for (fun i => i) l.length (fun i hi => ?_) ?_
  · simp only [zaO]
    have hm : l.getD i default ∈ l := by rw [getD_el l hi]; exact List.getElem_mem hi
    refine M.i_t (decide_eq_true (by omega)) (M.i_grd (decide_eq_true (by omega)) (M.i_bind (a := false) ?_ (M.i_f rfl M.i_pure)))
    unfold zbk
    exact M.i_bind (h _ hm) M.i_pure
  · simp only [zaO]
    exact M.i_f (decide_eq_false (by omega)) M.i_pure
theorem every_int (l : List Int) (so : Int -> M Bool) (h : ∀ t ∈ l, (so t).Ends true) : (zas l so).Ends true := by
  unfold zas zbW zbS
  refine M.i_bind (a := false) (M.i_bind (a := -1) (M.i_bind (a := (.inr () : Int ⊕ Unit)) ?_ M.i_pure) M.i_pure) M.i_pure
  refine M.i_for (fun i => i) l.length (fun i hi => ?_) ?_
  · simp only [zbb]
    have hm : l.getD i 0 ∈ l := by rw [getD_el l hi]; exact List.getElem_mem hi
    refine M.i_t (decide_eq_true (by omega)) (M.i_grd (decide_eq_true (by omega)) (M.i_bind (a := false) ?_ (M.i_f rfl M.i_pure)))
    unfold zby
    exact M.i_bind (h _ hm) M.i_pure
  · simp only [zbb]
    exact M.i_f (decide_eq_false (by omega)) M.i_pure
theorem sright_ends {x : Sect} (hr : Fl.Rows x.rows) (h0 : 0 <= x.place) (h1 : x.place <= 10000) : (zbo x).Ends true := by
  refine M.Out.ends ?_
  unfold zbo
  refine M.o_bind (P := fun z => match z with | .inl _ => False | .inr (_ : Int × Int) => True) ?_ ?_
  · refine M.o_for x.rows.length (fun i (s : Int × Int × Nat) => s.2.2 = i /\ -1 <= s.1 /\ s.1 <= 2000 /\ (∀ j, i <= j -> j < x.rows.length -> s.1 < (x.rows.getD j default).stage) /\ ∀ j, i <= j -> j < x.rows.length -> s.2.1 <= (x.rows.getD j default).carry) ?_ ?_ (s := (-1, 0, 0)) ⟨rfl, by decide, by decide, fun j _ hj => by have := hr.el j hj; dsimp only; omega, fun j _ hj => by have := hr.el j hj; dsimp only; omega⟩
    · rintro i ⟨a, b, _⟩ hi ⟨rfl, h2, h3, h4, h5⟩
      dsimp only at hi h2 h3 h4 h5 ⊢
      have e := hr.el _ hi
      have k1 := h4 _ (Nat.le_refl _) hi
      have k2 := h5 _ (Nat.le_refl _) hi
      simp only [zbd]
      refine M.o_t (decide_eq_true (by omega)) (M.o_grd (decide_eq_true (by omega)) (M.o_grd (gA2 (by omega) (by omega)) (M.o_bindE (in_true (by omega) (by omega)) (M.o_bindE (M.i_opt (fun _ => in_true (by omega) (by omega)) (fun h => by cases h)) (M.o_f rfl (M.o_pure ⟨rfl, by dsimp only; omega, by dsimp only; omega, fun j hj hj' => hr.lt hj hj', fun j hj hj' => hr.cle (by omega) hj'⟩))))))
    · rintro ⟨a, b, _⟩ ⟨rfl, _⟩
      simp only [zbd]
      exact M.o_f (decide_eq_false (by omega)) (M.o_pure trivial)
  · intro z hz
    cases z with
    | inl _ => exact hz.elim
    | inr _ => exact M.o_bindE (in_true h0 h1) (M.o_pure rfl)
theorem mright_ends {m : Mrk} (h : Fl.Mok m) : (zaL m).Ends true := by
  obtain ⟨h1, h2, h3, h4, h5⟩ := h
  unfold zaL zbh
  exact M.i_bind (in_true h1 h2) (M.i_bind (M.i_opt (fun _ => M.i_bind (in_true h3 (by dsimp only; omega)) (M.i_bind (M.i_opt (fun _ => in_true h4 h5) (fun h => by cases h)) M.i_pure)) (fun h => by cases h)) M.i_pure)
theorem rright_ends {S : List Sect} {r : Rch} (hn : S.length <= 6) (h : Fl.Rok S r) : (zbt r (S.length : Int)).Ends true := by
  obtain ⟨h1, h2, h3, h4, h5, h6⟩ := h
  unfold zbt zbh
  refine M.i_grd (gA2 (by omega) (by omega)) (M.i_bind (in_true h1 (by omega)) (M.i_grd (gOr2 (by omega) (by omega)) (M.i_bind (M.i_opt (fun _ => in_true (by omega) (by omega)) (fun h => by cases h)) (M.i_bind (M.i_opt (fun _ => M.i_bind (in_true h4 (by dsimp only; omega)) (M.i_bind (M.i_opt (fun _ => in_true h5 h6) (fun h => by cases h)) M.i_pure)) (fun h => by cases h)) M.i_pure))))
section
variable {S : List Sect} {M' : List Mrk} {R' : List Rch} {ms : List Int} {r : Rch}
theorem check_ends (h : Fl.Site S M' R') : (zbs S M' R').Ends 0 := by
  obtain ⟨hS, hm, hr, hmk, hrk⟩ := h
  obtain ⟨hn, hrows, hpl, hup⟩ := hS
  unfold zbs
  refine M.i_bind (in_true (by omega) (by omega)) (M.i_bind (M.i_opt (fun _ => in_true (by omega) (by omega)) (fun h => by cases h)) (M.i_bind (M.i_opt (fun _ => in_true (by omega) (by omega)) (fun h => by cases h)) (M.i_bind (M.i_opt (fun _ => every_sect _ _ fun x hx => ?_) (fun h => by cases h)) (M.i_f rfl ?_))))
  · obtain ⟨i, hi, rfl⟩ := mem_getD hx default
    unfold zbN
    have := hrows i hi
    exact M.i_bind (in_true (by omega) (by omega)) M.i_pure
  · refine M.Out.ends (M.o_bind (P := fun z => match z with | .inl _ => False | .inr (_ : Unit) => True) ?_ ?_)
    · refine M.o_for S.length (fun i (s : Int × Nat) => s.2 = i /\ ∀ j, i <= j -> j < S.length -> s.1 < (S.getD j default).place) ?_ ?_ (s := (-1, 0)) ⟨rfl, fun j _ hj => by have := hpl j hj; dsimp only; omega⟩
      · rintro i ⟨a, _⟩ hi ⟨rfl, h2⟩
        dsimp only at hi h2 ⊢
        have e := hpl _ hi
        have k1 := h2 _ (Nat.le_refl _) hi
        simp only [za0]
        exact M.o_t (decide_eq_true (by omega)) (M.o_grd (decide_eq_true (by omega)) (M.o_bindE (sright_ends (hrows _ hi).1 e.1 e.2) (M.o_f (decide_eq_false (p := (S.getD _ default).place <= a) (by omega)) (M.o_pure ⟨rfl, fun j hj hj' => hup _ _ hj hj'⟩))))
      · rintro ⟨a, _⟩ ⟨rfl, _⟩
        simp only [za0]
        exact M.o_f (decide_eq_false (by omega)) (M.o_pure trivial)
    · intro z hz
      cases z with
      | inl _ => exact hz.elim
      | inr _ =>
        refine M.o_bindE (every_mark _ _ fun x hx => mright_ends (hmk x hx)) (M.o_bindE (M.i_opt (fun _ => every_reach _ _ fun x hx => ?_) (fun h => by cases h)) (M.o_f rfl (M.o_pure rfl)))
        unfold zbu
        exact M.i_bind (rright_ends hn.2 (hrk x hx)) M.i_pure
theorem opened_ends (h : Fl.Site S M' R') : (zan S M' R').Ends (.inr 0) := by
  unfold zan
  exact M.i_bind (check_ends h) (M.i_f rfl M.i_pure)
theorem chosen_ends (h : Fl.Site S M' R') (hc : Fl.Inc M' ms) : (zaS S M' R' ms).Ends (.inr 0) := by
  unfold zaS
  refine M.i_bind (opened_ends h) (M.i_bind (a := 0) (M.Out.ends ?_) M.i_pure)
  have hm := h.m
  refine M.o_for ms.length (fun i (s : Int × Int × Nat) => s.1 = 0 /\ s.2.2 = i /\ -1 <= s.2.1 /\ s.2.1 <= 16 /\ ∀ j, i <= j -> j < ms.length -> s.2.1 < ms.getD j 0) ?_ ?_ (s := (0, -1, 0)) ⟨rfl, rfl, by decide, by decide, fun j _ hj => by have := hc.2 (ms.getD j 0) (by rw [getD_el ms hj]; exact List.getElem_mem hj); dsimp only; omega⟩
  · rintro i ⟨_, a, _⟩ hi ⟨rfl, rfl, h2, h3, h4⟩
    dsimp only at hi h2 h3 h4 ⊢
    have e := hc.2 (ms.getD _ 0) (by rw [getD_el ms hi]; exact List.getElem_mem hi)
    have k1 := h4 _ (Nat.le_refl _) hi
    simp only [zaV]
    refine M.o_t (decide_eq_true (by omega)) (M.o_grd (decide_eq_true (by omega)) (M.o_grd (gOr2 (by omega) (by omega)) (M.o_bindE (M.i_opt (fun _ => in_true (by omega) (by omega)) (fun h => by cases h)) (M.o_f rfl (M.o_pure ⟨rfl, rfl, by dsimp only; omega, by dsimp only; omega, fun j hj hj' => ?_⟩)))))
    rw [getD_el ms hi, getD_el ms hj']
    exact List.pairwise_iff_getElem.1 hc.1 _ _ hi hj' hj
  · rintro ⟨_, a, _⟩ ⟨rfl, rfl, _⟩
    simp only [zaV]
    exact M.o_f (decide_eq_false (by omega)) (M.o_pure rfl)
theorem asked_ends (h : Fl.Site S M' R') (hc : Fl.Inc M' ms) {i : Int} (h0 : 0 <= i) (h1 : i < R'.length) :
    (zbE S M' R' ms i).Ends (.inr ((R'.getD (Int.toNat i) default).up, (R'.getD (Int.toNat i) default).down, (R'.getD (Int.toNat i) default).lo, (R'.getD (Int.toNat i) default).hi, (R'.getD (Int.toNat i) default).narrow, 0)) := by
  unfold zbE
  exact M.i_bind (chosen_ends h hc) (M.i_bind (M.i_opt (fun _ => in_true h0 (by omega)) (fun h => by cases h)) (M.i_f rfl (M.i_f rfl (M.i_grd (gA2 h0 h1) M.i_pure))))
theorem ahead_ends {a b : Int} (ha : 0 <= a /\ a < M'.length) (hb : 0 <= b /\ b < M'.length) :
    (zag S M' R' a b).Ends (decide ((M'.getD (Int.toNat a) default).place <= (M'.getD (Int.toNat b) default).place) && decide ((M'.getD (Int.toNat a) default).hi < (M'.getD (Int.toNat b) default).lo)) := by
  unfold zag
  exact M.i_grd (gA2 ha.1 ha.2) (M.i_grd (gA2 hb.1 hb.2) M.i_pure)
theorem ahead_false {a b : Int} (hx : Fl.Ixs M' ms) (ht : Fl.Tog M' ms) (ha : a ∈ ms) (hb : b ∈ ms) : (zag S M' R' a b).Ends false := by
  have := ahead_ends (S := S) (R' := R') (hx a ha) (hx b hb)
  rwa [show (decide ((M'.getD (Int.toNat a) default).place <= (M'.getD (Int.toNat b) default).place) && decide ((M'.getD (Int.toNat a) default).hi < (M'.getD (Int.toNat b) default).lo)) = false by
    rw [Bool.and_eq_false_iff, decide_eq_false_iff_not, decide_eq_false_iff_not]
    have := ht a ha b hb
    omega] at this
theorem together_ends (hx : Fl.Ixs M' ms) (ht : Fl.Tog M' ms) : (zaK S M' R' ms).Ends true := by
  unfold zaK
  refine M.i_bind (every_int _ _ fun a ha => ?_) M.i_pure
  unfold zbD
  refine M.i_bind (every_int _ _ fun b hb => ?_) M.i_pure
  unfold zbA
  exact M.i_bind (ahead_false hx ht ha hb) M.i_pure
theorem Peak_out (h : Fl.Site S M' R') (hc : Fl.Inc M' ms) (ht : Fl.Tog M' ms) {i : Int} (h0 : 0 <= i) (h1 : i < R'.length) :
    (zav S M' R' ms i).Out (fun x => x.2.2 = 0 /\ (∃ c, Fl.IsLow S M' ms (R'.getD (Int.toNat i) default) c x.1) /\ ∃ c, Fl.IsHigh S M' ms (R'.getD (Int.toNat i) default) c x.2.1) := by
  have hl : Int.toNat i < R'.length := by omega
  have hr : Fl.Rok S (R'.getD (Int.toNat i) default) := by rw [getD_el R' hl]; exact h.rks _ (List.getElem_mem hl)
  unfold zav
  refine M.o_bindE (asked_ends h hc h0 h1) (M.o_f rfl (M.o_bindE (together_ends hc.2 ht) (M.o_f rfl (M.o_bind (peak_out h.s hr h.mks hc.2 ht) ?_))))
  rintro ⟨a, b⟩ hp
  exact M.o_pure ⟨rfl, hp⟩
end
end Go.Proofs.Ytlemgioaakecpaa
namespace Go.Nm
namespace Fl
def surf (S : List Sect) (M : List Mrk) (ms : List Int) : List Span := (List.range S.length).map fun i => ⟨stLo M ms (S.getD i default).place, stHi M ms (S.getD i default).place⟩
def rx (r : Rch) (n : Int) : Rch := ⟨r.up, r.down, n, n, r.narrow⟩
theorem Rok.rx {S : List Sect} {r : Rch} (h : Rok S r) {n : Int} (h0 : r.lo <= n) (h1 : n <= r.hi) : Rok S (rx r n) := by
  obtain ⟨a, b, c, d, e, f⟩ := h
  exact ⟨a, b, c, Int.le_trans d h0, Int.le_refl _, Int.le_trans h1 f⟩
theorem surf_len (S : List Sect) (M : List Mrk) (ms : List Int) : (surf S M ms).length = S.length := by simp [surf]
theorem surf_at {S : List Sect} {M : List Mrk} {ms : List Int} {i : Nat} (h : i < S.length) : (surf S M ms).getD i default = ⟨stLo M ms (S.getD i default).place, stHi M ms (S.getD i default).place⟩ := by
  rw [getD_el _ (by rw [surf_len]; exact h)]
  simp [surf]
end Fl
end Go.Nm
namespace Go.Proofs.Ytlemgioaakecpaa
open Go Go.Nm
section
variable {S : List Sect} {M' : List Mrk} {R' : List Rch} {ms : List Int} {r : Rch}
theorem Surface_ends (h : Fl.Site S M' R') (hc : Fl.Inc M' ms) (ht : Fl.Tog M' ms) : (zay S M' R' ms).Ends (Fl.surf S M' ms, 0) := by
  have hn := h.s.n
  unfold zay
  refine M.i_bind (chosen_ends h hc) (M.i_f rfl (M.i_bind (together_ends hc.2 ht) (M.i_f rfl (M.i_bind (a := (Fl.surf S M' ms, Fl.surf S M' ms)) ?_ M.i_pure))))
  refine M.i_for (fun i => (i, (List.range i).map fun i => (⟨Fl.stLo M' ms (S.getD i default).place, Fl.stHi M' ms (S.getD i default).place⟩ : Span))) S.length (fun i hi => ?_) ?_
  · simp only [zbf]
    refine M.i_t (decide_eq_true (by omega)) (M.i_bind (stages_ends hc.2 (by omega) (by omega)) (M.i_grd (decide_eq_true ?_) ?_))
    · simp; omega
    · rw [List.range_succ, List.map_append, Int.toNat_natCast]
      exact M.i_pure
  · simp only [zbf]
    exact M.i_f (decide_eq_false (by omega)) M.i_pure
end
end Go.Proofs.Ytlemgioaakecpaa
namespace Go.Nm
namespace Fl
theorem Rows.snoc : ∀ {l : List FRow} {a : FRow}, Rows l -> (∀ e ∈ l, e.stage < a.stage /\ e.carry <= a.carry) -> 0 <= a.stage -> a.stage <= 2000 -> 0 <= a.carry -> a.carry <= 100000 -> Rows (l ++ [a])
  | [], _, _, _, h1, h2, h3, h4 => ⟨h1, h2, h3, h4⟩
  | [b], a, h, he, h1, h2, h3, h4 => by
    have := he b (by simp)
    exact ⟨h.1, this.1, h.2.2.1, this.2, h1, h2, h3, h4⟩
  | b :: c :: r, a, h, he, h1, h2, h3, h4 => by
    obtain ⟨k1, k2, k3, k4, k5⟩ := h
    exact ⟨k1, k2, k3, k4, k5.snoc (fun e hh => he e (by simp [List.mem_cons.1 hh])) h1 h2 h3 h4⟩
/-- A site with what really was: stages that fall downstream, marks about them, and roughness that is allowed. -/
structure Truth (S : List Sect) (M : List Mrk) (R : List Rch) (t ro : List Int) : Prop where
  site : Site S M R
  m8 : M.length <= 8
  tl : t.length = S.length
  rl : ro.length = S.length
  tr : ∀ i, i < S.length -> 0 <= t.getD i 0 /\ t.getD i 0 <= 2000
  td : ∀ i j, i <= j -> j < S.length -> t.getD j 0 <= t.getD i 0
  gap : ∀ i j, i < j -> j < S.length -> (S.getD i default).place + 21 <= (S.getD j default).place
  mt : ∀ m ∈ M, ∃ j, j < S.length /\ (S.getD j default).place <= m.place /\ m.place <= (S.getD j default).place + 19 /\ m.lo <= t.getD j 0 /\ t.getD j 0 <= m.hi
  ro0 : ∀ i, i < S.length -> 1 <= ro.getD i 0 /\ ro.getD i 0 <= 400
  rt : ∀ r ∈ R, r.lo <= ro.getD (Int.toNat r.up) 0 /\ r.lo <= ro.getD (Int.toNat r.down) 0 /\ ro.getD (Int.toNat r.up) 0 <= r.hi /\ ro.getD (Int.toNat r.down) 0 <= r.hi
section
variable {S : List Sect} {M : List Mrk} {R : List Rch} {t ro : List Int} {ms : List Int}
theorem Truth.no (h : Truth S M R t ro) {a b : Mrk} (ha : a ∈ M) (hb : b ∈ M) : ¬(a.place <= b.place /\ a.hi < b.lo) := by
  rintro ⟨h1, h2⟩
  obtain ⟨i, i1, i2, i3, i4, i5⟩ := h.mt a ha
  obtain ⟨j, j1, j2, j3, j4, j5⟩ := h.mt b hb
  by_cases e : i <= j
  · have := h.td i j e j1
    omega
  · have := h.gap j i (by omega) i1
    omega
theorem Truth.tog (h : Truth S M R t ro) (hx : Ixs M ms) : Tog M ms := fun a ha b hb => by
  have h1 := hx a ha
  have h2 := hx b hb
  have l1 : Int.toNat a < M.length := by omega
  have l2 : Int.toNat b < M.length := by omega
  rw [getD_el M l1, getD_el M l2]
  exact h.no (List.getElem_mem l1) (List.getElem_mem l2)
end
end Fl
end Go.Nm
section
set_option maxRecDepth 100000
set_option maxHeartbeats 16000000
namespace Go.Proofs.Ytlemgioaakecpaa
open Go Go.Nm
def zbg (bytes : List UInt8) : M (Int × Int) :=
  M.pure (0, 0)
theorem zcF {R : List Chunk} {ab : Cells} {aa : Value} (bytes : List UInt8) (aj : Reads R ab) (ag : Sl ab aa bytes) {r : (Int × Int)} (hM : (zbg bytes).Ends r) (w : World) (H : St w w [] R) : Ret Try.prog 6 #[aa] w fun v w' => ∃ (y0 : Int) (y1 : Int) (ac : Nat), (y0, y1) = r /\ v = Pq ac /\ St w w' [cBlk ac [aa, I y0, I y1] 68] R := by
 refine ret_of_W Try.func6 rfl rfl rfl ?_
 refine W.seq ?_
 refine W.region rfl ?_
 refine zA (.pointer none) rfl ?_
 refine s_nil ?_
 refine W.seq ?_
 refine W.region rfl ?_
 refine zM aa rfl ?_
 refine s_val (x_bld (ps := [(0, aa)]) (zs := [.slice none 0 0, I 0, I 0]) (L' := [aa, I 0, I 0]) rfl Try.underlying68 Al68 rfl (Bd68 Try.underlying68) (.cons (cs := [aa]) (Sl.cells ag) rfl rfl rfl rfl <| .nil)) ?_
 refine t_box (v := .agg #[aa, I 0, I 0]) (cs := [aa, I 0, I 0]) H rfl rfl ?_
 intro ae ak H
 refine zA (Pq ae) rfl ?_
 refine s_nil ?_
 refine W.ret ?_
 have ai := M.e_pure hM
 exact ⟨_, resE_tmp rfl, ⟨0, 0, ae, ai, rfl, H⟩⟩

def zaP (v : Int) (n : Int) : M Int :=
  bif decide (n < 1) then (
  M.pure 0)
  else (
  M.grd (decide ((0 : Int) < n)) <|
  bif decide ((Int.tmod v n) < 0) then (
  M.grd (decide ((-9223372036854775808 : Int) <= ((Int.tmod v n) + n)) && decide (((Int.tmod v n) + n) <= (9223372036854775807 : Int))) <|
  M.pure ((Int.tmod v n) + n))
  else (
  M.pure (Int.tmod v n)))
theorem zcw {R : List Chunk}  (v : Int) (n : Int)  {r : Int} (hM : (zaP v n).Ends r) (w : World) (H : St w w [] R) : Ret Try.prog 7 #[I v, I n] w fun v w' => ∃ (y0 : Int), y0 = r /\ v = I y0 /\ St w w' [] R := by
 refine ret_of_W Try.func7 rfl rfl rfl ?_
 refine W.seq ?_
 refine W.region rfl ?_
 refine zA (I 0) rfl ?_
 refine s_nil ?_
 refine W.seq ?_
 refine W.seq ?_
 refine W.region rfl ?_
 refine zM (I n) rfl ?_
 refine zC n 1 (decide (n < 1)) rfl rfl rfl ?_
 refine s_nil ?_
 refine W.cond (decide (n < 1)) rfl (fun aa => ?_) (fun aa => ?_)
 ·replace hM := M.e_t hM aa
  simp only [qy1, qy2, qy3, qy4, qy5, qy6, ne_eq, qy7] at aa
  refine W.seq ?_
  refine W.region rfl ?_
  refine zA (I 0) rfl ?_
  refine s_nil ?_
  refine W.ret ?_
  have ab := M.e_pure hM
  exact ⟨_, resE_tmp rfl, ⟨0, ab, rfl, H⟩⟩
 replace hM := M.e_f hM aa
 simp only [qy1, qy2, qy3, qy4, qy5, qy6, ne_eq, qy7] at aa
 refine W.skip ?_
 refine W.seq ?_
 refine W.region rfl ?_
 refine zM (I v) rfl ?_
 refine zM (I n) rfl ?_
 obtain ⟨ae, hM⟩ := M.e_grd hM
 simp only [Bool.and_eq_true, decide_eq_true_eq] at ae
 refine s_val (x_rem (a := v) (b := n) rfl rfl (by omega)) ?_
 refine zA (I (Int.tmod v n)) rfl ?_
 refine s_nil ?_
 refine W.seq ?_
 refine W.seq ?_
 refine W.region rfl ?_
 refine zM (I (Int.tmod v n)) rfl ?_
 refine zC (Int.tmod v n) 0 (decide ((Int.tmod v n) < 0)) rfl rfl rfl ?_
 refine s_nil ?_
 refine W.cond (decide ((Int.tmod v n) < 0)) rfl (fun ac => ?_) (fun ac => ?_)
 ·replace hM := M.e_t hM ac
  simp only [qy1, qy2, qy3, qy4, qy5, qy6, ne_eq, qy7] at ac
  refine W.region rfl ?_
  refine zM (I (Int.tmod v n)) rfl ?_
  refine zM (I n) rfl ?_
  obtain ⟨ag, hM⟩ := M.e_grd hM
  simp only [Bool.and_eq_true, decide_eq_true_eq] at ag
  refine zR (Int.tmod v n) n ((Int.tmod v n) + n) rfl rfl rfl (by omega) ?_
  refine zA (I ((Int.tmod v n) + n)) rfl ?_
  refine s_nil ?_
  refine W.seq ?_
  refine W.region rfl ?_
  refine zM (I ((Int.tmod v n) + n)) rfl ?_
  refine zA (I ((Int.tmod v n) + n)) rfl ?_
  refine s_nil ?_
  refine W.ret ?_
  have ab := M.e_pure hM
  exact ⟨_, resE_tmp rfl, ⟨((Int.tmod v n) + n), ab, rfl, H⟩⟩
 replace hM := M.e_f hM ac
 simp only [qy1, qy2, qy3, qy4, qy5, qy6, ne_eq, qy7] at ac
 refine W.skip ?_
 refine W.seq ?_
 refine W.region rfl ?_
 refine zM (I (Int.tmod v n)) rfl ?_
 refine zA (I (Int.tmod v n)) rfl ?_
 refine s_nil ?_
 refine W.ret ?_
 have ab := M.e_pure hM
 exact ⟨_, resE_tmp rfl, ⟨(Int.tmod v n), ab, rfl, H⟩⟩

def zbl (s_used : Int) (s_mix : Int) (n : Int) (b : Int) : M (Int × Int × Int) :=
  M.grd (decide ((-9223372036854775808 : Int) <= (5 * s_mix)) && decide ((5 * s_mix) <= (9223372036854775807 : Int))) <|
  M.grd (decide ((-9223372036854775808 : Int) <= ((5 * s_mix) + b)) && decide (((5 * s_mix) + b) <= (9223372036854775807 : Int))) <|
  M.grd (decide ((-9223372036854775808 : Int) <= (((5 * s_mix) + b) + 1)) && decide ((((5 * s_mix) + b) + 1) <= (9223372036854775807 : Int))) <|
  M.grd (decide ((0 : Int) <= (((5 * s_mix) + b) + 1)) && decide ((0 : Int) < 251)) <|
  M.grd (decide ((-9223372036854775808 : Int) <= (s_used + 1)) && decide ((s_used + 1) <= (9223372036854775807 : Int))) <|
  bif decide (256 < n) then (
  M.grd (decide ((-9223372036854775808 : Int) <= (256 * b)) && decide ((256 * b) <= (9223372036854775807 : Int))) <|
  M.grd (decide ((-9223372036854775808 : Int) <= ((256 * b) + ((((5 * s_mix) + b) + 1) % 251))) && decide (((256 * b) + ((((5 * s_mix) + b) + 1) % 251)) <= (9223372036854775807 : Int))) <|
  M.grd (decide ((0 : Int) <= ((256 * b) + ((((5 * s_mix) + b) + 1) % 251))) && decide ((0 : Int) < n)) <|
  M.pure ((((256 * b) + ((((5 * s_mix) + b) + 1) % 251)) % n), (s_used + 1), ((((5 * s_mix) + b) + 1) % 251)))
  else (
  M.grd (decide ((0 : Int) <= b) && decide ((0 : Int) < n)) <|
  M.pure ((b % n), (s_used + 1), ((((5 * s_mix) + b) + 1) % 251)))
def zad (s_bytes : List UInt8) (s_used : Int) (s_mix : Int) (n : Int) : M (Int × Int × Int) :=
  bif ((decide (n < 2)) || ((s_bytes.length : Int) == 0)) then (
  M.pure (0, s_used, s_mix))
  else (
  M.grd (decide ((0 : Int) <= s_used) && decide ((0 : Int) < (s_bytes.length : Int))) <|
  M.grd (decide ((0 : Int) <= (s_used % (s_bytes.length : Int))) && decide ((s_used % (s_bytes.length : Int)) < (s_bytes.length : Int))) <|
  M.grd (decide ((0 : Int) <= ((s_bytes.getD (Int.toNat (s_used % (s_bytes.length : Int))) 0).toNat : Int)) && decide (((s_bytes.getD (Int.toNat (s_used % (s_bytes.length : Int))) 0).toNat : Int) < (256 : Int))) <|
  bif decide ((s_bytes.length : Int) <= s_used) then (
  M.grd (decide ((-9223372036854775808 : Int) <= (11 * s_mix)) && decide ((11 * s_mix) <= (9223372036854775807 : Int))) <|
  M.grd (decide (0 <= s_used) && decide (s_used <= (9223372036854775807 : Int)) && decide ((0 : Int) < (s_bytes.length : Int))) <|
  M.grd (decide ((-9223372036854775808 : Int) <= ((11 * s_mix) + (s_used / (s_bytes.length : Int)))) && decide (((11 * s_mix) + (s_used / (s_bytes.length : Int))) <= (9223372036854775807 : Int))) <|
  M.grd (decide ((-9223372036854775808 : Int) <= (((s_bytes.getD (Int.toNat (s_used % (s_bytes.length : Int))) 0).toNat : Int) + ((11 * s_mix) + (s_used / (s_bytes.length : Int))))) && decide ((((s_bytes.getD (Int.toNat (s_used % (s_bytes.length : Int))) 0).toNat : Int) + ((11 * s_mix) + (s_used / (s_bytes.length : Int)))) <= (9223372036854775807 : Int))) <|
  zbl s_used s_mix n (((s_bytes.getD (Int.toNat (s_used % (s_bytes.length : Int))) 0).toNat : Int) + ((11 * s_mix) + (s_used / (s_bytes.length : Int)))))
  else (
  zbl s_used s_mix n ((s_bytes.getD (Int.toNat (s_used % (s_bytes.length : Int))) 0).toNat : Int)))
theorem zae {R : List Chunk} {aa : Nat} {am : Cells} {ab : Value} (s_bytes : List UInt8) (s_used : Int) (s_mix : Int) (n : Int) (ao : Reads R am) (ac : Sl am ab s_bytes) {r : (Int × Int × Int)} (hM : (zad s_bytes s_used s_mix n).Ends r) (w : World) (H : St w w [cBlk aa [ab, I s_used, I s_mix] 68] R) : Ret Try.prog 9 #[Pq aa, I n] w fun v w' => ∃ (y0 : Int) (y1 : Int) (y2 : Int), (y0, y1, y2) = r /\ v = I y0 /\ St w w' [cBlk aa [ab, I y1, I y2] 68] R := by
 refine ret_of_W Try.func9 rfl rfl rfl ?_
 refine W.seq ?_
 refine W.region rfl ?_
 refine zA (I 0) rfl ?_
 refine s_nil ?_
 refine W.seq ?_
 refine W.seq ?_
 refine W.region rfl ?_
 refine zM (I n) rfl ?_
 refine zC n 2 (decide (n < 2)) rfl rfl rfl ?_
 refine zM (B (decide (n < 2))) rfl ?_
 refine g_val (!(decide (n < 2))) (gy_f rfl) (fun hg => x_mv (v := Pq aa) rfl) ?_
 refine g_val (!(decide (n < 2))) (gy_f rfl) (fun hg => x_nc (a := ⟨aa, 0, none⟩) (gd_of (c := !(decide (n < 2))) hg (Pq aa))) ?_
 refine g_val (!(decide (n < 2))) (gy_f rfl) (fun hg => x_fa (a := Pq aa) (v := Pq aa) (gd_of (c := !(decide (n < 2))) hg (Pq aa)) (fa_blk (o := 0) Fd68_0 Sz22)) ?_
 refine g_val (!(decide (n < 2))) (gy_f rfl) (fun hg => x_ld (p := Pq aa) (v := ab) (gd_of (c := !(decide (n < 2))) hg (Pq aa)) (ldb_sc Sc22 (H.bl 0) rfl)) ?_
 have aI := (ac).len_le
 refine g_val (!(decide (n < 2))) (gy_f rfl) (fun hg => x_lenS T22.und (gd_of (c := !(decide (n < 2))) hg (ab)) ac) ?_
 refine g_val (!(decide (n < 2))) (gy_f rfl) (fun hg => x_cmp (kd := .i64) (a := (s_bytes.length : Int)) (b := 0) (r := (s_bytes.length : Int) == 0) (gd_of (c := !(decide (n < 2))) hg (I (s_bytes.length : Int))) rfl rfl) ?_
 refine s_val (x_por (b := decide (n < 2)) (r := (s_bytes.length : Int) == 0) rfl rfl (fun hb => gd_of (c := !(decide (n < 2))) (by first | exact hb | (rw [hb]; rfl) | simp_all) (B ((s_bytes.length : Int) == 0)))) ?_
 refine s_nil ?_
 refine W.cond ((decide (n < 2)) || ((s_bytes.length : Int) == 0)) rfl (fun ak => ?_) (fun ak => ?_)
 ·replace hM := M.e_t hM ak
  refine W.seq ?_
  refine W.region rfl ?_
  refine zA (I 0) rfl ?_
  refine s_nil ?_
  refine W.ret ?_
  have ag := M.e_pure hM
  exact ⟨_, resE_tmp rfl, ⟨0, s_used, s_mix, ag, rfl, H⟩⟩
 replace hM := M.e_f hM ak
 refine W.skip ?_
 refine W.seq ?_
 refine W.draw (fun W => St w W [cBlk aa [ab, I s_used, I s_mix] 68] R) [(0, true), (1, true), (2, true), (3, true), (4, true), (5, true), (6, true), (7, true), (8, true), (9, true), (10, true), (11, true), (12, true), (13, true), (14, true), (15, true), (16, true), (17, true)] mixed (by decide +kernel) rfl ?_
 intro aJ ae
 replace H := H.ext ae
 clear ae
 refine ⟨(H.pk [0]), ?_⟩
 refine d_q rfl (fun w' H => x_mv (v := Pq aa) rfl) ?_
 refine d_q rfl (fun w' H => x_nc (a := ⟨aa, 0, none⟩) rfl) ?_
 refine d_q rfl (fun w' H => x_fa (a := Pq aa) (v := Pq aa) rfl (fa_blk (o := 0) Fd68_0 Sz22)) ?_
 refine d_q rfl (fun w' H => x_ld (p := Pq aa) (v := ab) rfl (ldb_sc Sc22 (H.bl 0) rfl)) ?_
 refine d_q rfl (fun w' H => x_mv (v := Pq aa) rfl) ?_
 refine d_q rfl (fun w' H => x_nc (a := ⟨aa, 0, none⟩) rfl) ?_
 refine d_q rfl (fun w' H => x_fa (a := Pq aa) (v := Oq aa 1) rfl (fa_blk (o := 0) Fd68_1 Sz3)) ?_
 refine d_q rfl (fun w' H => x_ld (p := Oq aa 1) (v := I s_used) rfl (ldb_sc Sc3 (H.bl 0) rfl)) ?_
 refine d_q rfl (fun w' H => x_mv (v := Pq aa) rfl) ?_
 refine d_q rfl (fun w' H => x_nc (a := ⟨aa, 0, none⟩) rfl) ?_
 refine d_q rfl (fun w' H => x_fa (a := Pq aa) (v := Pq aa) rfl (fa_blk (o := 0) Fd68_0 Sz22)) ?_
 refine d_q rfl (fun w' H => x_ld (p := Pq aa) (v := ab) rfl (ldb_sc Sc22 (H.bl 0) rfl)) ?_
 have aK := (ac).len_le
 refine d_q rfl (fun w' H => x_lenS T22.und rfl ac) ?_
 obtain ⟨ap, hM⟩ := M.e_grd hM
 simp only [Bool.and_eq_true, decide_eq_true_eq] at ap
 refine d_q rfl (fun w' H => x_rem' (a := s_used) (b := (s_bytes.length : Int)) rfl rfl (by omega)) ?_
 obtain ⟨aq, hM⟩ := M.e_grd hM
 simp only [Bool.and_eq_true, decide_eq_true_eq] at aq
 refine d_q rfl (fun w' H => x_ix (a := ab) (b := I (s_used % (s_bytes.length : Int))) (v := vat ab 1 (Int.toNat (s_used % (s_bytes.length : Int)))) rfl rfl (Sl.ix (α := UInt8) T22.und T22.size ac (by omega) (by omega))) ?_
 refine d_q rfl (fun w' H => x_ld (p := vat ab 1 (Int.toNat (s_used % (s_bytes.length : Int)))) (v := .int .u8 (((s_bytes.getD (Int.toNat (s_used % (s_bytes.length : Int))) 0).toNat : Int))) rfl (ld_sc Sc5 (At.mono (UInt8_at ac (i := s_used % (s_bytes.length : Int)) (by omega) (by omega)) (ao.at H)))) ?_
 obtain ⟨au, hM⟩ := M.e_grd hM
 simp only [Bool.and_eq_true, decide_eq_true_eq] at au
 refine d_q rfl (fun w' H => x_conv64 (kd := .u8) (a := ((s_bytes.getD (Int.toNat (s_used % (s_bytes.length : Int))) 0).toNat : Int)) Try.underlying5 Try.underlying3 rfl (by omega)) ?_
 refine d_q rfl (fun w' H => x_as (v := I ((s_bytes.getD (Int.toNat (s_used % (s_bytes.length : Int))) 0).toNat : Int)) rfl) ?_
 refine d_nil ?_
 refine W.seqJ (fun σ W => ∃ (b : Int) (ρ : Env), σ = upds ρ [(0, Pq aa), (1, I n), (5, I b)] /\ (zbl s_used s_mix n b).Ends r /\ St w W [cBlk aa [ab, I s_used, I s_mix] 68] R) ?_ ?_
 ·skip
  refine W.seq ?_
  refine W.draw (fun W => St w W [cBlk aa [ab, I s_used, I s_mix] 68] R) [(0, true), (1, true), (2, true), (3, true), (4, true), (5, true), (6, true), (7, true), (8, true), (9, true)] mixed (by decide +kernel) rfl ?_
  intro aL ae
  replace H := H.ext ae
  clear ae
  refine ⟨(H.pk [0]), ?_⟩
  refine d_q rfl (fun w' H => x_mv (v := Pq aa) rfl) ?_
  refine d_q rfl (fun w' H => x_nc (a := ⟨aa, 0, none⟩) rfl) ?_
  refine d_q rfl (fun w' H => x_fa (a := Pq aa) (v := Oq aa 1) rfl (fa_blk (o := 0) Fd68_1 Sz3)) ?_
  refine d_q rfl (fun w' H => x_ld (p := Oq aa 1) (v := I s_used) rfl (ldb_sc Sc3 (H.bl 0) rfl)) ?_
  refine d_q rfl (fun w' H => x_mv (v := Pq aa) rfl) ?_
  refine d_q rfl (fun w' H => x_nc (a := ⟨aa, 0, none⟩) rfl) ?_
  refine d_q rfl (fun w' H => x_fa (a := Pq aa) (v := Pq aa) rfl (fa_blk (o := 0) Fd68_0 Sz22)) ?_
  refine d_q rfl (fun w' H => x_ld (p := Pq aa) (v := ab) rfl (ldb_sc Sc22 (H.bl 0) rfl)) ?_
  have aM := (ac).len_le
  refine d_q rfl (fun w' H => x_lenS T22.und rfl ac) ?_
  refine d_q rfl (fun w' H => x_cmp (kd := .i64) (a := s_used) (b := (s_bytes.length : Int)) (r := decide ((s_bytes.length : Int) <= s_used)) rfl rfl rfl) ?_
  refine d_nil ?_
  refine W.cond (decide ((s_bytes.length : Int) <= s_used)) rfl (fun ai => ?_) (fun ai => ?_)
  ·replace hM := M.e_t hM ai
   simp only [qy1, qy2, qy3, qy4, qy5, qy6, ne_eq, qy7] at ai
   refine W.draw (fun W => St w W [cBlk aa [ab, I s_used, I s_mix] 68] R) [(0, true), (1, true), (2, true), (3, true), (4, true), (5, true), (6, true), (7, true), (8, true), (9, true), (10, true), (11, true), (12, true), (13, true), (14, true), (15, true), (16, true), (17, true), (18, true)] mixed (by decide +kernel) rfl ?_
   intro aN ae
   replace H := H.ext ae
   clear ae
   refine ⟨(H.pk [0]), ?_⟩
   refine d_q rfl (fun w' H => x_mv (v := I ((s_bytes.getD (Int.toNat (s_used % (s_bytes.length : Int))) 0).toNat : Int)) rfl) ?_
   refine d_q rfl (fun w' H => x_mv (v := Pq aa) rfl) ?_
   refine d_q rfl (fun w' H => x_nc (a := ⟨aa, 0, none⟩) rfl) ?_
   refine d_q rfl (fun w' H => x_fa (a := Pq aa) (v := Oq aa 2) rfl (fa_blk (o := 0) Fd68_2 Sz3)) ?_
   refine d_q rfl (fun w' H => x_ld (p := Oq aa 2) (v := I s_mix) rfl (ldb_sc Sc3 (H.bl 0) rfl)) ?_
   obtain ⟨av, hM⟩ := M.e_grd hM
   simp only [Bool.and_eq_true, decide_eq_true_eq] at av
   refine d_q rfl (fun w' H => x_ari (a := 11) (b := s_mix) (r := 11 * s_mix) rfl rfl rfl (by omega)) ?_
   refine d_q rfl (fun w' H => x_mv (v := Pq aa) rfl) ?_
   refine d_q rfl (fun w' H => x_nc (a := ⟨aa, 0, none⟩) rfl) ?_
   refine d_q rfl (fun w' H => x_fa (a := Pq aa) (v := Oq aa 1) rfl (fa_blk (o := 0) Fd68_1 Sz3)) ?_
   refine d_q rfl (fun w' H => x_ld (p := Oq aa 1) (v := I s_used) rfl (ldb_sc Sc3 (H.bl 0) rfl)) ?_
   refine d_q rfl (fun w' H => x_mv (v := Pq aa) rfl) ?_
   refine d_q rfl (fun w' H => x_nc (a := ⟨aa, 0, none⟩) rfl) ?_
   refine d_q rfl (fun w' H => x_fa (a := Pq aa) (v := Pq aa) rfl (fa_blk (o := 0) Fd68_0 Sz22)) ?_
   refine d_q rfl (fun w' H => x_ld (p := Pq aa) (v := ab) rfl (ldb_sc Sc22 (H.bl 0) rfl)) ?_
   have aO := (ac).len_le
   refine d_q rfl (fun w' H => x_lenS T22.und rfl ac) ?_
   obtain ⟨aw, hM⟩ := M.e_grd hM
   simp only [Bool.and_eq_true, decide_eq_true_eq] at aw
   refine d_q rfl (fun w' H => x_quo (a := s_used) (b := (s_bytes.length : Int)) rfl rfl (by omega)) ?_
   obtain ⟨ax, hM⟩ := M.e_grd hM
   simp only [Bool.and_eq_true, decide_eq_true_eq] at ax
   refine d_q rfl (fun w' H => x_ari (a := 11 * s_mix) (b := s_used / (s_bytes.length : Int)) (r := (11 * s_mix) + (s_used / (s_bytes.length : Int))) rfl rfl rfl (by omega)) ?_
   obtain ⟨ay, hM⟩ := M.e_grd hM
   simp only [Bool.and_eq_true, decide_eq_true_eq] at ay
   refine d_q rfl (fun w' H => x_ari (a := ((s_bytes.getD (Int.toNat (s_used % (s_bytes.length : Int))) 0).toNat : Int)) (b := (11 * s_mix) + (s_used / (s_bytes.length : Int))) (r := ((s_bytes.getD (Int.toNat (s_used % (s_bytes.length : Int))) 0).toNat : Int) + ((11 * s_mix) + (s_used / (s_bytes.length : Int)))) rfl rfl rfl (by omega)) ?_
   refine d_q rfl (fun w' H => x_as (v := I (((s_bytes.getD (Int.toNat (s_used % (s_bytes.length : Int))) 0).toNat : Int) + ((11 * s_mix) + (s_used / (s_bytes.length : Int))))) rfl) ?_
   refine d_nil ?_
   exact ⟨((s_bytes.getD (Int.toNat (s_used % (s_bytes.length : Int))) 0).toNat : Int) + ((11 * s_mix) + (s_used / (s_bytes.length : Int))), _, upds_of _ _ ⟨rfl, rfl, rfl, trivial⟩, hM, H⟩
  replace hM := M.e_f hM ai
  simp only [qy1, qy2, qy3, qy4, qy5, qy6, ne_eq, qy7] at ai
  refine W.skip ?_
  exact ⟨((s_bytes.getD (Int.toNat (s_used % (s_bytes.length : Int))) 0).toNat : Int), _, upds_of _ _ ⟨rfl, rfl, rfl, trivial⟩, hM, H⟩
 rintro _ aP ⟨b, ρ, rfl, hM, H⟩
 unfold zbl at hM
 refine W.seq ?_
 refine W.region rfl ?_
 refine zM (Pq aa) rfl ?_
 refine zM (Pq aa) rfl ?_
 refine s_val (x_nc (a := ⟨aa, 0, none⟩) rfl) ?_
 refine s_val (x_fa (a := Pq aa) (v := Oq aa 2) rfl (fa_blk (o := 0) Fd68_2 Sz3)) ?_
 refine s_val (x_ld (p := Oq aa 2) (v := I s_mix) rfl (ldb_sc Sc3 (H.bl 0) rfl)) ?_
 obtain ⟨az, hM⟩ := M.e_grd hM
 simp only [Bool.and_eq_true, decide_eq_true_eq] at az
 refine zR 5 s_mix (5 * s_mix) rfl rfl rfl (by omega) ?_
 refine zM (I b) rfl ?_
 obtain ⟨aA, hM⟩ := M.e_grd hM
 simp only [Bool.and_eq_true, decide_eq_true_eq] at aA
 refine zR (5 * s_mix) b ((5 * s_mix) + b) rfl rfl rfl (by omega) ?_
 obtain ⟨aB, hM⟩ := M.e_grd hM
 simp only [Bool.and_eq_true, decide_eq_true_eq] at aB
 refine zR ((5 * s_mix) + b) 1 (((5 * s_mix) + b) + 1) rfl rfl rfl (by omega) ?_
 obtain ⟨aC, hM⟩ := M.e_grd hM
 simp only [Bool.and_eq_true, decide_eq_true_eq] at aC
 refine s_val (x_rem' (a := ((5 * s_mix) + b) + 1) (b := 251) rfl rfl (by omega)) ?_
 refine s_val (x_nc (a := ⟨aa, 0, none⟩) rfl) ?_
 refine s_val (x_fa (a := Pq aa) (v := Oq aa 2) rfl (fa_blk (o := 0) Fd68_2 Sz3)) ?_
 refine t_sw 0 2 [I ((((5 * s_mix) + b) + 1) % 251)] (I ((((5 * s_mix) + b) + 1) % 251)) H rfl rfl Sz3 rfl rfl rfl rfl ?_
 intro aQ H
 refine s_nil ?_
 refine W.seq ?_
 refine W.region rfl ?_
 refine zM (Pq aa) rfl ?_
 refine s_val (x_nc (a := ⟨aa, 0, none⟩) rfl) ?_
 refine s_val (x_fa (a := Pq aa) (v := Oq aa 1) rfl (fa_blk (o := 0) Fd68_1 Sz3)) ?_
 refine s_val (x_ld (p := Oq aa 1) (v := I s_used) rfl (ldb_sc Sc3 (H.bl 0) rfl)) ?_
 obtain ⟨aD, hM⟩ := M.e_grd hM
 simp only [Bool.and_eq_true, decide_eq_true_eq] at aD
 refine zR s_used 1 (s_used + 1) rfl rfl rfl (by omega) ?_
 refine s_val (x_nc (a := ⟨aa, 0, none⟩) rfl) ?_
 refine s_val (x_fa (a := Pq aa) (v := Oq aa 1) rfl (fa_blk (o := 0) Fd68_1 Sz3)) ?_
 refine t_sw 0 1 [I (s_used + 1)] (I (s_used + 1)) H rfl rfl Sz3 rfl rfl rfl rfl ?_
 intro aR H
 refine s_nil ?_
 refine W.seq ?_
 refine W.seq ?_
 refine W.region rfl ?_
 refine zM (I n) rfl ?_
 refine zC n 256 (decide (256 < n)) rfl rfl rfl ?_
 refine s_nil ?_
 refine W.cond (decide (256 < n)) rfl (fun aj => ?_) (fun aj => ?_)
 ·replace hM := M.e_t hM aj
  simp only [qy1, qy2, qy3, qy4, qy5, qy6, ne_eq, qy7] at aj
  refine W.region rfl ?_
  refine zM (I b) rfl ?_
  obtain ⟨aE, hM⟩ := M.e_grd hM
  simp only [Bool.and_eq_true, decide_eq_true_eq] at aE
  refine zR 256 b (256 * b) rfl rfl rfl (by omega) ?_
  refine zM (Pq aa) rfl ?_
  refine s_val (x_nc (a := ⟨aa, 0, none⟩) rfl) ?_
  refine s_val (x_fa (a := Pq aa) (v := Oq aa 2) rfl (fa_blk (o := 0) Fd68_2 Sz3)) ?_
  refine s_val (x_ld (p := Oq aa 2) (v := I ((((5 * s_mix) + b) + 1) % 251)) rfl (ldb_sc Sc3 (H.bl 0) rfl)) ?_
  obtain ⟨aF, hM⟩ := M.e_grd hM
  simp only [Bool.and_eq_true, decide_eq_true_eq] at aF
  refine zR (256 * b) ((((5 * s_mix) + b) + 1) % 251) ((256 * b) + ((((5 * s_mix) + b) + 1) % 251)) rfl rfl rfl (by omega) ?_
  refine zA (I ((256 * b) + ((((5 * s_mix) + b) + 1) % 251))) rfl ?_
  refine s_nil ?_
  refine W.seq ?_
  refine W.region rfl ?_
  refine zM (I ((256 * b) + ((((5 * s_mix) + b) + 1) % 251))) rfl ?_
  refine zM (I n) rfl ?_
  obtain ⟨aG, hM⟩ := M.e_grd hM
  simp only [Bool.and_eq_true, decide_eq_true_eq] at aG
  refine s_val (x_rem' (a := (256 * b) + ((((5 * s_mix) + b) + 1) % 251)) (b := n) rfl rfl (by omega)) ?_
  refine zA (I (((256 * b) + ((((5 * s_mix) + b) + 1) % 251)) % n)) rfl ?_
  refine s_nil ?_
  refine W.ret ?_
  have ag := M.e_pure hM
  exact ⟨_, resE_tmp rfl, ⟨(((256 * b) + ((((5 * s_mix) + b) + 1) % 251)) % n), (s_used + 1), ((((5 * s_mix) + b) + 1) % 251), ag, rfl, H⟩⟩
 replace hM := M.e_f hM aj
 simp only [qy1, qy2, qy3, qy4, qy5, qy6, ne_eq, qy7] at aj
 refine W.skip ?_
 refine W.seq ?_
 refine W.region rfl ?_
 refine zM (I b) rfl ?_
 refine zM (I n) rfl ?_
 obtain ⟨aH, hM⟩ := M.e_grd hM
 simp only [Bool.and_eq_true, decide_eq_true_eq] at aH
 refine s_val (x_rem' (a := b) (b := n) rfl rfl (by omega)) ?_
 refine zA (I (b % n)) rfl ?_
 refine s_nil ?_
 refine W.ret ?_
 have ag := M.e_pure hM
 exact ⟨_, resE_tmp rfl, ⟨(b % n), (s_used + 1), ((((5 * s_mix) + b) + 1) % 251), ag, rfl, H⟩⟩

def zaf (s_bytes : List UInt8) (s_used : Int) (s_mix : Int) (lo : Int) (hi : Int) : M (Int × Int × Int) :=
  M.grd (decide ((-9223372036854775808 : Int) <= (hi - lo)) && decide ((hi - lo) <= (9223372036854775807 : Int))) <|
  M.grd (decide ((-9223372036854775808 : Int) <= ((hi - lo) + 1)) && decide (((hi - lo) + 1) <= (9223372036854775807 : Int))) <|
  M.bind (zad s_bytes s_used s_mix ((hi - lo) + 1)) fun (r2, q1, q2) =>
  M.grd (decide ((-9223372036854775808 : Int) <= (lo + r2)) && decide ((lo + r2) <= (9223372036854775807 : Int))) <|
  M.pure ((lo + r2), q1, q2)
theorem zah {R : List Chunk} {aa : Nat} {ac : Cells} {ab : Value} (s_bytes : List UInt8) (s_used : Int) (s_mix : Int) (lo : Int) (hi : Int) (ag : Reads R ac) (ai : Sl ac ab s_bytes) {r : (Int × Int × Int)} (hM : (zaf s_bytes s_used s_mix lo hi).Ends r) (w : World) (H : St w w [cBlk aa [ab, I s_used, I s_mix] 68] R) : Ret Try.prog 17 #[Pq aa, I lo, I hi] w fun v w' => ∃ (y0 : Int) (y1 : Int) (y2 : Int), (y0, y1, y2) = r /\ v = I y0 /\ St w w' [cBlk aa [ab, I y1, I y2] 68] R := by
 refine ret_of_W Try.func17 rfl rfl rfl ?_
 refine W.seq ?_
 refine W.region rfl ?_
 refine zA (I 0) rfl ?_
 refine s_nil ?_
 refine W.seq ?_
 refine W.region rfl ?_
 refine zM (I lo) rfl ?_
 refine zM (Pq aa) rfl ?_
 refine zM (I hi) rfl ?_
 refine zM (I lo) rfl ?_
 obtain ⟨aj, hM⟩ := M.e_grd hM
 simp only [Bool.and_eq_true, decide_eq_true_eq] at aj
 refine zR hi lo (hi - lo) rfl rfl rfl (by omega) ?_
 obtain ⟨ak, hM⟩ := M.e_grd hM
 simp only [Bool.and_eq_true, decide_eq_true_eq] at ak
 refine zR (hi - lo) 1 ((hi - lo) + 1) rfl rfl rfl (by omega) ?_
 obtain ⟨au, am, hM⟩ := M.e_bind hM
 refine s_call cf9 [Pq aa, I ((hi - lo) + 1)] rfl (zae s_bytes s_used s_mix ((hi - lo) + 1) (ag.app _) ai am _ (H.gt 0)) ?_
 rintro vq av ⟨r2, q1, q2, ao, hvq, ae⟩
 subst ao
 subst vq
 try dsimp only at hM
 replace H := H.bk ae
 clear ae
 obtain ⟨ap, hM⟩ := M.e_grd hM
 simp only [Bool.and_eq_true, decide_eq_true_eq] at ap
 refine zR lo r2 (lo + r2) rfl rfl rfl (by omega) ?_
 refine zA (I (lo + r2)) rfl ?_
 refine s_nil ?_
 refine W.ret ?_
 have aq := M.e_pure hM
 exact ⟨_, resE_tmp rfl, ⟨(lo + r2), q1, q2, aq, rfl, H⟩⟩

end Go.Proofs.Ytlemgioaakecpaa
end
namespace Go.Nm
structure SOk (c u x : Int) : Prop where
  u0 : 0 <= u
  u1 : u <= c
  x0 : 0 <= x
  x1 : x < 251
theorem SOk.mono {c d u x : Int} (h : SOk c u x) (hd : c <= d) : SOk d u x := ⟨h.u0, Int.le_trans h.u1 hd, h.x0, h.x1⟩
/-- What a stream gives: a number below n. -/
structure Nx (c n : Int) (y : Int × Int × Int) : Prop where
  ok : SOk c y.2.1 y.2.2
  lt : 1 <= n -> 0 <= y.1 /\ y.1 < n
  no : n < 1 -> y.1 = 0
end Go.Nm
namespace Go.Proofs.Ytlemgioaakecpaa
open Go Go.Nm
theorem next_out {b : List UInt8} {c u x n : Int} (h : SOk c u x) (hc : c <= 1000000000000) (hn : n <= 1000000) : (zad b u x n).Out (Nx (c + 1) n) := by
  obtain ⟨u0, u1, x0, x1⟩ := h
  unfold zad
  refine M.o_if (fun hb => ?_) (fun hb => ?_)
  · simp only [Bool.or_eq_true, decide_eq_true_eq, beq_iff_eq] at hb
    refine M.o_pure ⟨⟨u0, by dsimp only; omega, x0, x1⟩, fun h1 => ⟨Int.le_refl _, ?_⟩, fun _ => rfl⟩
    dsimp only
    omega
  · simp only [Bool.or_eq_false_iff, decide_eq_false_iff_not, beq_eq_false_iff_ne, ne_eq] at hb
    have hl : (0 : Int) < (b.length : Int) := by omega
    have m0 := Int.emod_nonneg u (show (b.length : Int) ≠ 0 by omega)
    have m1 := Int.emod_lt_of_pos u hl
    have d0 := Int.ediv_nonneg u0 (show (0 : Int) <= (b.length : Int) by omega)
    have d1 : u / (b.length : Int) <= u := Int.ediv_le_self _ u0
    have y1 : ((b.getD (Int.toNat (u % (b.length : Int))) 0).toNat : Int) < 256 := by
      have := UInt8.toNat_lt (b.getD (Int.toNat (u % (b.length : Int))) 0)
      omega
    have y0 : (0 : Int) <= ((b.getD (Int.toNat (u % (b.length : Int))) 0).toNat : Int) := Int.natCast_nonneg _
    generalize ((b.getD (Int.toNat (u % (b.length : Int))) 0).toNat : Int) = y at *
    generalize u % (b.length : Int) = m at *
    generalize u / (b.length : Int) = d at *
    have hn0 : 0 < n := by omega
    have fin : ∀ z : Int, 0 <= z -> 0 <= z % n /\ z % n < n := fun z hz => ⟨Int.emod_nonneg _ (by omega), Int.emod_lt_of_pos _ hn0⟩
    have pr : ∀ z w : Int, 0 <= z -> Nx (c + 1) n (z % n, u + 1, w % 251) := fun z w hz => ⟨⟨by dsimp only; omega, by dsimp only; omega, by dsimp only; omega, by dsimp only; omega⟩, fun _ => fin z hz, fun h => by omega⟩
    refine M.o_grd (by simp only [Bool.and_eq_true, decide_eq_true_eq]; omega) (M.o_grd (by simp only [Bool.and_eq_true, decide_eq_true_eq]; omega) (M.o_grd (by simp only [Bool.and_eq_true, decide_eq_true_eq]; omega) ?_))
    refine M.o_if (fun h1 => ?_) (fun h1 => ?_)
    · refine M.o_grd (by simp only [Bool.and_eq_true, decide_eq_true_eq]; omega) (M.o_grd (by simp only [Bool.and_eq_true, decide_eq_true_eq]; omega) (M.o_grd (by simp only [Bool.and_eq_true, decide_eq_true_eq]; omega) (M.o_grd (by simp only [Bool.and_eq_true, decide_eq_true_eq]; omega) (M.o_grd (by simp only [Bool.and_eq_true, decide_eq_true_eq]; omega) ?_))))
      refine M.o_grd (by simp only [Bool.and_eq_true, decide_eq_true_eq]; omega) (M.o_grd (by simp only [Bool.and_eq_true, decide_eq_true_eq]; omega) (M.o_grd (by simp only [Bool.and_eq_true, decide_eq_true_eq]; omega) (M.o_grd (by simp only [Bool.and_eq_true, decide_eq_true_eq]; omega) ?_)))
      refine M.o_if (fun h2 => ?_) (fun h2 => ?_)
      · refine M.o_grd (by simp only [Bool.and_eq_true, decide_eq_true_eq]; omega) (M.o_grd (by simp only [Bool.and_eq_true, decide_eq_true_eq]; omega) (M.o_grd (by simp only [Bool.and_eq_true, decide_eq_true_eq]; omega) (M.o_pure (pr _ _ (by omega)))))
      · refine M.o_grd (by simp only [Bool.and_eq_true, decide_eq_true_eq]; omega) (M.o_pure (pr _ _ (by omega)))
    · refine M.o_grd (by simp only [Bool.and_eq_true, decide_eq_true_eq]; omega) (M.o_grd (by simp only [Bool.and_eq_true, decide_eq_true_eq]; omega) (M.o_grd (by simp only [Bool.and_eq_true, decide_eq_true_eq]; omega) (M.o_grd (by simp only [Bool.and_eq_true, decide_eq_true_eq]; omega) (M.o_grd (by simp only [Bool.and_eq_true, decide_eq_true_eq]; omega) ?_))))
      refine M.o_if (fun h2 => ?_) (fun h2 => ?_)
      · refine M.o_grd (by simp only [Bool.and_eq_true, decide_eq_true_eq]; omega) (M.o_grd (by simp only [Bool.and_eq_true, decide_eq_true_eq]; omega) (M.o_grd (by simp only [Bool.and_eq_true, decide_eq_true_eq]; omega) (M.o_pure (pr _ _ (by omega)))))
      · refine M.o_grd (by simp only [Bool.and_eq_true, decide_eq_true_eq]; omega) (M.o_pure (pr _ _ (by omega)))
theorem within_out {b : List UInt8} {c u x lo hi : Int} (h : SOk c u x) (hc : c <= 1000000000000) (h0 : -1000 <= lo) (h1 : lo <= hi) (h2 : hi <= 10000) : (zaf b u x lo hi).Out (fun y => SOk (c + 1) y.2.1 y.2.2 /\ lo <= y.1 /\ y.1 <= hi) := by
  unfold zaf
  refine M.o_grd (gA2 (by omega) (by omega)) (M.o_grd (gA2 (by omega) (by omega)) (M.o_bind (next_out h hc (by omega)) ?_))
  rintro ⟨r, u', x'⟩ ⟨k, hl, _⟩
  have := hl (by omega)
  dsimp only at this k ⊢
  exact M.o_grd (gA2 (by omega) (by omega)) (M.o_pure ⟨k, by dsimp only; omega, by dsimp only; omega⟩)
end Go.Proofs.Ytlemgioaakecpaa
namespace Go.Nm
theorem SOk.zero : SOk 0 0 0 := ⟨Int.le_refl _, Int.le_refl _, Int.le_refl _, by decide⟩
end Go.Nm
namespace Go.Proofs.Ytlemgioaakecpaa
open Go Go.Nm
theorem pick_num {v n : Int} (h : 1 <= n /\ n <= 1000000) : (zaP v n).Out (fun r => 0 <= r /\ r < n) := by
  unfold zaP
  have h1 : Int.tmod v n < n := Int.tmod_lt_of_pos v (by omega)
  have h2 : -n < Int.tmod v n := by
    have := Int.tmod_lt_of_pos (-v) (show 0 < n by omega)
    rw [Int.neg_tmod] at this
    omega
  refine M.o_f (decide_eq_false (by omega)) (M.o_grdD (by omega) (M.o_if (fun hb => ?_) (fun hb => ?_)))
  · have := of_decide_eq_true hb
    exact M.o_grd (gA2 (by omega) (by omega)) (M.o_pure (by omega))
  · have := of_decide_eq_false hb
    exact M.o_pure (by omega)
end Go.Proofs.Ytlemgioaakecpaa
section
set_option maxRecDepth 100000
set_option maxHeartbeats 16000000
namespace Go.Proofs.Ytlemgioaakecpaa
open Go Go.Nm
def za5 (s_bytes : List UInt8) : (Int × Int × Int × Int × Int × (List FRow)) -> M ((Int × Int × Int × Int × Int × (List FRow)) ⊕ (Int × Int × (List FRow) × (List FRow))) := fun (s2, s3, s4, carry, k, l) =>
  bif decide (0 < k) then (
  M.grd (decide ((l.length + ([(⟨(s4 : Int), (carry : Int)⟩ : FRow)]).length) * 16 <= 140737488355328)) <|
  M.bind (zaf s_bytes s2 s3 1 200) fun (r8, aa, ab) =>
  M.grd (decide ((-9223372036854775808 : Int) <= (s4 + r8)) && decide ((s4 + r8) <= (9223372036854775807 : Int))) <|
  M.bind (zad s_bytes aa ab 2000) fun (r9, ac, ae) =>
  M.grd (decide ((-9223372036854775808 : Int) <= (carry + r9)) && decide ((carry + r9) <= (9223372036854775807 : Int))) <|
  M.grd (decide ((-9223372036854775808 : Int) <= (k - 1)) && decide ((k - 1) <= (9223372036854775807 : Int))) <|
  M.pure (.inl (ac, ae, s4 + r8, carry + r9, k - 1, l ++ ([(⟨(s4 : Int), (carry : Int)⟩ : FRow)]))))
  else (
  M.pure (.inr (s2, s3, l, l)))
def za3 (s_bytes : List UInt8) (marks : Int) (lies : Bool) (place : Int) (stage : Int) : (Int × Int × Int × (List Mrk)) -> M ((Int × Int × Int × (List Mrk)) ⊕ (Int × Int × (List Mrk) × (List Mrk))) := fun (aj, ak, k2, l7) =>
  bif ((decide (0 < k2)) && (decide ((l7.length : Int) < marks))) then (
  M.bind (zad s_bytes aj ak 2) fun (aa, au, av) =>
  M.bind (zad s_bytes au av 20) fun (ab, aw, ax) =>
  M.grd (decide ((-9223372036854775808 : Int) <= (aa * ab)) && decide ((aa * ab) <= (9223372036854775807 : Int))) <|
  M.grd (decide ((-9223372036854775808 : Int) <= (place + (aa * ab))) && decide ((place + (aa * ab)) <= (9223372036854775807 : Int))) <|
  M.bind (zad s_bytes aw ax 9) fun (ac, ay, az) =>
  M.grd (decide ((-9223372036854775808 : Int) <= (stage - ac)) && decide ((stage - ac) <= (9223372036854775807 : Int))) <|
  M.bind (zad s_bytes ay az 9) fun (ae, am, ao) =>
  M.grd (decide ((-9223372036854775808 : Int) <= (stage + ae)) && decide ((stage + ae) <= (9223372036854775807 : Int))) <|
  bif lies then (
  M.bind (zad s_bytes am ao 3) fun (aA, ap, aq) =>
  bif (lies && (aA == 0)) then (
  M.bind (zaf s_bytes ap aq 50 420) fun (ag, aB, aC) =>
  M.bind (zad s_bytes aB aC 9) fun (ai, aD, aE) =>
  M.grd (decide ((-9223372036854775808 : Int) <= (ag + ai)) && decide ((ag + ai) <= (9223372036854775807 : Int))) <|
  M.grd (decide ((l7.length + ([(⟨(place + (aa * ab) : Int), (ag : Int), (ag + ai : Int)⟩ : Mrk)]).length) * 24 <= 140737488355328)) <|
  M.grd (decide ((-9223372036854775808 : Int) <= (k2 - 1)) && decide ((k2 - 1) <= (9223372036854775807 : Int))) <|
  M.pure (.inl (aD, aE, k2 - 1, l7 ++ ([(⟨(place + (aa * ab) : Int), (ag : Int), (ag + ai : Int)⟩ : Mrk)]))))
  else (
  M.grd (decide ((l7.length + ([(⟨(place + (aa * ab) : Int), (max 0 (stage - ac) : Int), (stage + ae : Int)⟩ : Mrk)]).length) * 24 <= 140737488355328)) <|
  M.grd (decide ((-9223372036854775808 : Int) <= (k2 - 1)) && decide ((k2 - 1) <= (9223372036854775807 : Int))) <|
  M.pure (.inl (ap, aq, k2 - 1, l7 ++ ([(⟨(place + (aa * ab) : Int), (max 0 (stage - ac) : Int), (stage + ae : Int)⟩ : Mrk)])))))
  else (
  M.grd (decide ((l7.length + ([(⟨(place + (aa * ab) : Int), (max 0 (stage - ac) : Int), (stage + ae : Int)⟩ : Mrk)]).length) * 24 <= 140737488355328)) <|
  M.grd (decide ((-9223372036854775808 : Int) <= (k2 - 1)) && decide ((k2 - 1) <= (9223372036854775807 : Int))) <|
  M.pure (.inl (am, ao, k2 - 1, l7 ++ ([(⟨(place + (aa * ab) : Int), (max 0 (stage - ac) : Int), (stage + ae : Int)⟩ : Mrk)])))))
  else (
  M.pure (.inr (aj, ak, l7, l7)))
def zbI (s_bytes : List UInt8) (marks : Int) (lies : Bool) (place : Int) (stage : Int) (n : Int) (l9 : List Sect) (ac : List Mrk) (ae : List Int) (ag : List Int) (l3 : List FRow) (ai : Int) (aj : Int) (ak : Int) : M ((Int × Int × Int × Int × Int × (List Sect) × (List Mrk) × (List Int) × (List Int)) ⊕ (Int × Int × (List Sect) × (List Mrk) × (List Int) × (List Int) × (List Int) × (List Int) × (List Mrk) × (List Sect))) :=
  M.bind (zad s_bytes aj ak 3) fun (am, ao, ap) =>
  M.bind (M.iter (za3 s_bytes marks lies place stage) (ao, ap, am, ac)) fun (aq, au, l5, l8) =>
  M.bind (zaf s_bytes aq au 21 200) fun (aa, av, aw) =>
  M.grd (decide ((-9223372036854775808 : Int) <= (place + aa)) && decide ((place + aa) <= (9223372036854775807 : Int))) <|
  M.bind (zad s_bytes av aw 20) fun (ab, ax, ay) =>
  M.grd (decide ((-9223372036854775808 : Int) <= (stage - ab)) && decide ((stage - ab) <= (9223372036854775807 : Int))) <|
  M.grd (decide ((-9223372036854775808 : Int) <= (n - 1)) && decide ((n - 1) <= (9223372036854775807 : Int))) <|
  M.pure (.inl (ax, ay, place + aa, stage - ab, n - 1, l9 ++ ([(⟨(place : Int), l3⟩ : Sect)]), l8, ae ++ ([(stage : Int)]), ag ++ ([(ai : Int)])))
def zaY (s_bytes : List UInt8) (marks : Int) (lies : Bool) : (Int × Int × Int × Int × Int × (List Sect) × (List Mrk) × (List Int) × (List Int)) -> M ((Int × Int × Int × Int × Int × (List Sect) × (List Mrk) × (List Int) × (List Int)) ⊕ (Int × Int × (List Sect) × (List Mrk) × (List Int) × (List Int) × (List Int) × (List Int) × (List Mrk) × (List Sect))) := fun (ae, ag, place, stage, n, l9, ac, aa, ab) =>
  bif decide (0 < n) then (
  M.bind (zad s_bytes ae ag 60) fun (r5, aj, ak) =>
  M.bind (zad s_bytes aj ak 50) fun (r6, am, ao) =>
  M.bind (zaf s_bytes am ao 2 4) fun (r7, ap, aq) =>
  M.bind (M.iter (za5 s_bytes) (ap, aq, r5, r6, r7, [])) fun (s5, s6, l2, l3) =>
  M.grd (decide ((l9.length + ([(⟨(place : Int), l3⟩ : Sect)]).length) * 32 <= 140737488355328)) <|
  M.grd (decide ((aa.length + ([(stage : Int)]).length) * 8 <= 140737488355328)) <|
  M.bind (zaf s_bytes s5 s6 30 90) fun (ai, au, av) =>
  M.grd (decide ((ab.length + ([(ai : Int)]).length) * 8 <= 140737488355328)) <|
  zbI s_bytes marks lies place stage n l9 ac aa ab l3 ai au av)
  else (
  M.pure (.inr (ae, ag, l9, ac, aa, ab, ab, aa, ac, l9)))
def zaT (s_bytes : List UInt8) (ab : List Int) (ae : List Sect) : (Int × Int × Int × (List Rch)) -> M ((Int × Int × Int × (List Rch)) ⊕ ((List Rch) × (List Rch) × Int × Int)) := fun (ak, am, n2, ag) =>
  bif decide (0 < n2) then (
  M.bind (zad s_bytes ak am ((ae.length : Int) - 1)) fun (aa, ap, aq) =>
  M.bind (zad s_bytes ap aq 4) fun (ao, au, av) =>
  M.grd (decide ((-9223372036854775808 : Int) <= (((ae.length : Int) - 1) - aa)) && decide ((((ae.length : Int) - 1) - aa) <= (9223372036854775807 : Int))) <|
  M.bind (zaf s_bytes au av 1 (((ae.length : Int) - 1) - aa)) fun (ac, aw, ax) =>
  M.grd (decide ((-9223372036854775808 : Int) <= (aa + ac)) && decide ((aa + ac) <= (9223372036854775807 : Int))) <|
  M.grd (decide ((0 : Int) <= aa) && decide (aa < (ab.length : Int))) <|
  M.grd (decide ((0 : Int) <= (aa + ac)) && decide ((aa + ac) < (ab.length : Int))) <|
  M.bind (zad s_bytes aw ax 8) fun (ai, ay, az) =>
  M.grd (decide ((-9223372036854775808 : Int) <= ((min (ab.getD (Int.toNat aa) 0) (ab.getD (Int.toNat (aa + ac)) 0)) - ai)) && decide (((min (ab.getD (Int.toNat aa) 0) (ab.getD (Int.toNat (aa + ac)) 0)) - ai) <= (9223372036854775807 : Int))) <|
  M.bind (zad s_bytes ay az 8) fun (aj, aA, aB) =>
  M.grd (decide ((-9223372036854775808 : Int) <= ((max (ab.getD (Int.toNat aa) 0) (ab.getD (Int.toNat (aa + ac)) 0)) + aj)) && decide (((max (ab.getD (Int.toNat aa) 0) (ab.getD (Int.toNat (aa + ac)) 0)) + aj) <= (9223372036854775807 : Int))) <|
  M.grd (decide ((ag.length + ([(⟨(aa : Int), (aa + ac : Int), ((min (ab.getD (Int.toNat aa) 0) (ab.getD (Int.toNat (aa + ac)) 0)) - ai : Int), ((max (ab.getD (Int.toNat aa) 0) (ab.getD (Int.toNat (aa + ac)) 0)) + aj : Int), (ao == 0)⟩ : Rch)]).length) * 40 <= 140737488355328)) <|
  M.grd (decide ((-9223372036854775808 : Int) <= (n2 - 1)) && decide ((n2 - 1) <= (9223372036854775807 : Int))) <|
  M.pure (.inl (aA, aB, n2 - 1, ag ++ ([(⟨(aa : Int), (aa + ac : Int), ((min (ab.getD (Int.toNat aa) 0) (ab.getD (Int.toNat (aa + ac)) 0)) - ai : Int), ((max (ab.getD (Int.toNat aa) 0) (ab.getD (Int.toNat (aa + ac)) 0)) + aj : Int), (ao == 0)⟩ : Rch)]))))
  else (
  M.pure (.inr (ag, ag, ak, am)))
def zaE (s_bytes : List UInt8) (ac : Int) (ae : Int) (aa : List Int) (ag : List Int) (ab : List Sect) (ai : List Mrk) : M ((List Sect) × (List Mrk) × (List Rch) × (List Int) × (List Int) × Int × Int) :=
  M.bind (zaf s_bytes ac ae 1 4) fun (aj, ak, am) =>
  M.bind (M.iter (zaT s_bytes aa ab) (ak, am, aj, [])) fun (au, ao, ap, aq) =>
  M.pure (ab, ai, ao, ag, aa, ap, aq)
def zbp (s_bytes : List UInt8) (s_used : Int) (s_mix : Int) (marks : Int) (lies : Bool) : M ((List Sect) × (List Mrk) × (List Rch) × (List Int) × (List Int) × Int × Int) :=
  M.bind (zad s_bytes s_used s_mix 50) fun (r2, q1, q2) =>
  M.bind (zaf s_bytes q1 q2 100 400) fun (r3, aj, ak) =>
  M.bind (zaf s_bytes aj ak 2 5) fun (r4, am, ao) =>
  M.bind (M.iter (zaY s_bytes marks lies) (am, ao, r2, r3, r4, [], [], [], [])) fun (ae, ag, ap, aq, au, av, ai, aa, ac, ab) =>
  bif (ac.length : Int) == 0 then (
  M.grd (decide (0 < (ab.length : Int))) <|
  M.grd (decide (0 < (aa.length : Int))) <|
  M.grd (decide ((-9223372036854775808 : Int) <= ((aa.getD 0 0) - 5)) && decide (((aa.getD 0 0) - 5) <= (9223372036854775807 : Int))) <|
  M.grd (decide ((-9223372036854775808 : Int) <= ((aa.getD 0 0) + 5)) && decide (((aa.getD 0 0) + 5) <= (9223372036854775807 : Int))) <|
  M.grd (decide ((ac.length + ([(⟨((ab.getD 0 default).place : Int), ((aa.getD 0 0) - 5 : Int), ((aa.getD 0 0) + 5 : Int)⟩ : Mrk)]).length) * 24 <= 140737488355328)) <|
  zaE s_bytes ae ag ai aa ab (ac ++ ([(⟨((ab.getD 0 default).place : Int), ((aa.getD 0 0) - 5 : Int), ((aa.getD 0 0) + 5 : Int)⟩ : Mrk)])))
  else (
  zaE s_bytes ae ag ai aa ab ac)
theorem zc4 {R : List Chunk} {ae : Nat} {cd : Cells} {aQ : Value} (s_bytes : List UInt8) (s_used : Int) (s_mix : Int) (marks : Int) (lies : Bool) (aw : Reads R cd) (ax : Sl cd aQ s_bytes) {r : ((List Sect) × (List Mrk) × (List Rch) × (List Int) × (List Int) × Int × Int)} (hM : (zbp s_bytes s_used s_mix marks lies).Ends r) (w : World) (H : St w w [cBlk ae [aQ, I s_used, I s_mix] 68] R) : Ret Try.prog 5 #[Pq ae, I marks, B lies] w fun v w' => ∃ (y0 : List Sect) (y1 : List Mrk) (y2 : List Rch) (y3 : List Int) (y4 : List Int) (y5 : Int) (y6 : Int) (u0 : Value) (rr1 : List (Raw 1)) (ce : Base) (u3 : Value) (u4 : Value) (u5 : Value) (u6 : Value), (y0, y1, y2, y3, y4, y5, y6) = r /\ v = .tuple #[.agg #[u0, u3, u4], .agg #[u5, u6]] /\ St w w' [cOwn (α := Raw 1) 39 u0 rr1, cRo ce, cOwn (α := Mrk) 46 u3 y1, cOwn (α := Rch) 56 u4 y2, cOwn (α := Int) 3 u5 y3, cOwn (α := Int) 3 u6 y4, cBlk ae [aQ, I y5, I y6] 68] R /\ RepR (α := Sect) ce.cells rr1 y0 := by
 refine ret_of_W Try.func5 rfl rfl rfl ?_
 refine W.seq ?_
 refine W.region rfl ?_
 refine t_alloc (cs := [.slice none 0 0, .slice none 0 0, .slice none 0 0]) H Al27 rfl ?_
 intro aG gE H
 refine t_alloc (cs := [.slice none 0 0, .slice none 0 0]) H Al30 rfl ?_
 intro aH gF H
 refine s_nil ?_
 refine W.seq ?_
 refine W.region rfl ?_
 refine t_alloc (cs := [.slice none 0 0, .slice none 0 0, .slice none 0 0]) H Al27 rfl ?_
 intro ag gG H
 refine s_nil ?_
 refine W.seq ?_
 refine W.region rfl ?_
 refine t_alloc (cs := [.slice none 0 0, .slice none 0 0]) H Al30 rfl ?_
 intro ak gH H
 refine s_nil ?_
 refine W.seq ?_
 refine W.region rfl ?_
 refine zM (Pq ae) rfl ?_
 obtain ⟨gI, cO, hM⟩ := M.e_bind hM
 refine s_call cf9 [Pq ae, I 50] rfl (zae s_bytes s_used s_mix 50 (aw.app _) ax cO _ ((H.pk [4, 0, 1, 2, 3]).gt 4)) ?_
 rintro vq gJ ⟨r2, q1, q2, cP, hvq, ac⟩
 subst cP
 subst vq
 try dsimp only at hM
 replace H := H.pk [4, 0, 1, 2, 3] |>.bk ac
 clear ac
 refine zM (Pq ae) rfl ?_
 obtain ⟨gK, cQ, hM⟩ := M.e_bind hM
 refine s_call cf17 [Pq ae, I 100, I 400] rfl (zah s_bytes q1 q2 100 400 (aw.app _) ax cQ _ (H.gt 4)) ?_
 rintro vq gL ⟨r3, cR, cS, cT, hvq, ac⟩
 subst cT
 subst vq
 try dsimp only at hM
 replace H := H.bk ac
 clear ac
 refine zA (I r2) rfl ?_
 refine zA (I r3) rfl ?_
 refine s_nil ?_
 refine W.seq ?_
 refine W.seq ?_
 refine W.region rfl ?_
 refine zM (Pq ae) rfl ?_
 obtain ⟨gM, cU, hM⟩ := M.e_bind hM
 refine s_call cf17 [Pq ae, I 2, I 5] rfl (zah s_bytes cR cS 2 5 (aw.app _) ax cU _ (H.gt 4)) ?_
 rintro vq gN ⟨r4, cV, cW, cX, hvq, ac⟩
 subst cX
 subst vq
 try dsimp only at hM
 replace H := H.bk ac
 clear ac
 refine zA (I r4) rfl ?_
 refine s_nil ?_
 refine W.block ?_
 obtain ⟨cf, H⟩ := H.emptyE
 replace H := H.nilOwn (α := Raw 1) 39
 have cY : RepR (α := Sect) (n := 1) cf.cells [] [] := .nil
 replace H := H.nilOwn (α := Mrk) 46
 replace H := H.nilOwn (α := Int) 3
 replace H := H.nilOwn (α := Int) 3
 obtain ⟨cZ, bH, c8⟩ := M.e_bind hM
 obtain ⟨bI, bH⟩ := M.e_iter bH
 refine W.loop (fun m σ W => ∃ (a6 : Int) (a7 : Int) (place : Int) (stage : Int) (n : Int) (l9 : List Sect) (aK : List Mrk) (aj : List Int) (ab : List Int) (am : Value) (aO : Value) (ao : Value) (ap : Value) (aC : List (Raw 1)) (B_l9 : Base) (ρ : Env), σ = upds ρ [(0, Pq ae), (1, I marks), (2, B lies), (6, Pq aG), (7, Pq aH), (8, Pq ag), (9, Pq ak), (10, I place), (11, I stage), (12, I n)] /\ M.iterN (zaY s_bytes marks lies) m (a6, a7, place, stage, n, l9, aK, aj, ab) = some cZ /\ St w W [cOwn (α := Int) 3 ap ab, cOwn (α := Int) 3 ao aj, cOwn (α := Mrk) 46 aO aK, cOwn (α := Raw 1) 39 am aC, cRo B_l9, cBlk ae [aQ, I a6, I a7] 68, cBlk ak [ao, ap] 30, cBlk ag [am, aO, .slice none 0 0] 27, cBlk aH [.slice none 0 0, .slice none 0 0] 30, cBlk aG [.slice none 0 0, .slice none 0 0, .slice none 0 0] 27] R /\ RepR (α := Sect) B_l9.cells aC l9) ?_ ?_
 ·exact ⟨_, cV, cW, r2, r3, r4, [], [], [], [], (.slice none 0 0), (.slice none 0 0), (.slice none 0 0), (.slice none 0 0), [], cf, _, upds_of _ _ ⟨rfl, rfl, rfl, rfl, rfl, rfl, rfl, rfl, rfl, rfl, trivial⟩, bH, H, cY⟩
 rintro gO σ gP ⟨a6, a7, place, stage, n, l9, aK, aj, ab, am, aO, ao, ap, aC, B_l9, ρ, rfl, cg, H, aB⟩
 obtain ⟨c9, da, db, hM, cj⟩ := M.e_iterN cg
 simp only [zaY] at hM
 clear cg
 refine W.seq ?_
 refine W.seq ?_
 refine W.region rfl ?_
 refine zM (I n) rfl ?_
 refine zC n 0 (decide (0 < n)) rfl rfl rfl ?_
 refine s_nil ?_
 refine W.cond (decide (0 < n)) rfl (fun bn => ?_) (fun bn => ?_)
 ·replace hM := M.e_t hM bn
  simp only [qy1, qy2, qy3, qy4, qy5, qy6, ne_eq, qy7] at bn
  refine W.skip ?_
  refine W.seq ?_
  refine W.block ?_
  refine W.seq ?_
  refine W.region rfl ?_
  refine zM (I place) rfl ?_
  refine s_val (x_bld (ps := [(0, I place)]) (zs := [I 0, .slice none 0 0]) (L' := [I place, .slice none 0 0]) rfl Try.underlying39 Al39 rfl (Bd39 Try.underlying39) (.cons (cs := [I place]) rfl rfl rfl rfl rfl <| .nil)) ?_
  refine t_alloc (cs := [I 0, .slice none 0 0]) H Al39 rfl ?_
  intro aV gQ H
  refine t_sw 0 0 [I place, .slice none 0 0] (.agg #[I place, .slice none 0 0]) H rfl rfl Sz39 rfl rfl rfl rfl ?_
  intro gR H
  refine s_nil ?_
  refine W.seq ?_
  refine W.region rfl ?_
  refine zM (Pq ae) rfl ?_
  obtain ⟨gS, dc, hM⟩ := M.e_bind hM
  refine s_call cf9 [Pq ae, I 60] rfl (zae s_bytes a6 a7 60 (aw.app _) ax dc _ ((H.pk [6, 0, 1, 2, 3, 4, 5, 7, 8, 9, 10]).gt 10)) ?_
  rintro vq gT ⟨r5, dd, de, dg, hvq, ac⟩
  subst dg
  subst vq
  try dsimp only at hM
  replace H := H.pk [6, 0, 1, 2, 3, 4, 5, 7, 8, 9, 10] |>.bk ac
  clear ac
  refine zM (Pq ae) rfl ?_
  obtain ⟨gU, dh, hM⟩ := M.e_bind hM
  refine s_call cf9 [Pq ae, I 50] rfl (zae s_bytes dd de 50 (aw.app _) ax dh _ (H.gt 10)) ?_
  rintro vq gV ⟨r6, di, dj, dk, hvq, ac⟩
  subst dk
  subst vq
  try dsimp only at hM
  replace H := H.bk ac
  clear ac
  refine zA (I r5) rfl ?_
  refine zA (I r6) rfl ?_
  refine s_nil ?_
  refine W.seq ?_
  refine W.seq ?_
  refine W.region rfl ?_
  refine zM (Pq ae) rfl ?_
  obtain ⟨gW, dm, hM⟩ := M.e_bind hM
  refine s_call cf17 [Pq ae, I 2, I 4] rfl (zah s_bytes di dj 2 4 (aw.app _) ax dm _ (H.gt 10)) ?_
  rintro vq gX ⟨r7, dp, dq, dr, hvq, ac⟩
  subst dr
  subst vq
  try dsimp only at hM
  replace H := H.bk ac
  clear ac
  refine zA (I r7) rfl ?_
  refine s_nil ?_
  refine W.block ?_
  replace H := H.nilOwn (α := FRow) 41
  obtain ⟨dt, bJ, dv⟩ := M.e_bind hM
  obtain ⟨bI, bJ⟩ := M.e_iter bJ
  refine W.loop (fun m σ W => ∃ (s2 : Int) (s3 : Int) (s4 : Int) (carry : Int) (k : Int) (l : List FRow) (aP : Value) (ρ : Env), σ = upds ρ [(0, Pq ae), (1, I marks), (2, B lies), (6, Pq aG), (7, Pq aH), (8, Pq ag), (9, Pq ak), (10, I place), (11, I stage), (12, I n), (13, Pq aV), (14, I s4), (15, I carry), (16, I k)] /\ M.iterN (za5 s_bytes) m (s2, s3, s4, carry, k, l) = some dt /\ St w W [cOwn (α := FRow) 41 aP l, cBlk ae [aQ, I s2, I s3] 68, cBlk aV [I place, aP] 39, cOwn (α := Int) 3 ap ab, cOwn (α := Int) 3 ao aj, cOwn (α := Mrk) 46 aO aK, cOwn (α := Raw 1) 39 am aC, cRo B_l9, cBlk ak [ao, ap] 30, cBlk ag [am, aO, .slice none 0 0] 27, cBlk aH [.slice none 0 0, .slice none 0 0] 30, cBlk aG [.slice none 0 0, .slice none 0 0, .slice none 0 0] 27] R) ?_ ?_
  ·exact ⟨_, dp, dq, r5, r6, r7, [], (.slice none 0 0), _, upds_of _ _ ⟨rfl, rfl, rfl, rfl, rfl, rfl, rfl, rfl, rfl, rfl, rfl, rfl, rfl, rfl, trivial⟩, bJ, H⟩
  rintro gY σ gZ ⟨s2, s3, s4, carry, k, l, aP, ρ, rfl, ck, H⟩
  obtain ⟨dw, dx, g0, hM, cn⟩ := M.e_iterN ck
  simp only [za5] at hM
  clear ck
  refine W.seq ?_
  refine W.seq ?_
  refine W.region rfl ?_
  refine zM (I k) rfl ?_
  refine zC k 0 (decide (0 < k)) rfl rfl rfl ?_
  refine s_nil ?_
  refine W.cond (decide (0 < k)) rfl (fun bo => ?_) (fun bo => ?_)
  ·replace hM := M.e_t hM bo
   simp only [qy1, qy2, qy3, qy4, qy5, qy6, ne_eq, qy7] at bo
   refine W.skip ?_
   refine W.seq ?_
   refine W.block ?_
   refine W.seq ?_
   refine W.region rfl ?_
   refine s_val (x_fa (a := Pq aV) (v := Oq aV 1) rfl (fa_blk (o := 0) Fd39_1 Sz37)) ?_
   refine s_val (x_ld (p := Oq aV 1) (v := aP) rfl (ldb_sc Sc37 (H.bl 2) rfl)) ?_
   refine zM (I s4) rfl ?_
   refine zM (I carry) rfl ?_
   refine s_val (x_bld (ps := [(0, I s4), (1, I carry)]) (zs := [I 0, I 0]) (L' := [I s4, I carry]) rfl Try.underlying41 Al41 rfl (Bd41 Try.underlying41) (.cons (cs := [I s4]) rfl rfl rfl rfl rfl <| .cons (cs := [I carry]) rfl rfl rfl rfl rfl <| .nil)) ?_
   refine t_bs (α := FRow) T37 [.agg #[I s4, I carry]] [(⟨(s4 : Int), (carry : Int)⟩ : FRow)] H rfl (.cons rfl (Flat.rep_enc _ (⟨(s4 : Int), (carry : Int)⟩ : FRow)) <| .nil) rfl rfl rfl ?_
   intro dy hG H
   obtain ⟨dz, hM⟩ := M.e_grd hM
   simp only [Bool.and_eq_true, decide_eq_true_eq] at dz
   refine t_app (α := FRow) (k := 1) (l := l) (l2 := [(⟨(s4 : Int), (carry : Int)⟩ : FRow)]) (l' := l ++ ([(⟨(s4 : Int), (carry : Int)⟩ : FRow)])) (vy := dy) T37 rfl H rfl rfl rfl (H.os 0) (H.ol 0) (rfl) (by first | omega | (simp only [List.length_nil] at *; omega)) ?_
   intro bK hO H
   replace H := H.nf
   refine s_val (x_fa (a := Pq aV) (v := Oq aV 1) rfl (fa_blk (o := 0) Fd39_1 Sz37)) ?_
   refine t_sw 3 1 [bK] bK H rfl rfl Sz37 (Sl.cells (H.os 1)) rfl rfl (by simp only [List.all_cons, List.all_nil, Bool.true_and, Bool.and_true, Sl.oc (H.os 1)]; try rfl) ?_
   intro hP H
   refine s_nil ?_
   refine W.region rfl ?_
   refine zM (I s4) rfl ?_
   refine zM (Pq ae) rfl ?_
   obtain ⟨hZ, dA, hM⟩ := M.e_bind hM
   refine s_call cf17 [Pq ae, I 1, I 200] rfl (zah s_bytes s2 s3 1 200 (aw.app _) ax dA _ ((H.pk [2, 0, 1, 3, 4, 5, 6, 7, 8, 9, 10, 11, 12]).gt 12)) ?_
   rintro vq h9 ⟨r8, dB, dC, dD, hvq, ac⟩
   subst dD
   subst vq
   try dsimp only at hM
   replace H := H.pk [2, 0, 1, 3, 4, 5, 6, 7, 8, 9, 10, 11, 12] |>.bk ac
   clear ac
   obtain ⟨dE, hM⟩ := M.e_grd hM
   simp only [Bool.and_eq_true, decide_eq_true_eq] at dE
   refine zR s4 r8 (s4 + r8) rfl rfl rfl (by omega) ?_
   refine zM (I carry) rfl ?_
   refine zM (Pq ae) rfl ?_
   obtain ⟨ia, dF, hM⟩ := M.e_bind hM
   refine s_call cf9 [Pq ae, I 2000] rfl (zae s_bytes dB dC 2000 (aw.app _) ax dF _ (H.gt 12)) ?_
   rintro vq ib ⟨r9, dG, dH, dI, hvq, ac⟩
   subst dI
   subst vq
   try dsimp only at hM
   replace H := H.bk ac
   clear ac
   obtain ⟨dJ, hM⟩ := M.e_grd hM
   simp only [Bool.and_eq_true, decide_eq_true_eq] at dJ
   refine zR carry r9 (carry + r9) rfl rfl rfl (by omega) ?_
   refine zA (I (s4 + r8)) rfl ?_
   refine zA (I (carry + r9)) rfl ?_
   refine s_nil ?_
   refine W.region rfl ?_
   refine zM (I k) rfl ?_
   obtain ⟨dK, hM⟩ := M.e_grd hM
   simp only [Bool.and_eq_true, decide_eq_true_eq] at dK
   refine zR k 1 (k - 1) rfl rfl rfl (by omega) ?_
   refine zA (I (k - 1)) rfl ?_
   refine s_nil ?_
   exact ⟨dw, dx, dG, dH, s4 + r8, carry + r9, k - 1, l ++ ([(⟨(s4 : Int), (carry : Int)⟩ : FRow)]), bK, _, upds_of _ _ ⟨rfl, rfl, rfl, rfl, rfl, rfl, rfl, rfl, rfl, rfl, rfl, rfl, rfl, rfl, trivial⟩, M.e_inl hM cn, (H.pk [2, 0, 3, 4, 5, 6, 7, 8, 9, 10, 11, 12])⟩
  replace hM := M.e_f hM bo
  simp only [qy1, qy2, qy3, qy4, qy5, qy6, ne_eq, qy7] at bo
  refine W.exit ?_
  have dL := M.e_inr hM cn
  subst dL
  replace hM := dv
  try dsimp only at hM
  refine W.seqJ (fun σ W => ∃ (av : Int) (aW : Int) (aX : Int) (co : Value) (cp : Value) (aR : Base) (cq : Value) (bL : List (Raw 1)) (aY : Base) (bg : Base) (bh : Base) (a8 : Value) (ba : Value) (bb : Value) (bi : List (Raw 1)) (ρ : Env), σ = upds ρ [(0, Pq ae), (1, I marks), (2, B lies), (6, Pq aG), (7, Pq aH), (8, Pq ag), (9, Pq ak), (10, I place), (11, I stage), (12, I n)] /\ (zbI s_bytes marks lies place stage n l9 aK aj ab l av aW aX).Ends db /\ St w W [cOwn (α := Int) 3 co ([(av : Int)]), cBlk ae [aQ, I aW, I aX] 68, cOwn (α := Int) 3 cp ([(stage : Int)]), cRo aR, cOwn (α := Raw 1) 39 cq bL, cRo aY, cRo bg, cRo bh, cBlk aV [I place, aP] 39, cOwn (α := Int) 3 a8 (ab ++ ([(av : Int)])), cOwn (α := Int) 3 ba (aj ++ ([(stage : Int)])), cOwn (α := Mrk) 46 aO aK, cOwn (α := Raw 1) 39 bb bi, cRo B_l9, cBlk ak [ba, a8] 30, cBlk ag [bb, aO, .slice none 0 0] 27, cBlk aH [.slice none 0 0, .slice none 0 0] 30, cBlk aG [.slice none 0 0, .slice none 0 0, .slice none 0 0] 27] R /\ RepR (α := Sect) aY.cells bL ([(⟨(place : Int), l⟩ : Sect)]) /\ RepR (α := Sect) aR.cells bi (l9 ++ ([(⟨(place : Int), l⟩ : Sect)]))) ?_ ?_
  ·skip
   refine W.drawTS (fun W => St w W [cBlk aV [I place, aP] 39, cOwn (α := Mrk) 46 aO aK, cRo B_l9, cBlk ak [ao, ap] 30, cBlk ag [am, aO, .slice none 0 0] 27, cBlk aH [.slice none 0 0, .slice none 0 0] 30, cBlk aG [.slice none 0 0, .slice none 0 0, .slice none 0 0] 27] R) (.q 0 (.q 1 (.q 2 (.q 5 (.q 6 (.q 7 (.q 10 (.q 11 (.q 12 (.l2 3 (.l2 4 (.q 16 (.l 8 (.l 9 (.l 13 (.l 14 (.l 15 .nil)))))) 8 (.l 4 (.q 16 (.l 9 (.l 13 (.l 14 (.l 15 .nil))))))) 8 (.l 3 (.l 4 (.q 16 (.l 9 (.l 13 (.l 14 (.l 15 .nil))))))))))))))))) 17 [17, 18, 19, 20, 21] mixed (by decide +kernel) rfl ?_
   intro ic aI
   replace H := H.ext aI
   clear aI
   refine ⟨(H.pk [2, 5, 7, 8, 9, 10, 11]), ?_⟩
   refine ts_q rfl (fun w' H => x_fa (a := Pq ag) (v := Pq ag) rfl (fa_blk (o := 0) Fd27_0 Sz23)) ?_
   refine ts_q rfl (fun w' H => x_ld (p := Pq ag) (v := am) rfl (ldb_sc Sc23 (H.bl 4) rfl)) ?_
   refine ts_q rfl (fun w' H => x_ld (p := Pq aV) (v := .agg #[I place, aP]) rfl (ldb_ag (ds := [I place, aP]) Ag39 Sz39 (H.bl 0) rfl rfl)) ?_
   refine ts_q rfl (fun w' H => x_fa (a := Pq ak) (v := Pq ak) rfl (fa_blk (o := 0) Fd30_0 Sz28)) ?_
   refine ts_q rfl (fun w' H => x_ld (p := Pq ak) (v := ao) rfl (ldb_sc Sc28 (H.bl 3) rfl)) ?_
   refine ts_q rfl (fun w' H => x_mv (v := I stage) rfl) ?_
   refine ts_q rfl (fun w' H => x_fa (a := Pq ak) (v := Oq ak 1) rfl (fa_blk (o := 0) Fd30_1 Sz28)) ?_
   refine ts_q rfl (fun w' H => x_ld (p := Oq ak 1) (v := ap) rfl (ldb_sc Sc28 (H.bl 3) rfl)) ?_
   refine ts_q rfl (fun w' H => x_mv (v := Pq ae) rfl) ?_
   refine ts_l2 rfl rfl ?_ ?_
   ·skip
    obtain ⟨bg, H⟩ := H.emptyE
    obtain ⟨bh, H, dM⟩ := H.freezeE (k := 1) rfl
    replace H := H.nf
    have bw := dM
    obtain ⟨aY, H, ie, dN⟩ := H.joinE (i := 0) (j := 1) rfl rfl
    replace bw := bw.mono dN
    obtain ⟨aS, cr⟩ : ∃ r : Raw 1, r.cs = [I place, aP] := ⟨Raw.of [I place, aP] rfl (by simp only [List.all_cons, List.all_nil, Bool.true_and, Bool.and_true, Sl.oc bw]; try rfl), rfl⟩
    have bx : RepR (α := Sect) aY.cells [aS] [(⟨(place : Int), l⟩ : Sect)] := .cons (by rw [cr]; exact ⟨_, rfl, bw⟩) <| .nil
    refine t_bs (α := Raw 1) T23 [.agg #[I place, aP]] [aS] H rfl (.cons (by rw [show (Flat.enc aS : List Value) = aS.cs from rfl, cr]; rfl) (Flat.rep_enc _ _) <| .nil) rfl rfl rfl ?_
    intro bz ig H
    replace H := H.nf
    have ii := Sl.cells (H.os 0)
    have ij := Sl.oc (H.os 0)
    have ik := Sl.cells (H.os 6)
    have il := Sl.oc (H.os 6)
    have im := Sl.cells (H.os 7)
    have io := Sl.oc (H.os 7)
    have iq := Sl.cells (H.os 9)
    have ir := Sl.oc (H.os 9)
    refine s_nil ⟨(H.pk [5, 8, 10, 11, 12, 13, 14]), ?_⟩
    refine ts_l2 rfl rfl ?_ ?_
    ·skip
     obtain ⟨dO, hM⟩ := M.e_grd hM
     simp only [Bool.and_eq_true, decide_eq_true_eq] at dO
     have bA := bx
     obtain ⟨aR, H, dP, dQ⟩ := H.joinE (i := 10) (j := 1) rfl rfl
     replace aB := aB.mono dP
     replace bA := bA.mono dQ
     have bM := aB.app bA
     refine t_app (α := Raw 1) (k := 10) (l := aC) (l2 := [aS]) (l' := aC ++ ([aS])) (vy := bz) T23 rfl H rfl rfl rfl (H.os 1) (H.ol 1) (rfl) (by have a_ := aB.len; have b_ := bA.len; (try simp only [List.length_nil] at *); first | omega | (rw [a_, b_]; omega)) ?_
     intro bN iw H
     replace H := H.nf
     have iy := Sl.cells (H.os 10)
     have iz := Sl.oc (H.os 10)
     refine s_nil ⟨(H.pk [6, 9, 11, 12, 13, 14, 15]), ?_⟩
     refine ts_q rfl (fun w' H => x_fa (a := Pq ag) (v := Pq ag) rfl (fa_blk (o := 0) Fd27_0 Sz23)) ?_
     refine ts_l rfl ?_
     refine t_bs (α := Int) T28 [I stage] [(stage : Int)] H rfl (.cons rfl (Flat.rep_enc _ (stage : Int)) <| .nil) rfl rfl rfl ?_
     intro ct iA H
     have iB := Sl.cells (H.os 0)
     have iC := Sl.oc (H.os 0)
     refine s_nil ⟨(H.pk [7, 10, 12, 13, 14, 15, 16]), ?_⟩
     refine ts_l rfl ?_
     obtain ⟨dR, hM⟩ := M.e_grd hM
     simp only [Bool.and_eq_true, decide_eq_true_eq] at dR
     refine t_app (α := Int) (k := 9) (l := aj) (l2 := [(stage : Int)]) (l' := aj ++ ([(stage : Int)])) (vy := ct) T28 rfl H rfl rfl rfl (H.os 0) (H.ol 0) (rfl) (by first | omega | (simp only [List.length_nil] at *; omega)) ?_
     intro bO iD H
     replace H := H.nf
     have iE := Sl.cells (H.os 9)
     have iF := Sl.oc (H.os 9)
     refine s_nil ⟨(H.pk [7, 10, 12, 13, 14, 15, 16]), ?_⟩
     refine ts_l rfl ?_
     obtain ⟨iG, dS, hM⟩ := M.e_bind hM
     refine s_call cf17 [Pq ae, I 30, I 90] rfl (zah s_bytes s2 s3 30 90 (aw.app _) ax dS _ ((H.pk [6, 0, 1, 2, 3, 4, 5, 7, 8, 9, 10, 11, 12, 13, 14, 15, 16]).gt 16)) ?_
     rintro vq iH ⟨av, aW, aX, dT, hvq, ac⟩
     subst dT
     subst vq
     try dsimp only at hM
     replace H := H.pk [6, 0, 1, 2, 3, 4, 5, 7, 8, 9, 10, 11, 12, 13, 14, 15, 16] |>.bk ac
     clear ac
     refine s_nil ⟨(H.pk [7, 10, 12, 13, 14, 15, 16]), ?_⟩
     refine ts_l rfl ?_
     refine t_bs (α := Int) T28 [I av] [(av : Int)] H rfl (.cons rfl (Flat.rep_enc _ (av : Int)) <| .nil) rfl rfl rfl ?_
     intro cu iI H
     have iJ := Sl.cells (H.os 0)
     have iK := Sl.oc (H.os 0)
     refine s_nil ⟨(H.pk [8, 11, 13, 14, 15, 16, 17]), ?_⟩
     refine ts_l rfl ?_
     obtain ⟨dU, hM⟩ := M.e_grd hM
     simp only [Bool.and_eq_true, decide_eq_true_eq] at dU
     refine t_app (α := Int) (k := 9) (l := ab) (l2 := [(av : Int)]) (l' := ab ++ ([(av : Int)])) (vy := cu) T28 rfl H rfl rfl rfl (H.os 0) (H.ol 0) (rfl) (by first | omega | (simp only [List.length_nil] at *; omega)) ?_
     intro bP iL H
     replace H := H.nf
     have iM := Sl.cells (H.os 9)
     have iN := Sl.oc (H.os 9)
     refine s_nil ⟨(H.pk [8, 11, 13, 14, 15, 16, 17]), ?_⟩
     refine ts_nil ?_
     refine sr_l rfl ?_
     refine t_sw 15 0 [bN] bN H rfl rfl Sz23 (Sl.cells (rowSl rfl (H.get (k := 12) rfl) (roLe _ (H.get (k := 3) rfl)) bM)) rfl rfl (by simp only [List.all_cons, List.all_nil, Bool.true_and, Bool.and_true, Sl.oc (rowSl rfl (H.get (k := 12) rfl) (roLe _ (H.get (k := 3) rfl)) bM)]; try rfl) ?_
     intro iO H
     refine s_nil ⟨trivial, ?_⟩
     refine sr_l rfl ?_
     refine s_val (x_fa (a := Pq ak) (v := Pq ak) rfl (fa_blk (o := 0) Fd30_0 Sz28)) ?_
     refine s_nil ⟨trivial, ?_⟩
     refine sr_l rfl ?_
     refine t_sw 14 0 [bO] bO H rfl rfl Sz28 (Sl.cells (H.os 10)) rfl rfl (by simp only [List.all_cons, List.all_nil, Bool.true_and, Bool.and_true, Sl.oc (H.os 10)]; try rfl) ?_
     intro iP H
     refine s_nil ⟨trivial, ?_⟩
     refine sr_l rfl ?_
     refine s_val (x_fa (a := Pq ak) (v := Oq ak 1) rfl (fa_blk (o := 0) Fd30_1 Sz28)) ?_
     refine s_nil ⟨trivial, ?_⟩
     refine sr_l rfl ?_
     refine t_sw 14 1 [bP] bP H rfl rfl Sz28 (Sl.cells (H.os 9)) rfl rfl (by simp only [List.all_cons, List.all_nil, Bool.true_and, Bool.and_true, Sl.oc (H.os 9)]; try rfl) ?_
     intro iQ H
     refine s_nil ⟨trivial, ?_⟩
     refine sr_nil ?_
     exact ⟨av, aW, aX, cu, ct, aR, bz, [aS], aY, bg, bh, bP, bO, bN, aC ++ ([aS]), _, upds_of _ _ ⟨rfl, rfl, rfl, rfl, rfl, rfl, rfl, rfl, rfl, rfl, trivial⟩, hM, H, bx, bM⟩
    skip
    refine t_bs (α := Int) T28 [I stage] [(stage : Int)] H rfl (.cons rfl (Flat.rep_enc _ (stage : Int)) <| .nil) rfl rfl rfl ?_
    intro cv iR H
    have iS := Sl.cells (H.os 0)
    have iT := Sl.oc (H.os 0)
    refine s_nil ⟨(H.pk [6, 9, 11, 12, 13, 14, 15]), ?_⟩
    refine ts_l rfl ?_
    obtain ⟨dV, hM⟩ := M.e_grd hM
    simp only [Bool.and_eq_true, decide_eq_true_eq] at dV
    have bB := bx
    obtain ⟨aR, H, dW, dX⟩ := H.joinE (i := 11) (j := 2) rfl rfl
    replace aB := aB.mono dW
    replace bB := bB.mono dX
    have bQ := aB.app bB
    refine t_app (α := Raw 1) (k := 11) (l := aC) (l2 := [aS]) (l' := aC ++ ([aS])) (vy := bz) T23 rfl H rfl rfl rfl (H.os 2) (H.ol 2) (rfl) (by have a_ := aB.len; have b_ := bB.len; (try simp only [List.length_nil] at *); first | omega | (rw [a_, b_]; omega)) ?_
    intro bR iU H
    replace H := H.nf
    have iV := Sl.cells (H.os 11)
    have iW := Sl.oc (H.os 11)
    refine s_nil ⟨(H.pk [7, 10, 12, 13, 14, 15, 16]), ?_⟩
    refine ts_q rfl (fun w' H => x_fa (a := Pq ag) (v := Pq ag) rfl (fa_blk (o := 0) Fd27_0 Sz23)) ?_
    refine ts_l rfl ?_
    obtain ⟨dY, hM⟩ := M.e_grd hM
    simp only [Bool.and_eq_true, decide_eq_true_eq] at dY
    refine t_app (α := Int) (k := 9) (l := aj) (l2 := [(stage : Int)]) (l' := aj ++ ([(stage : Int)])) (vy := cv) T28 rfl H rfl rfl rfl (H.os 1) (H.ol 1) (rfl) (by first | omega | (simp only [List.length_nil] at *; omega)) ?_
    intro bS iX H
    replace H := H.nf
    have iY := Sl.cells (H.os 9)
    have iZ := Sl.oc (H.os 9)
    refine s_nil ⟨(H.pk [7, 10, 12, 13, 14, 15, 16]), ?_⟩
    refine ts_l rfl ?_
    obtain ⟨i6, dZ, hM⟩ := M.e_bind hM
    refine s_call cf17 [Pq ae, I 30, I 90] rfl (zah s_bytes s2 s3 30 90 (aw.app _) ax dZ _ ((H.pk [6, 0, 1, 2, 3, 4, 5, 7, 8, 9, 10, 11, 12, 13, 14, 15, 16]).gt 16)) ?_
    rintro vq i7 ⟨av, aW, aX, d4, hvq, ac⟩
    subst d4
    subst vq
    try dsimp only at hM
    replace H := H.pk [6, 0, 1, 2, 3, 4, 5, 7, 8, 9, 10, 11, 12, 13, 14, 15, 16] |>.bk ac
    clear ac
    refine s_nil ⟨(H.pk [7, 10, 12, 13, 14, 15, 16]), ?_⟩
    refine ts_l rfl ?_
    refine t_bs (α := Int) T28 [I av] [(av : Int)] H rfl (.cons rfl (Flat.rep_enc _ (av : Int)) <| .nil) rfl rfl rfl ?_
    intro cw i8 H
    have i9 := Sl.cells (H.os 0)
    have ja := Sl.oc (H.os 0)
    refine s_nil ⟨(H.pk [8, 11, 13, 14, 15, 16, 17]), ?_⟩
    refine ts_l rfl ?_
    obtain ⟨d5, hM⟩ := M.e_grd hM
    simp only [Bool.and_eq_true, decide_eq_true_eq] at d5
    refine t_app (α := Int) (k := 9) (l := ab) (l2 := [(av : Int)]) (l' := ab ++ ([(av : Int)])) (vy := cw) T28 rfl H rfl rfl rfl (H.os 0) (H.ol 0) (rfl) (by first | omega | (simp only [List.length_nil] at *; omega)) ?_
    intro bT jb H
    replace H := H.nf
    have jc := Sl.cells (H.os 9)
    have jd := Sl.oc (H.os 9)
    refine s_nil ⟨(H.pk [8, 11, 13, 14, 15, 16, 17]), ?_⟩
    refine ts_nil ?_
    refine sr_l rfl ?_
    refine t_sw 15 0 [bR] bR H rfl rfl Sz23 (Sl.cells (rowSl rfl (H.get (k := 12) rfl) (roLe _ (H.get (k := 2) rfl)) bQ)) rfl rfl (by simp only [List.all_cons, List.all_nil, Bool.true_and, Bool.and_true, Sl.oc (rowSl rfl (H.get (k := 12) rfl) (roLe _ (H.get (k := 2) rfl)) bQ)]; try rfl) ?_
    intro je H
    refine s_nil ⟨trivial, ?_⟩
    refine sr_l rfl ?_
    refine s_val (x_fa (a := Pq ak) (v := Pq ak) rfl (fa_blk (o := 0) Fd30_0 Sz28)) ?_
    refine s_nil ⟨trivial, ?_⟩
    refine sr_l rfl ?_
    refine t_sw 14 0 [bS] bS H rfl rfl Sz28 (Sl.cells (H.os 10)) rfl rfl (by simp only [List.all_cons, List.all_nil, Bool.true_and, Bool.and_true, Sl.oc (H.os 10)]; try rfl) ?_
    intro jf H
    refine s_nil ⟨trivial, ?_⟩
    refine sr_l rfl ?_
    refine s_val (x_fa (a := Pq ak) (v := Oq ak 1) rfl (fa_blk (o := 0) Fd30_1 Sz28)) ?_
    refine s_nil ⟨trivial, ?_⟩
    refine sr_l rfl ?_
    refine t_sw 14 1 [bT] bT H rfl rfl Sz28 (Sl.cells (H.os 9)) rfl rfl (by simp only [List.all_cons, List.all_nil, Bool.true_and, Bool.and_true, Sl.oc (H.os 9)]; try rfl) ?_
    intro jg H
    refine s_nil ⟨trivial, ?_⟩
    refine sr_nil ?_
    exact ⟨av, aW, aX, cw, cv, aR, bz, [aS], aY, bg, bh, bT, bS, bR, aC ++ ([aS]), _, upds_of _ _ ⟨rfl, rfl, rfl, rfl, rfl, rfl, rfl, rfl, rfl, rfl, trivial⟩, hM, (H.pk [0, 1, 3, 2, 4, 5, 6, 7, 8, 9, 10, 11, 12, 13, 14, 15, 16, 17]), bx, bQ⟩
   skip
   refine t_bs (α := Int) T28 [I stage] [(stage : Int)] H rfl (.cons rfl (Flat.rep_enc _ (stage : Int)) <| .nil) rfl rfl rfl ?_
   intro cx jh H
   have ji := Sl.cells (H.os 0)
   have jj := Sl.oc (H.os 0)
   have jk := Sl.cells (H.os 1)
   have jl := Sl.oc (H.os 1)
   have jm := Sl.cells (H.os 4)
   have jn := Sl.oc (H.os 4)
   have jo := Sl.cells (H.os 5)
   have jp := Sl.oc (H.os 5)
   have jq := Sl.cells (H.os 7)
   have jr := Sl.oc (H.os 7)
   refine s_nil ⟨(H.pk [3, 6, 8, 9, 10, 11, 12]), ?_⟩
   refine ts_l rfl ?_
   obtain ⟨bg, H⟩ := H.emptyE
   obtain ⟨bh, H, d6⟩ := H.freezeE (k := 2) rfl
   replace H := H.nf
   have bC := d6
   obtain ⟨aY, H, js, d7⟩ := H.joinE (i := 0) (j := 2) rfl rfl
   replace bC := bC.mono d7
   obtain ⟨bc, cy⟩ : ∃ r : Raw 1, r.cs = [I place, aP] := ⟨Raw.of [I place, aP] rfl (by simp only [List.all_cons, List.all_nil, Bool.true_and, Bool.and_true, Sl.oc bC]; try rfl), rfl⟩
   have cz : RepR (α := Sect) aY.cells [bc] [(⟨(place : Int), l⟩ : Sect)] := .cons (by rw [cy]; exact ⟨_, rfl, bC⟩) <| .nil
   refine t_bs (α := Raw 1) T23 [.agg #[I place, aP]] [bc] H rfl (.cons (by rw [show (Flat.enc bc : List Value) = bc.cs from rfl, cy]; rfl) (Flat.rep_enc _ _) <| .nil) rfl rfl rfl ?_
   intro cA jt H
   replace H := H.nf
   have ju := Sl.cells (H.os 0)
   have jv := Sl.oc (H.os 0)
   refine s_nil ⟨(H.pk [6, 9, 11, 12, 13, 14, 15]), ?_⟩
   refine ts_l rfl ?_
   obtain ⟨d8, hM⟩ := M.e_grd hM
   simp only [Bool.and_eq_true, decide_eq_true_eq] at d8
   have bD := cz
   obtain ⟨aR, H, d9, ef⟩ := H.joinE (i := 11) (j := 1) rfl rfl
   replace aB := aB.mono d9
   replace bD := bD.mono ef
   have bU := aB.app bD
   refine t_app (α := Raw 1) (k := 11) (l := aC) (l2 := [bc]) (l' := aC ++ ([bc])) (vy := cA) T23 rfl H rfl rfl rfl (H.os 1) (H.ol 1) (rfl) (by have a_ := aB.len; have b_ := bD.len; (try simp only [List.length_nil] at *); first | omega | (rw [a_, b_]; omega)) ?_
   intro bV jw H
   replace H := H.nf
   have jx := Sl.cells (H.os 11)
   have jy := Sl.oc (H.os 11)
   refine s_nil ⟨(H.pk [7, 10, 12, 13, 14, 15, 16]), ?_⟩
   refine ts_q rfl (fun w' H => x_fa (a := Pq ag) (v := Pq ag) rfl (fa_blk (o := 0) Fd27_0 Sz23)) ?_
   refine ts_l rfl ?_
   obtain ⟨eg, hM⟩ := M.e_grd hM
   simp only [Bool.and_eq_true, decide_eq_true_eq] at eg
   refine t_app (α := Int) (k := 9) (l := aj) (l2 := [(stage : Int)]) (l' := aj ++ ([(stage : Int)])) (vy := cx) T28 rfl H rfl rfl rfl (H.os 4) (H.ol 4) (rfl) (by first | omega | (simp only [List.length_nil] at *; omega)) ?_
   intro bW jz H
   replace H := H.nf
   have jA := Sl.cells (H.os 9)
   have jB := Sl.oc (H.os 9)
   refine s_nil ⟨(H.pk [7, 10, 12, 13, 14, 15, 16]), ?_⟩
   refine ts_l rfl ?_
   obtain ⟨jC, ei, hM⟩ := M.e_bind hM
   refine s_call cf17 [Pq ae, I 30, I 90] rfl (zah s_bytes s2 s3 30 90 (aw.app _) ax ei _ ((H.pk [6, 0, 1, 2, 3, 4, 5, 7, 8, 9, 10, 11, 12, 13, 14, 15, 16]).gt 16)) ?_
   rintro vq jD ⟨av, aW, aX, ej, hvq, ac⟩
   subst ej
   subst vq
   try dsimp only at hM
   replace H := H.pk [6, 0, 1, 2, 3, 4, 5, 7, 8, 9, 10, 11, 12, 13, 14, 15, 16] |>.bk ac
   clear ac
   refine s_nil ⟨(H.pk [7, 10, 12, 13, 14, 15, 16]), ?_⟩
   refine ts_l rfl ?_
   refine t_bs (α := Int) T28 [I av] [(av : Int)] H rfl (.cons rfl (Flat.rep_enc _ (av : Int)) <| .nil) rfl rfl rfl ?_
   intro cB jE H
   have jF := Sl.cells (H.os 0)
   have jG := Sl.oc (H.os 0)
   refine s_nil ⟨(H.pk [8, 11, 13, 14, 15, 16, 17]), ?_⟩
   refine ts_l rfl ?_
   obtain ⟨ek, hM⟩ := M.e_grd hM
   simp only [Bool.and_eq_true, decide_eq_true_eq] at ek
   refine t_app (α := Int) (k := 9) (l := ab) (l2 := [(av : Int)]) (l' := ab ++ ([(av : Int)])) (vy := cB) T28 rfl H rfl rfl rfl (H.os 0) (H.ol 0) (rfl) (by first | omega | (simp only [List.length_nil] at *; omega)) ?_
   intro bX jH H
   replace H := H.nf
   have jI := Sl.cells (H.os 9)
   have jJ := Sl.oc (H.os 9)
   refine s_nil ⟨(H.pk [8, 11, 13, 14, 15, 16, 17]), ?_⟩
   refine ts_nil ?_
   refine sr_l rfl ?_
   refine t_sw 15 0 [bV] bV H rfl rfl Sz23 (Sl.cells (rowSl rfl (H.get (k := 12) rfl) (roLe _ (H.get (k := 2) rfl)) bU)) rfl rfl (by simp only [List.all_cons, List.all_nil, Bool.true_and, Bool.and_true, Sl.oc (rowSl rfl (H.get (k := 12) rfl) (roLe _ (H.get (k := 2) rfl)) bU)]; try rfl) ?_
   intro jK H
   refine s_nil ⟨trivial, ?_⟩
   refine sr_l rfl ?_
   refine s_val (x_fa (a := Pq ak) (v := Pq ak) rfl (fa_blk (o := 0) Fd30_0 Sz28)) ?_
   refine s_nil ⟨trivial, ?_⟩
   refine sr_l rfl ?_
   refine t_sw 14 0 [bW] bW H rfl rfl Sz28 (Sl.cells (H.os 10)) rfl rfl (by simp only [List.all_cons, List.all_nil, Bool.true_and, Bool.and_true, Sl.oc (H.os 10)]; try rfl) ?_
   intro jL H
   refine s_nil ⟨trivial, ?_⟩
   refine sr_l rfl ?_
   refine s_val (x_fa (a := Pq ak) (v := Oq ak 1) rfl (fa_blk (o := 0) Fd30_1 Sz28)) ?_
   refine s_nil ⟨trivial, ?_⟩
   refine sr_l rfl ?_
   refine t_sw 14 1 [bX] bX H rfl rfl Sz28 (Sl.cells (H.os 9)) rfl rfl (by simp only [List.all_cons, List.all_nil, Bool.true_and, Bool.and_true, Sl.oc (H.os 9)]; try rfl) ?_
   intro jM H
   refine s_nil ⟨trivial, ?_⟩
   refine sr_nil ?_
   exact ⟨av, aW, aX, cB, cx, aR, cA, [bc], aY, bg, bh, bX, bW, bV, aC ++ ([bc]), _, upds_of _ _ ⟨rfl, rfl, rfl, rfl, rfl, rfl, rfl, rfl, rfl, rfl, trivial⟩, hM, (H.pk [0, 1, 6, 2, 3, 4, 5, 7, 8, 9, 10, 11, 12, 13, 14, 15, 16, 17]), cz, bU⟩
  rintro _ jN ⟨av, aW, aX, co, cp, aR, cq, bL, aY, bg, bh, a8, ba, bb, bi, ρ, rfl, hM, H, jO, em⟩
  unfold zbI at hM
  refine W.seq ?_
  refine W.seq ?_
  refine W.region rfl ?_
  refine zM (Pq ae) rfl ?_
  obtain ⟨jP, eo, hM⟩ := M.e_bind hM
  refine s_call cf9 [Pq ae, I 3] rfl (zae s_bytes aW aX 3 (aw.app _) ax eo _ ((H.pk [1, 0, 2, 3, 4, 5, 6, 7, 8, 9, 10, 11, 12, 13, 14, 15, 16, 17]).gt 17)) ?_
  rintro vq jQ ⟨cC, ep, eq, er, hvq, ac⟩
  subst er
  subst vq
  try dsimp only at hM
  replace H := H.pk [1, 0, 2, 3, 4, 5, 6, 7, 8, 9, 10, 11, 12, 13, 14, 15, 16, 17] |>.bk ac
  clear ac
  refine zA (I cC) rfl ?_
  refine s_nil ?_
  replace H := H.pk [0, 3, 9, 10, 11, 12, 13, 14, 15, 16, 17]
  refine W.block ?_
  obtain ⟨ew, bY, ey⟩ := M.e_bind hM
  obtain ⟨bI, bY⟩ := M.e_iter bY
  refine W.loop (fun m σ W => ∃ (bp : Int) (bq : Int) (k2 : Int) (l7 : List Mrk) (aU : Value) (ρ : Env), σ = upds ρ [(0, Pq ae), (1, I marks), (2, B lies), (6, Pq aG), (7, Pq aH), (8, Pq ag), (9, Pq ak), (10, I place), (11, I stage), (12, I n), (17, I k2)] /\ M.iterN (za3 s_bytes marks lies place stage) m (bp, bq, k2, l7) = some ew /\ St w W [cBlk ae [aQ, I bp, I bq] 68, cRo aR, cOwn (α := Int) 3 a8 (ab ++ ([(av : Int)])), cOwn (α := Int) 3 ba (aj ++ ([(stage : Int)])), cOwn (α := Mrk) 46 aU l7, cOwn (α := Raw 1) 39 bb bi, cRo B_l9, cBlk ak [ba, a8] 30, cBlk ag [bb, aU, .slice none 0 0] 27, cBlk aH [.slice none 0 0, .slice none 0 0] 30, cBlk aG [.slice none 0 0, .slice none 0 0, .slice none 0 0] 27] R) ?_ ?_
  ·exact ⟨_, ep, eq, cC, aK, aO, _, upds_of _ _ ⟨rfl, rfl, rfl, rfl, rfl, rfl, rfl, rfl, rfl, rfl, rfl, trivial⟩, bY, H⟩
  rintro jR σ jS ⟨bp, bq, k2, l7, aU, ρ, rfl, cD, H⟩
  obtain ⟨bZ, b3, jT, hM, bE⟩ := M.e_iterN cD
  simp only [za3] at hM
  clear cD
  refine W.seq ?_
  refine W.seq ?_
  refine W.region rfl ?_
  refine zM (I k2) rfl ?_
  refine zC k2 0 (decide (0 < k2)) rfl rfl rfl ?_
  refine zM (B (decide (0 < k2))) rfl ?_
  refine g_val (decide (0 < k2)) (gy_t rfl) (fun hg => x_fa (a := Pq ag) (v := Oq ag 1) rfl (fa_blk (o := 0) Fd27_1 Sz24)) ?_
  refine g_val (decide (0 < k2)) (gy_t rfl) (fun hg => x_ld (p := Oq ag 1) (v := aU) (gd_of (c := decide (0 < k2)) hg (Oq ag 1)) (ldb_sc Sc24 (H.bl 8) rfl)) ?_
  refine g_val (decide (0 < k2)) (gy_t rfl) (fun hg => x_lenS T24.und (gd_of (c := decide (0 < k2)) hg (aU)) (H.os 4)) ?_
  refine g_val (decide (0 < k2)) (gy_t rfl) (fun hg => x_mv (v := I marks) rfl) ?_
  refine g_val (decide (0 < k2)) (gy_t rfl) (fun hg => x_cmp (kd := .i64) (a := (l7.length : Int)) (b := marks) (r := decide ((l7.length : Int) < marks)) (gd_of (c := decide (0 < k2)) hg (I (l7.length : Int))) (gd_of (c := decide (0 < k2)) hg (I marks)) rfl) ?_
  refine s_val (x_pand (b := decide (0 < k2)) (r := decide ((l7.length : Int) < marks)) rfl (fun hb => gd_of (c := decide (0 < k2)) (by first | exact hb | (rw [hb]; rfl) | simp_all) (B (decide ((l7.length : Int) < marks)))) rfl) ?_
  refine s_nil ?_
  refine W.cond ((decide (0 < k2)) && (decide ((l7.length : Int) < marks))) rfl (fun b4 => ?_) (fun b4 => ?_)
  ·replace hM := M.e_t hM b4
   refine W.skip ?_
   refine W.seq ?_
   refine W.block ?_
   refine W.seq ?_
   refine W.region rfl ?_
   refine zM (I place) rfl ?_
   refine zM (Pq ae) rfl ?_
   obtain ⟨jU, ez, hM⟩ := M.e_bind hM
   refine s_call cf9 [Pq ae, I 2] rfl (zae s_bytes bp bq 2 (aw.app _) ax ez _ (H.gt 10)) ?_
   rintro vq jV ⟨aq, eA, eB, eC, hvq, ac⟩
   subst eC
   subst vq
   try dsimp only at hM
   replace H := H.bk ac
   clear ac
   refine zM (Pq ae) rfl ?_
   obtain ⟨jW, eD, hM⟩ := M.e_bind hM
   refine s_call cf9 [Pq ae, I 20] rfl (zae s_bytes eA eB 20 (aw.app _) ax eD _ (H.gt 10)) ?_
   rintro vq jX ⟨au, eE, eF, eG, hvq, ac⟩
   subst eG
   subst vq
   try dsimp only at hM
   replace H := H.bk ac
   clear ac
   obtain ⟨eH, hM⟩ := M.e_grd hM
   simp only [Bool.and_eq_true, decide_eq_true_eq] at eH
   refine zR aq au (aq * au) rfl rfl rfl (by omega) ?_
   obtain ⟨eI, hM⟩ := M.e_grd hM
   simp only [Bool.and_eq_true, decide_eq_true_eq] at eI
   refine zR place (aq * au) (place + (aq * au)) rfl rfl rfl (by omega) ?_
   refine zM (I stage) rfl ?_
   refine zM (Pq ae) rfl ?_
   obtain ⟨jY, eJ, hM⟩ := M.e_bind hM
   refine s_call cf9 [Pq ae, I 9] rfl (zae s_bytes eE eF 9 (aw.app _) ax eJ _ (H.gt 10)) ?_
   rintro vq jZ ⟨ay, eK, eL, eM, hvq, ac⟩
   subst eM
   subst vq
   try dsimp only at hM
   replace H := H.bk ac
   clear ac
   obtain ⟨eN, hM⟩ := M.e_grd hM
   simp only [Bool.and_eq_true, decide_eq_true_eq] at eN
   refine zR stage ay (stage - ay) rfl rfl rfl (by omega) ?_
   refine s_val (x_max (kd := .i64) (a := 0) (b := stage - ay) rfl rfl) ?_
   refine zM (I stage) rfl ?_
   refine zM (Pq ae) rfl ?_
   obtain ⟨j0, eO, hM⟩ := M.e_bind hM
   refine s_call cf9 [Pq ae, I 9] rfl (zae s_bytes eK eL 9 (aw.app _) ax eO _ (H.gt 10)) ?_
   rintro vq j6 ⟨aA, cE, cF, eP, hvq, ac⟩
   subst eP
   subst vq
   try dsimp only at hM
   replace H := H.bk ac
   clear ac
   obtain ⟨eQ, hM⟩ := M.e_grd hM
   simp only [Bool.and_eq_true, decide_eq_true_eq] at eQ
   refine zR stage aA (stage + aA) rfl rfl rfl (by omega) ?_
   refine s_val (x_bld (ps := [(0, I (max 0 (stage - ay))), (1, I (stage + aA))]) (zs := [I 0, I 0]) (L' := [I (max 0 (stage - ay)), I (stage + aA)]) rfl Try.underlying44 Al44 rfl (Bd44 Try.underlying44) (.cons (cs := [I (max 0 (stage - ay))]) rfl rfl rfl rfl rfl <| .cons (cs := [I (stage + aA)]) rfl rfl rfl rfl rfl <| .nil)) ?_
   refine s_val (x_bld (ps := [(0, I (place + (aq * au))), (1, .agg #[I (max 0 (stage - ay)), I (stage + aA)])]) (zs := [I 0, I 0, I 0]) (L' := [I (place + (aq * au)), I (max 0 (stage - ay)), I (stage + aA)]) rfl Try.underlying46 Al46 rfl (Bd46 Try.underlying46) (.cons (cs := [I (place + (aq * au))]) rfl rfl rfl rfl rfl <| .cons (cs := [I (max 0 (stage - ay)), I (stage + aA)]) rfl rfl rfl rfl rfl <| .nil)) ?_
   refine t_alloc (cs := [I 0, I 0, I 0]) H Al46 rfl ?_
   intro aL j7 H
   refine t_sw 0 0 [I (place + (aq * au)), I (max 0 (stage - ay)), I (stage + aA)] (.agg #[I (place + (aq * au)), I (max 0 (stage - ay)), I (stage + aA)]) H rfl rfl Sz46 rfl rfl rfl rfl ?_
   intro j8 H
   refine s_nil ?_
   refine W.seq ?_
   refine W.seq ?_
   refine W.region rfl ?_
   refine zM (B lies) rfl ?_
   refine zM (B lies) rfl ?_
   refine g_val lies (gy_t rfl) (fun hg => x_mv (v := Pq ae) rfl) ?_
   refine g_splitV lies (I 0) (gy_t rfl) (fun br => ?_) (fun br => ?_)
   ·replace hM := M.e_t hM br
    obtain ⟨j9, eR, hM⟩ := M.e_bind hM
    refine s_call cf9 [Pq ae, I 3] (lst2 (gd_of (c := lies) br (Pq ae)) rfl) (zae s_bytes cE cF 3 (aw.app _) ax eR _ ((H.pk [1, 0, 2, 3, 4, 5, 6, 7, 8, 9, 10, 11]).gt 11)) ?_
    rintro vq ka ⟨bt, cG, cH, eS, hvq, ac⟩
    subst eS
    subst vq
    try dsimp only at hM
    replace H := H.pk [1, 0, 2, 3, 4, 5, 6, 7, 8, 9, 10, 11] |>.bk ac
    clear ac
    refine g_val lies (gy_t rfl) (fun hg => x_cmp (kd := .i64) (a := bt) (b := 0) (r := bt == 0) rfl rfl rfl) ?_
    refine s_val (x_pand (b := lies) (r := bt == 0) rfl (fun hb => gd_of (c := lies) (by first | exact hb | (rw [hb]; rfl) | simp_all) (B (bt == 0))) rfl) ?_
    refine s_nil ?_
    refine W.cond (lies && (bt == 0)) rfl (fun b5 => ?_) (fun b5 => ?_)
    ·replace hM := M.e_t hM b5
     refine W.seq ?_
     refine W.region rfl ?_
     refine zM (Pq ae) rfl ?_
     obtain ⟨ke, eT, hM⟩ := M.e_bind hM
     refine s_call cf17 [Pq ae, I 50, I 420] rfl (zah s_bytes cG cH 50 420 (aw.app _) ax eT _ (H.gt 11)) ?_
     rintro vq kg ⟨az, eU, eV, eW, hvq, ac⟩
     subst eW
     subst vq
     try dsimp only at hM
     replace H := H.bk ac
     clear ac
     refine s_val (x_bld (ps := [(0, I az)]) (zs := [I 0, I 0]) (L' := [I az, I 0]) rfl Try.underlying44 Al44 rfl (Bd44 Try.underlying44) (.cons (cs := [I az]) rfl rfl rfl rfl rfl <| .nil)) ?_
     refine s_val (x_fa (a := Pq aL) (v := Oq aL 1) rfl (fa_blk (o := 0) Fd46_1 Sz44)) ?_
     refine t_sw 1 1 [I az, I 0] (.agg #[I az, I 0]) H rfl rfl Sz44 rfl rfl rfl rfl ?_
     intro kh H
     refine s_nil ?_
     refine W.drawTS (fun W => St w W [cBlk aL [I (place + (aq * au)), I az, I 0] 46, cRo aR, cOwn (α := Int) 3 a8 (ab ++ ([(av : Int)])), cOwn (α := Int) 3 ba (aj ++ ([(stage : Int)])), cOwn (α := Mrk) 46 aU l7, cOwn (α := Raw 1) 39 bb bi, cRo B_l9, cBlk ak [ba, a8] 30, cBlk ag [bb, aU, .slice none 0 0] 27, cBlk aH [.slice none 0 0, .slice none 0 0] 30, cBlk aG [.slice none 0 0, .slice none 0 0, .slice none 0 0] 27] R) (.q 0 (.q 1 (.q 2 (.q 3 (.l 4 (.q 5 (.q 6 (.q 7 .nil)))))))) 8 [8] mixed (by decide +kernel) rfl ?_
     intro ki aI
     replace H := H.ext aI
     clear aI
     refine ⟨(H.pk [1, 2, 3, 4, 5, 6, 7, 8, 9, 10, 11]), ?_⟩
     refine ts_q rfl (fun w' H => x_fa (a := Pq aL) (v := Oq aL 1) rfl (fa_blk (o := 0) Fd46_1 Sz44)) ?_
     refine ts_q rfl (fun w' H => x_fa (a := Oq aL 1) (v := Oq aL 1) rfl (fa_blk (o := 1) Fd44_0 Sz3)) ?_
     refine ts_q rfl (fun w' H => x_ld (p := Oq aL 1) (v := I az) rfl (ldb_sc Sc3 (H.bl 0) rfl)) ?_
     refine ts_q rfl (fun w' H => x_mv (v := Pq ae) rfl) ?_
     refine ts_l rfl ?_
     obtain ⟨kj, eX, hM⟩ := M.e_bind hM
     refine s_call cf9 [Pq ae, I 9] rfl (zae s_bytes eU eV 9 (aw.app _) ax eX _ (H.gt 11)) ?_
     rintro vq km ⟨aT, eY, eZ, e9, hvq, ac⟩
     subst e9
     subst vq
     try dsimp only at hM
     replace H := H.bk ac
     clear ac
     refine s_nil ⟨(H.pk [1, 2, 3, 4, 5, 6, 7, 8, 9, 10, 11]), ?_⟩
     obtain ⟨fa, hM⟩ := M.e_grd hM
     simp only [Bool.and_eq_true, decide_eq_true_eq] at fa
     refine ts_q rfl (fun w' H => x_ari (a := az) (b := aT) (r := az + aT) rfl rfl rfl (by omega)) ?_
     refine ts_q rfl (fun w' H => x_fa (a := Pq aL) (v := Oq aL 1) rfl (fa_blk (o := 0) Fd46_1 Sz44)) ?_
     refine ts_q rfl (fun w' H => x_fa (a := Oq aL 1) (v := Oq aL 2) rfl (fa_blk (o := 1) Fd44_1 Sz3)) ?_
     refine ts_nil ?_
     refine sr_l rfl ?_
     refine t_sw 1 2 [I (az + aT)] (I (az + aT)) H rfl rfl Sz3 rfl rfl rfl rfl ?_
     intro kn H
     refine s_nil ⟨trivial, ?_⟩
     refine sr_nil ?_
     refine W.region rfl ?_
     refine s_val (x_fa (a := Pq ag) (v := Oq ag 1) rfl (fa_blk (o := 0) Fd27_1 Sz24)) ?_
     refine s_val (x_ld (p := Oq ag 1) (v := aU) rfl (ldb_sc Sc24 (H.bl 9) rfl)) ?_
     refine s_val (x_ld (p := Pq aL) (v := .agg #[I (place + (aq * au)), I az, I (az + aT)]) rfl (ldb_ag (ds := [I (place + (aq * au)), I az, I (az + aT)]) Ag46 Sz46 (H.bl 1) rfl rfl)) ?_
     refine t_bs (α := Mrk) T24 [.agg #[I (place + (aq * au)), I az, I (az + aT)]] [(⟨(place + (aq * au) : Int), (az : Int), (az + aT : Int)⟩ : Mrk)] H rfl (.cons rfl (Flat.rep_enc _ (⟨(place + (aq * au) : Int), (az : Int), (az + aT : Int)⟩ : Mrk)) <| .nil) rfl rfl rfl ?_
     intro fb ko H
     obtain ⟨fd, hM⟩ := M.e_grd hM
     simp only [Bool.and_eq_true, decide_eq_true_eq] at fd
     refine t_app (α := Mrk) (k := 6) (l := l7) (l2 := [(⟨(place + (aq * au) : Int), (az : Int), (az + aT : Int)⟩ : Mrk)]) (l' := l7 ++ ([(⟨(place + (aq * au) : Int), (az : Int), (az + aT : Int)⟩ : Mrk)])) (vy := fb) T24 rfl H rfl rfl rfl (H.os 0) (H.ol 0) (rfl) (by first | omega | (simp only [List.length_nil] at *; omega)) ?_
     intro b6 kq H
     replace H := H.nf
     refine s_val (x_fa (a := Pq ag) (v := Oq ag 1) rfl (fa_blk (o := 0) Fd27_1 Sz24)) ?_
     refine t_sw 10 1 [b6] b6 H rfl rfl Sz24 (Sl.cells (H.os 6)) rfl rfl (by simp only [List.all_cons, List.all_nil, Bool.true_and, Bool.and_true, Sl.oc (H.os 6)]; try rfl) ?_
     intro kr H
     refine s_nil ?_
     replace H := H.pk [1, 3, 4, 5, 6, 7, 8, 9, 10, 11, 12]
     refine W.region rfl ?_
     refine zM (I k2) rfl ?_
     obtain ⟨fe, hM⟩ := M.e_grd hM
     simp only [Bool.and_eq_true, decide_eq_true_eq] at fe
     refine zR k2 1 (k2 - 1) rfl rfl rfl (by omega) ?_
     refine zA (I (k2 - 1)) rfl ?_
     refine s_nil ?_
     exact ⟨bZ, b3, eY, eZ, k2 - 1, l7 ++ ([(⟨(place + (aq * au) : Int), (az : Int), (az + aT : Int)⟩ : Mrk)]), b6, _, upds_of _ _ ⟨rfl, rfl, rfl, rfl, rfl, rfl, rfl, rfl, rfl, rfl, rfl, trivial⟩, M.e_inl hM bE, H⟩
    replace hM := M.e_f hM b5
    refine W.skip ?_
    refine W.region rfl ?_
    refine s_val (x_fa (a := Pq ag) (v := Oq ag 1) rfl (fa_blk (o := 0) Fd27_1 Sz24)) ?_
    refine s_val (x_ld (p := Oq ag 1) (v := aU) rfl (ldb_sc Sc24 (H.bl 9) rfl)) ?_
    refine s_val (x_ld (p := Pq aL) (v := .agg #[I (place + (aq * au)), I (max 0 (stage - ay)), I (stage + aA)]) rfl (ldb_ag (ds := [I (place + (aq * au)), I (max 0 (stage - ay)), I (stage + aA)]) Ag46 Sz46 (H.bl 1) rfl rfl)) ?_
    refine t_bs (α := Mrk) T24 [.agg #[I (place + (aq * au)), I (max 0 (stage - ay)), I (stage + aA)]] [(⟨(place + (aq * au) : Int), (max 0 (stage - ay) : Int), (stage + aA : Int)⟩ : Mrk)] H rfl (.cons rfl (Flat.rep_enc _ (⟨(place + (aq * au) : Int), (max 0 (stage - ay) : Int), (stage + aA : Int)⟩ : Mrk)) <| .nil) rfl rfl rfl ?_
    intro ff ku H
    obtain ⟨fg, hM⟩ := M.e_grd hM
    simp only [Bool.and_eq_true, decide_eq_true_eq] at fg
    refine t_app (α := Mrk) (k := 6) (l := l7) (l2 := [(⟨(place + (aq * au) : Int), (max 0 (stage - ay) : Int), (stage + aA : Int)⟩ : Mrk)]) (l' := l7 ++ ([(⟨(place + (aq * au) : Int), (max 0 (stage - ay) : Int), (stage + aA : Int)⟩ : Mrk)])) (vy := ff) T24 rfl H rfl rfl rfl (H.os 0) (H.ol 0) (rfl) (by first | omega | (simp only [List.length_nil] at *; omega)) ?_
    intro b7 kw H
    replace H := H.nf
    refine s_val (x_fa (a := Pq ag) (v := Oq ag 1) rfl (fa_blk (o := 0) Fd27_1 Sz24)) ?_
    refine t_sw 10 1 [b7] b7 H rfl rfl Sz24 (Sl.cells (H.os 6)) rfl rfl (by simp only [List.all_cons, List.all_nil, Bool.true_and, Bool.and_true, Sl.oc (H.os 6)]; try rfl) ?_
    intro kx H
    refine s_nil ?_
    replace H := H.pk [1, 3, 4, 5, 6, 7, 8, 9, 10, 11, 12]
    refine W.region rfl ?_
    refine zM (I k2) rfl ?_
    obtain ⟨fh, hM⟩ := M.e_grd hM
    simp only [Bool.and_eq_true, decide_eq_true_eq] at fh
    refine zR k2 1 (k2 - 1) rfl rfl rfl (by omega) ?_
    refine zA (I (k2 - 1)) rfl ?_
    refine s_nil ?_
    exact ⟨bZ, b3, cG, cH, k2 - 1, l7 ++ ([(⟨(place + (aq * au) : Int), (max 0 (stage - ay) : Int), (stage + aA : Int)⟩ : Mrk)]), b7, _, upds_of _ _ ⟨rfl, rfl, rfl, rfl, rfl, rfl, rfl, rfl, rfl, rfl, rfl, trivial⟩, M.e_inl hM bE, H⟩
   replace hM := M.e_f hM br
   refine g_val (v := B false) lies (gy_t rfl) (fun hg => Bool.noConfusion (br.symm.trans hg)) ?_
   refine s_val (x_pand0 (b := lies) rfl (fun hb => gd_of (c := lies) (by first | exact hb | (rw [hb]; rfl) | simp_all) (B false)) rfl) ?_
   refine s_nil ?_
   refine W.cond false rfl (fun cI => ?_) (fun cI => ?_)
   ·skip
    exact absurd cI (by decide)
   skip
   refine W.skip ?_
   refine W.region rfl ?_
   refine s_val (x_fa (a := Pq ag) (v := Oq ag 1) rfl (fa_blk (o := 0) Fd27_1 Sz24)) ?_
   refine s_val (x_ld (p := Oq ag 1) (v := aU) rfl (ldb_sc Sc24 (H.bl 9) rfl)) ?_
   refine s_val (x_ld (p := Pq aL) (v := .agg #[I (place + (aq * au)), I (max 0 (stage - ay)), I (stage + aA)]) rfl (ldb_ag (ds := [I (place + (aq * au)), I (max 0 (stage - ay)), I (stage + aA)]) Ag46 Sz46 (H.bl 0) rfl rfl)) ?_
   refine t_bs (α := Mrk) T24 [.agg #[I (place + (aq * au)), I (max 0 (stage - ay)), I (stage + aA)]] [(⟨(place + (aq * au) : Int), (max 0 (stage - ay) : Int), (stage + aA : Int)⟩ : Mrk)] H rfl (.cons rfl (Flat.rep_enc _ (⟨(place + (aq * au) : Int), (max 0 (stage - ay) : Int), (stage + aA : Int)⟩ : Mrk)) <| .nil) rfl rfl rfl ?_
   intro fj ky H
   obtain ⟨fm, hM⟩ := M.e_grd hM
   simp only [Bool.and_eq_true, decide_eq_true_eq] at fm
   refine t_app (α := Mrk) (k := 6) (l := l7) (l2 := [(⟨(place + (aq * au) : Int), (max 0 (stage - ay) : Int), (stage + aA : Int)⟩ : Mrk)]) (l' := l7 ++ ([(⟨(place + (aq * au) : Int), (max 0 (stage - ay) : Int), (stage + aA : Int)⟩ : Mrk)])) (vy := fj) T24 rfl H rfl rfl rfl (H.os 0) (H.ol 0) (rfl) (by first | omega | (simp only [List.length_nil] at *; omega)) ?_
   intro b8 kz H
   replace H := H.nf
   refine s_val (x_fa (a := Pq ag) (v := Oq ag 1) rfl (fa_blk (o := 0) Fd27_1 Sz24)) ?_
   refine t_sw 10 1 [b8] b8 H rfl rfl Sz24 (Sl.cells (H.os 6)) rfl rfl (by simp only [List.all_cons, List.all_nil, Bool.true_and, Bool.and_true, Sl.oc (H.os 6)]; try rfl) ?_
   intro kA H
   refine s_nil ?_
   replace H := H.pk [2, 3, 4, 5, 6, 7, 8, 9, 10, 11, 12]
   refine W.region rfl ?_
   refine zM (I k2) rfl ?_
   obtain ⟨fo, hM⟩ := M.e_grd hM
   simp only [Bool.and_eq_true, decide_eq_true_eq] at fo
   refine zR k2 1 (k2 - 1) rfl rfl rfl (by omega) ?_
   refine zA (I (k2 - 1)) rfl ?_
   refine s_nil ?_
   exact ⟨bZ, b3, cE, cF, k2 - 1, l7 ++ ([(⟨(place + (aq * au) : Int), (max 0 (stage - ay) : Int), (stage + aA : Int)⟩ : Mrk)]), b8, _, upds_of _ _ ⟨rfl, rfl, rfl, rfl, rfl, rfl, rfl, rfl, rfl, rfl, rfl, trivial⟩, M.e_inl hM bE, H⟩
  replace hM := M.e_f hM b4
  refine W.exit ?_
  have fp := M.e_inr hM bE
  subst fp
  replace hM := ey
  try dsimp only at hM
  refine W.region rfl ?_
  refine zM (I place) rfl ?_
  refine zM (Pq ae) rfl ?_
  obtain ⟨kB, fq, hM⟩ := M.e_bind hM
  refine s_call cf17 [Pq ae, I 21, I 200] rfl (zah s_bytes bp bq 21 200 (aw.app _) ax fq _ (H.gt 10)) ?_
  rintro vq kC ⟨bF, fu, fw, fx, hvq, ac⟩
  subst fx
  subst vq
  try dsimp only at hM
  replace H := H.bk ac
  clear ac
  obtain ⟨fy, hM⟩ := M.e_grd hM
  simp only [Bool.and_eq_true, decide_eq_true_eq] at fy
  refine zR place bF (place + bF) rfl rfl rfl (by omega) ?_
  refine zM (I stage) rfl ?_
  refine zM (Pq ae) rfl ?_
  obtain ⟨kD, fA, hM⟩ := M.e_bind hM
  refine s_call cf9 [Pq ae, I 20] rfl (zae s_bytes fu fw 20 (aw.app _) ax fA _ (H.gt 10)) ?_
  rintro vq kE ⟨bG, fB, fC, fD, hvq, ac⟩
  subst fD
  subst vq
  try dsimp only at hM
  replace H := H.bk ac
  clear ac
  obtain ⟨fE, hM⟩ := M.e_grd hM
  simp only [Bool.and_eq_true, decide_eq_true_eq] at fE
  refine zR stage bG (stage - bG) rfl rfl rfl (by omega) ?_
  refine zA (I (place + bF)) rfl ?_
  refine zA (I (stage - bG)) rfl ?_
  refine s_nil ?_
  refine W.region rfl ?_
  refine zM (I n) rfl ?_
  obtain ⟨fF, hM⟩ := M.e_grd hM
  simp only [Bool.and_eq_true, decide_eq_true_eq] at fF
  refine zR n 1 (n - 1) rfl rfl rfl (by omega) ?_
  refine zA (I (n - 1)) rfl ?_
  refine s_nil ?_
  exact ⟨c9, da, fB, fC, place + bF, stage - bG, n - 1, l9 ++ ([(⟨(place : Int), l⟩ : Sect)]), l7, aj ++ ([(stage : Int)]), ab ++ ([(av : Int)]), bb, aU, ba, a8, bi, aR, _, upds_of _ _ ⟨rfl, rfl, rfl, rfl, rfl, rfl, rfl, rfl, rfl, rfl, trivial⟩, M.e_inl hM cj, (H.pk [2, 3, 4, 5, 1, 0, 7, 8, 9, 10]), em⟩
 replace hM := M.e_f hM bn
 simp only [qy1, qy2, qy3, qy4, qy5, qy6, ne_eq, qy7] at bn
 refine W.exit ?_
 have fG := M.e_inr hM cj
 subst fG
 replace hM := c8
 try dsimp only at hM
 refine W.seqJ (fun σ W => ∃ (bf : List Mrk) (aD : Value) (ρ : Env), σ = upds ρ [(0, Pq ae), (6, Pq aG), (7, Pq aH), (8, Pq ag), (9, Pq ak)] /\ (zaE s_bytes a6 a7 ab aj l9 bf).Ends r /\ St w W [cOwn (α := Int) 3 ap ab, cOwn (α := Int) 3 ao aj, cOwn (α := Mrk) 46 aD bf, cOwn (α := Raw 1) 39 am aC, cRo B_l9, cBlk ae [aQ, I a6, I a7] 68, cBlk ak [ao, ap] 30, cBlk ag [am, aD, .slice none 0 0] 27, cBlk aH [.slice none 0 0, .slice none 0 0] 30, cBlk aG [.slice none 0 0, .slice none 0 0, .slice none 0 0] 27] R) ?_ ?_
 ·skip
  refine W.seq ?_
  refine W.region rfl ?_
  refine s_val (x_fa (a := Pq ag) (v := Oq ag 1) rfl (fa_blk (o := 0) Fd27_1 Sz24)) ?_
  refine s_val (x_ld (p := Oq ag 1) (v := aO) rfl (ldb_sc Sc24 (H.bl 7) rfl)) ?_
  have kF := ((H.os 2)).len_le
  refine s_val (x_lenS T24.und rfl (H.os 2)) ?_
  refine zC (aK.length : Int) 0 ((aK.length : Int) == 0) rfl rfl rfl ?_
  refine s_nil ?_
  refine W.cond ((aK.length : Int) == 0) rfl (fun bu => ?_) (fun bu => ?_)
  ·replace hM := M.e_t hM bu
   simp only [qy1, qy2, qy3, qy4, qy5, qy6, ne_eq, qy7] at bu
   refine W.drawTS (fun W => St w W [cOwn (α := Int) 3 ap ab, cOwn (α := Int) 3 ao aj, cOwn (α := Raw 1) 39 am aC, cRo B_l9, cBlk ae [aQ, I a6, I a7] 68, cBlk ak [ao, ap] 30, cBlk ag [am, aO, .slice none 0 0] 27, cBlk aH [.slice none 0 0, .slice none 0 0] 30, cBlk aG [.slice none 0 0, .slice none 0 0, .slice none 0 0] 27] R) (.q 0 (.q 1 (.q 2 (.q 3 (.q 4 (.q 5 (.q 6 (.q 7 (.q 8 (.q 9 (.q 10 (.q 11 (.q 12 (.q 13 (.q 14 (.q 15 (.q 16 (.q 17 (.q 18 (.l 19 (.l 20 (.q 21 .nil)))))))))))))))))))))) 22 [22] mixed (by decide +kernel) rfl ?_
   intro kG aI
   replace H := H.ext aI
   clear aI
   refine ⟨(H.pk [0, 1, 3, 4, 5, 6, 7, 8, 9]), ?_⟩
   refine ts_q rfl (fun w' H => x_fa (a := Pq ag) (v := Oq ag 1) rfl (fa_blk (o := 0) Fd27_1 Sz24)) ?_
   refine ts_q rfl (fun w' H => x_ld (p := Oq ag 1) (v := aO) rfl (ldb_sc Sc24 (H.bl 6) rfl)) ?_
   refine ts_q rfl (fun w' H => x_fa (a := Pq ag) (v := Pq ag) rfl (fa_blk (o := 0) Fd27_0 Sz23)) ?_
   refine ts_q rfl (fun w' H => x_ld (p := Pq ag) (v := am) rfl (ldb_sc Sc23 (H.bl 6) rfl)) ?_
   obtain ⟨fH, hM⟩ := M.e_grd hM
   simp only [Bool.and_eq_true, decide_eq_true_eq] at fH
   refine ts_q rfl (fun w' H => x_ix (a := am) (b := I 0) (v := vat am 2 (Int.toNat 0)) rfl rfl (Sl.ix (α := Sect) T23.und T23.size (rowSl rfl (H.get (k := 2) rfl) (roLe _ (H.get (k := 3) rfl)) aB) (by omega) (by omega))) ?_
   refine ts_q rfl (fun w' H => x_fa (a := vat am 2 (Int.toNat 0)) (v := fat (vat am 2 (Int.toNat 0)) 0) rfl (fa_pl Fd39_0 Sz3 (Sl.pl (i := 0) (rowSl rfl (H.get (k := 2) rfl) (roLe _ (H.get (k := 3) rfl)) aB) (by omega) (by omega)))) ?_
   refine ts_q rfl (fun w' H => x_ld (p := fat (vat am 2 (Int.toNat 0)) 0) (v := I ((l9.getD 0 default).place)) rfl (ld_sc Sc3 (At.mono (Sect_at0 (rowSl rfl (H.get (k := 2) rfl) (roLe _ (H.get (k := 3) rfl)) aB) (i := 0) (by omega) (by omega)) (Cells.sup_le (H.ol 2) (roLe _ (H.get (k := 3) rfl)))))) ?_
   refine ts_q rfl (fun w' H => x_fa (a := Pq ak) (v := Pq ak) rfl (fa_blk (o := 0) Fd30_0 Sz28)) ?_
   refine ts_q rfl (fun w' H => x_ld (p := Pq ak) (v := ao) rfl (ldb_sc Sc28 (H.bl 5) rfl)) ?_
   obtain ⟨fI, hM⟩ := M.e_grd hM
   simp only [Bool.and_eq_true, decide_eq_true_eq] at fI
   refine ts_q rfl (fun w' H => x_ix (a := ao) (b := I 0) (v := vat ao 1 (Int.toNat 0)) rfl rfl (Sl.ix (α := Int) T28.und T28.size (H.os 1) (by omega) (by omega))) ?_
   refine ts_q rfl (fun w' H => x_ld (p := vat ao 1 (Int.toNat 0)) (v := I (aj.getD 0 0)) rfl (ld_sc Sc3 (At.mono (Int_at (H.os 1) (i := 0) (by omega) (by omega)) (H.ol 1)))) ?_
   obtain ⟨fJ, hM⟩ := M.e_grd hM
   simp only [Bool.and_eq_true, decide_eq_true_eq] at fJ
   refine ts_q rfl (fun w' H => x_ari (a := aj.getD 0 0) (b := 5) (r := (aj.getD 0 0) - 5) rfl rfl rfl (by omega)) ?_
   refine ts_q rfl (fun w' H => x_fa (a := Pq ak) (v := Pq ak) rfl (fa_blk (o := 0) Fd30_0 Sz28)) ?_
   refine ts_q rfl (fun w' H => x_ld (p := Pq ak) (v := ao) rfl (ldb_sc Sc28 (H.bl 5) rfl)) ?_
   refine ts_q rfl (fun w' H => x_ix (a := ao) (b := I 0) (v := vat ao 1 (Int.toNat 0)) rfl rfl (Sl.ix (α := Int) T28.und T28.size (H.os 1) (by omega) (by omega))) ?_
   refine ts_q rfl (fun w' H => x_ld (p := vat ao 1 (Int.toNat 0)) (v := I (aj.getD 0 0)) rfl (ld_sc Sc3 (At.mono (Int_at (H.os 1) (i := 0) (by omega) (by omega)) (H.ol 1)))) ?_
   obtain ⟨fK, hM⟩ := M.e_grd hM
   simp only [Bool.and_eq_true, decide_eq_true_eq] at fK
   refine ts_q rfl (fun w' H => x_ari (a := aj.getD 0 0) (b := 5) (r := (aj.getD 0 0) + 5) rfl rfl rfl (by omega)) ?_
   refine ts_q rfl (fun w' H => x_bld (ps := [(0, I ((aj.getD 0 0) - 5)), (1, I ((aj.getD 0 0) + 5))]) (zs := [I 0, I 0]) (L' := [I ((aj.getD 0 0) - 5), I ((aj.getD 0 0) + 5)]) rfl Try.underlying44 Al44 rfl (Bd44 Try.underlying44) (.cons (cs := [I ((aj.getD 0 0) - 5)]) rfl rfl rfl rfl rfl <| .cons (cs := [I ((aj.getD 0 0) + 5)]) rfl rfl rfl rfl rfl <| .nil)) ?_
   refine ts_q rfl (fun w' H => x_bld (ps := [(0, I ((l9.getD 0 default).place)), (1, .agg #[I ((aj.getD 0 0) - 5), I ((aj.getD 0 0) + 5)])]) (zs := [I 0, I 0, I 0]) (L' := [I ((l9.getD 0 default).place), I ((aj.getD 0 0) - 5), I ((aj.getD 0 0) + 5)]) rfl Try.underlying46 Al46 rfl (Bd46 Try.underlying46) (.cons (cs := [I ((l9.getD 0 default).place)]) rfl rfl rfl rfl rfl <| .cons (cs := [I ((aj.getD 0 0) - 5), I ((aj.getD 0 0) + 5)]) rfl rfl rfl rfl rfl <| .nil)) ?_
   refine ts_l rfl ?_
   refine t_bs (α := Mrk) T24 [.agg #[I ((l9.getD 0 default).place), I ((aj.getD 0 0) - 5), I ((aj.getD 0 0) + 5)]] [(⟨((l9.getD 0 default).place : Int), ((aj.getD 0 0) - 5 : Int), ((aj.getD 0 0) + 5 : Int)⟩ : Mrk)] H rfl (.cons rfl (Flat.rep_enc _ (⟨((l9.getD 0 default).place : Int), ((aj.getD 0 0) - 5 : Int), ((aj.getD 0 0) + 5 : Int)⟩ : Mrk)) <| .nil) rfl rfl rfl ?_
   intro fL kH H
   have kI := Sl.cells (H.os 0)
   have kJ := Sl.oc (H.os 0)
   have kK := Sl.cells (H.os 3)
   have kL := Sl.oc (H.os 3)
   refine s_nil ⟨(H.pk [1, 2, 4, 5, 6, 7, 8, 9, 10]), ?_⟩
   refine ts_l rfl ?_
   obtain ⟨fM, hM⟩ := M.e_grd hM
   simp only [Bool.and_eq_true, decide_eq_true_eq] at fM
   refine t_app (α := Mrk) (k := 3) (l := aK) (l2 := [(⟨((l9.getD 0 default).place : Int), ((aj.getD 0 0) - 5 : Int), ((aj.getD 0 0) + 5 : Int)⟩ : Mrk)]) (l' := aK ++ ([(⟨((l9.getD 0 default).place : Int), ((aj.getD 0 0) - 5 : Int), ((aj.getD 0 0) + 5 : Int)⟩ : Mrk)])) (vy := fL) T24 rfl H rfl rfl rfl (H.os 0) (H.ol 0) (rfl) (by first | omega | (simp only [List.length_nil] at *; omega)) ?_
   intro b9 kM H
   replace H := H.nf
   have kN := Sl.cells (H.os 3)
   have kO := Sl.oc (H.os 3)
   refine s_nil ⟨(H.pk [1, 2, 4, 5, 6, 7, 8, 9, 10]), ?_⟩
   refine ts_q rfl (fun w' H => x_fa (a := Pq ag) (v := Oq ag 1) rfl (fa_blk (o := 0) Fd27_1 Sz24)) ?_
   refine ts_nil ?_
   refine sr_l rfl ?_
   refine t_sw 8 1 [b9] b9 H rfl rfl Sz24 (Sl.cells (H.os 3)) rfl rfl (by simp only [List.all_cons, List.all_nil, Bool.true_and, Bool.and_true, Sl.oc (H.os 3)]; try rfl) ?_
   intro kP H
   refine s_nil ⟨trivial, ?_⟩
   refine sr_nil ?_
   exact ⟨aK ++ ([(⟨((l9.getD 0 default).place : Int), ((aj.getD 0 0) - 5 : Int), ((aj.getD 0 0) + 5 : Int)⟩ : Mrk)]), b9, _, upds_of _ _ ⟨rfl, rfl, rfl, rfl, rfl, trivial⟩, hM, (H.pk [1, 2, 3, 4, 5, 6, 7, 8, 9, 10])⟩
  replace hM := M.e_f hM bu
  simp only [qy1, qy2, qy3, qy4, qy5, qy6, ne_eq, qy7] at bu
  refine W.skip ?_
  exact ⟨aK, aO, _, upds_of _ _ ⟨rfl, rfl, rfl, rfl, rfl, trivial⟩, hM, H⟩
 rintro _ kQ ⟨bf, aD, ρ, rfl, hM, H⟩
 unfold zaE at hM
 refine W.seq ?_
 refine W.seq ?_
 refine W.region rfl ?_
 refine zM (Pq ae) rfl ?_
 obtain ⟨kR, fN, hM⟩ := M.e_bind hM
 refine s_call cf17 [Pq ae, I 1, I 4] rfl (zah s_bytes a6 a7 1 4 (aw.app _) ax fN _ ((H.pk [5, 0, 1, 2, 3, 4, 6, 7, 8, 9]).gt 9)) ?_
 rintro vq kS ⟨cJ, fO, fP, fQ, hvq, ac⟩
 subst fQ
 subst vq
 try dsimp only at hM
 replace H := H.pk [5, 0, 1, 2, 3, 4, 6, 7, 8, 9] |>.bk ac
 clear ac
 refine zA (I cJ) rfl ?_
 refine s_nil ?_
 refine W.block ?_
 replace H := H.nilOwn (α := Rch) 56
 obtain ⟨fR, cb, fS⟩ := M.e_bind hM
 obtain ⟨bI, cb⟩ := M.e_iter cb
 refine W.loop (fun m σ W => ∃ (bj : Int) (bm : Int) (n2 : Int) (aZ : List Rch) (aF : Value) (ρ : Env), σ = upds ρ [(0, Pq ae), (6, Pq aG), (7, Pq aH), (8, Pq ag), (9, Pq ak), (19, I n2)] /\ M.iterN (zaT s_bytes ab l9) m (bj, bm, n2, aZ) = some fR /\ St w W [cOwn (α := Rch) 56 aF aZ, cBlk ae [aQ, I bj, I bm] 68, cOwn (α := Int) 3 ap ab, cOwn (α := Int) 3 ao aj, cOwn (α := Mrk) 46 aD bf, cOwn (α := Raw 1) 39 am aC, cRo B_l9, cBlk ak [ao, ap] 30, cBlk ag [am, aD, aF] 27, cBlk aH [.slice none 0 0, .slice none 0 0] 30, cBlk aG [.slice none 0 0, .slice none 0 0, .slice none 0 0] 27] R) ?_ ?_
 ·exact ⟨_, fO, fP, cJ, [], (.slice none 0 0), _, upds_of _ _ ⟨rfl, rfl, rfl, rfl, rfl, rfl, trivial⟩, cb, H⟩
 rintro kT σ kU ⟨bj, bm, n2, aZ, aF, ρ, rfl, cK, H⟩
 obtain ⟨fT, fU, kV, hM, cL⟩ := M.e_iterN cK
 simp only [zaT] at hM
 clear cK
 refine W.seq ?_
 refine W.seq ?_
 refine W.region rfl ?_
 refine zM (I n2) rfl ?_
 refine zC n2 0 (decide (0 < n2)) rfl rfl rfl ?_
 refine s_nil ?_
 refine W.cond (decide (0 < n2)) rfl (fun bv => ?_) (fun bv => ?_)
 ·replace hM := M.e_t hM bv
  simp only [qy1, qy2, qy3, qy4, qy5, qy6, ne_eq, qy7] at bv
  refine W.skip ?_
  refine W.seq ?_
  refine W.block ?_
  refine W.seq ?_
  refine W.region rfl ?_
  refine zM (Pq ae) rfl ?_
  refine s_val (x_fa (a := Pq ag) (v := Pq ag) rfl (fa_blk (o := 0) Fd27_0 Sz23)) ?_
  refine s_val (x_ld (p := Pq ag) (v := am) rfl (ldb_sc Sc23 (H.bl 8) rfl)) ?_
  have kW := ((rowSl rfl (H.get (k := 5) rfl) (roLe _ (H.get (k := 6) rfl)) aB)).len_le
  refine s_val (x_lenS T23.und rfl (rowSl rfl (H.get (k := 5) rfl) (roLe _ (H.get (k := 6) rfl)) aB)) ?_
  refine zR (l9.length : Int) 1 ((l9.length : Int) - 1) rfl rfl rfl (by omega) ?_
  obtain ⟨kX, fV, hM⟩ := M.e_bind hM
  refine s_call cf9 [Pq ae, I ((l9.length : Int) - 1)] rfl (zae s_bytes bj bm ((l9.length : Int) - 1) (aw.app _) ax fV _ ((H.pk [1, 0, 2, 3, 4, 5, 6, 7, 8, 9, 10]).gt 10)) ?_
  rintro vq kY ⟨aa, fW, fX, fY, hvq, ac⟩
  subst fY
  subst vq
  try dsimp only at hM
  replace H := H.pk [1, 0, 2, 3, 4, 5, 6, 7, 8, 9, 10] |>.bk ac
  clear ac
  refine zM (Pq ae) rfl ?_
  obtain ⟨kZ, fZ, hM⟩ := M.e_bind hM
  refine s_call cf9 [Pq ae, I 4] rfl (zae s_bytes fW fX 4 (aw.app _) ax fZ _ (H.gt 10)) ?_
  rintro vq ld ⟨aJ, f0, f4, f6, hvq, ac⟩
  subst f6
  subst vq
  try dsimp only at hM
  replace H := H.bk ac
  clear ac
  refine zC aJ 0 (aJ == 0) rfl rfl rfl ?_
  refine s_val (x_bld (ps := [(0, I aa), (3, B (aJ == 0))]) (zs := [I 0, I 0, I 0, I 0, B false]) (L' := [I aa, I 0, I 0, I 0, B (aJ == 0)]) rfl Try.underlying56 Al56 rfl (Bd56 Try.underlying56) (.cons (cs := [I aa]) rfl rfl rfl rfl rfl <| .cons (cs := [B (aJ == 0)]) rfl rfl rfl rfl rfl <| .nil)) ?_
  refine t_alloc (cs := [I 0, I 0, I 0, I 0, B false]) H Al56 rfl ?_
  intro aE lf H
  refine t_sw 0 0 [I aa, I 0, I 0, I 0, B (aJ == 0)] (.agg #[I aa, I 0, I 0, I 0, B (aJ == 0)]) H rfl rfl Sz56 rfl rfl rfl rfl ?_
  intro lg H
  refine s_nil ?_
  refine W.seq ?_
  refine W.drawTS (fun W => St w W [cBlk aE [I aa, I 0, I 0, I 0, B (aJ == 0)] 56, cOwn (α := Rch) 56 aF aZ, cOwn (α := Int) 3 ap ab, cOwn (α := Int) 3 ao aj, cOwn (α := Mrk) 46 aD bf, cOwn (α := Raw 1) 39 am aC, cRo B_l9, cBlk ak [ao, ap] 30, cBlk ag [am, aD, aF] 27, cBlk aH [.slice none 0 0, .slice none 0 0] 30, cBlk aG [.slice none 0 0, .slice none 0 0, .slice none 0 0] 27] R) (.q 0 (.q 1 (.q 2 (.q 3 (.q 4 (.q 5 (.q 6 (.q 7 (.q 8 (.q 9 (.l 10 (.q 11 (.q 12 .nil))))))))))))) 13 [13] mixed (by decide +kernel) rfl ?_
  intro li aI
  replace H := H.ext aI
  clear aI
  refine ⟨(H.pk [0, 2, 3, 4, 5, 6, 7, 8, 9, 10, 11]), ?_⟩
  refine ts_q rfl (fun w' H => x_fa (a := Pq aE) (v := Pq aE) rfl (fa_blk (o := 0) Fd56_0 Sz3)) ?_
  refine ts_q rfl (fun w' H => x_ld (p := Pq aE) (v := I aa) rfl (ldb_sc Sc3 (H.bl 0) rfl)) ?_
  refine ts_q rfl (fun w' H => x_mv (v := Pq ae) rfl) ?_
  refine ts_q rfl (fun w' H => x_fa (a := Pq ag) (v := Pq ag) rfl (fa_blk (o := 0) Fd27_0 Sz23)) ?_
  refine ts_q rfl (fun w' H => x_ld (p := Pq ag) (v := am) rfl (ldb_sc Sc23 (H.bl 8) rfl)) ?_
  have lj := ((rowSl rfl (H.get (k := 6) rfl) (roLe _ (H.get (k := 7) rfl)) aB)).len_le
  refine ts_q rfl (fun w' H => x_lenS T23.und rfl (rowSl rfl (H.get (k := 5) rfl) (roLe _ (H.get (k := 6) rfl)) aB)) ?_
  refine ts_q rfl (fun w' H => x_ari (a := (l9.length : Int)) (b := 1) (r := (l9.length : Int) - 1) rfl rfl rfl (by omega)) ?_
  refine ts_q rfl (fun w' H => x_fa (a := Pq aE) (v := Pq aE) rfl (fa_blk (o := 0) Fd56_0 Sz3)) ?_
  refine ts_q rfl (fun w' H => x_ld (p := Pq aE) (v := I aa) rfl (ldb_sc Sc3 (H.bl 0) rfl)) ?_
  obtain ⟨f9, hM⟩ := M.e_grd hM
  simp only [Bool.and_eq_true, decide_eq_true_eq] at f9
  refine ts_q rfl (fun w' H => x_ari (a := (l9.length : Int) - 1) (b := aa) (r := ((l9.length : Int) - 1) - aa) rfl rfl rfl (by omega)) ?_
  refine ts_l rfl ?_
  obtain ⟨lk, ga, hM⟩ := M.e_bind hM
  refine s_call cf17 [Pq ae, I 1, I (((l9.length : Int) - 1) - aa)] rfl (zah s_bytes f0 f4 1 (((l9.length : Int) - 1) - aa) (aw.app _) ax ga _ ((H.pk [1, 0, 2, 3, 4, 5, 6, 7, 8, 9, 10, 11]).gt 11)) ?_
  rintro vq ll ⟨ai, cM, cN, gc, hvq, ac⟩
  subst gc
  subst vq
  try dsimp only at hM
  replace H := H.pk [1, 0, 2, 3, 4, 5, 6, 7, 8, 9, 10, 11] |>.bk ac
  clear ac
  refine s_nil ⟨(H.pk [1, 2, 3, 4, 5, 6, 7, 8, 9, 10, 11]), ?_⟩
  obtain ⟨gf, hM⟩ := M.e_grd hM
  simp only [Bool.and_eq_true, decide_eq_true_eq] at gf
  refine ts_q rfl (fun w' H => x_ari (a := aa) (b := ai) (r := aa + ai) rfl rfl rfl (by omega)) ?_
  refine ts_q rfl (fun w' H => x_fa (a := Pq aE) (v := Oq aE 1) rfl (fa_blk (o := 0) Fd56_1 Sz3)) ?_
  refine ts_nil ?_
  refine sr_l rfl ?_
  refine t_sw 1 1 [I (aa + ai)] (I (aa + ai)) H rfl rfl Sz3 rfl rfl rfl rfl ?_
  intro lm H
  refine s_nil ⟨trivial, ?_⟩
  refine sr_nil ?_
  refine W.seq ?_
  refine W.draw (fun W => St w W [cBlk ae [aQ, I cM, I cN] 68, cBlk aE [I aa, I (aa + ai), I 0, I 0, B (aJ == 0)] 56, cOwn (α := Rch) 56 aF aZ, cOwn (α := Int) 3 ap ab, cOwn (α := Int) 3 ao aj, cOwn (α := Mrk) 46 aD bf, cOwn (α := Raw 1) 39 am aC, cRo B_l9, cBlk ak [ao, ap] 30, cBlk ag [am, aD, aF] 27, cBlk aH [.slice none 0 0, .slice none 0 0] 30, cBlk aG [.slice none 0 0, .slice none 0 0, .slice none 0 0] 27] R) [(0, true), (1, true), (2, true), (3, true), (4, true), (5, true), (6, true), (7, true), (8, true), (9, true), (10, true), (11, true), (12, true), (13, true)] mixed (by decide +kernel) rfl ?_
  intro ln aI
  replace H := H.ext aI
  clear aI
  refine ⟨(H.pk [0, 1, 2, 3, 4, 5, 6, 7, 8, 9, 10, 11]), ?_⟩
  refine d_q rfl (fun w' H => x_fa (a := Pq ak) (v := Oq ak 1) rfl (fa_blk (o := 0) Fd30_1 Sz28)) ?_
  refine d_q rfl (fun w' H => x_ld (p := Oq ak 1) (v := ap) rfl (ldb_sc Sc28 (H.bl 8) rfl)) ?_
  refine d_q rfl (fun w' H => x_fa (a := Pq aE) (v := Pq aE) rfl (fa_blk (o := 0) Fd56_0 Sz3)) ?_
  refine d_q rfl (fun w' H => x_ld (p := Pq aE) (v := I aa) rfl (ldb_sc Sc3 (H.bl 1) rfl)) ?_
  obtain ⟨gg, hM⟩ := M.e_grd hM
  simp only [Bool.and_eq_true, decide_eq_true_eq] at gg
  refine d_q rfl (fun w' H => x_ix (a := ap) (b := I aa) (v := vat ap 1 (Int.toNat aa)) rfl rfl (Sl.ix (α := Int) T28.und T28.size (H.os 3) (by omega) (by omega))) ?_
  refine d_q rfl (fun w' H => x_ld (p := vat ap 1 (Int.toNat aa)) (v := I (ab.getD (Int.toNat aa) 0)) rfl (ld_sc Sc3 (At.mono (Int_at (H.os 3) (i := aa) (by omega) (by omega)) (H.ol 3)))) ?_
  refine d_q rfl (fun w' H => x_fa (a := Pq ak) (v := Oq ak 1) rfl (fa_blk (o := 0) Fd30_1 Sz28)) ?_
  refine d_q rfl (fun w' H => x_ld (p := Oq ak 1) (v := ap) rfl (ldb_sc Sc28 (H.bl 8) rfl)) ?_
  refine d_q rfl (fun w' H => x_fa (a := Pq aE) (v := Oq aE 1) rfl (fa_blk (o := 0) Fd56_1 Sz3)) ?_
  refine d_q rfl (fun w' H => x_ld (p := Oq aE 1) (v := I (aa + ai)) rfl (ldb_sc Sc3 (H.bl 1) rfl)) ?_
  obtain ⟨gh, hM⟩ := M.e_grd hM
  simp only [Bool.and_eq_true, decide_eq_true_eq] at gh
  refine d_q rfl (fun w' H => x_ix (a := ap) (b := I (aa + ai)) (v := vat ap 1 (Int.toNat (aa + ai))) rfl rfl (Sl.ix (α := Int) T28.und T28.size (H.os 3) (by omega) (by omega))) ?_
  refine d_q rfl (fun w' H => x_ld (p := vat ap 1 (Int.toNat (aa + ai))) (v := I (ab.getD (Int.toNat (aa + ai)) 0)) rfl (ld_sc Sc3 (At.mono (Int_at (H.os 3) (i := aa + ai) (by omega) (by omega)) (H.ol 3)))) ?_
  refine d_q rfl (fun w' H => x_as (v := I (ab.getD (Int.toNat aa) 0)) rfl) ?_
  refine d_q rfl (fun w' H => x_as (v := I (ab.getD (Int.toNat (aa + ai)) 0)) rfl) ?_
  refine d_nil ?_
  refine W.seq ?_
  refine W.region rfl ?_
  refine zM (I (ab.getD (Int.toNat aa) 0)) rfl ?_
  refine zM (I (ab.getD (Int.toNat (aa + ai)) 0)) rfl ?_
  refine s_val (x_min (kd := .i64) (a := ab.getD (Int.toNat aa) 0) (b := ab.getD (Int.toNat (aa + ai)) 0) rfl rfl) ?_
  refine zM (Pq ae) rfl ?_
  obtain ⟨lp, gi, hM⟩ := M.e_bind hM
  refine s_call cf9 [Pq ae, I 8] rfl (zae s_bytes cM cN 8 (aw.app _) ax gi _ (H.gt 11)) ?_
  rintro vq lq ⟨aM, gj, gk, gm, hvq, ac⟩
  subst gm
  subst vq
  try dsimp only at hM
  replace H := H.bk ac
  clear ac
  obtain ⟨gp, hM⟩ := M.e_grd hM
  simp only [Bool.and_eq_true, decide_eq_true_eq] at gp
  refine zR (min (ab.getD (Int.toNat aa) 0) (ab.getD (Int.toNat (aa + ai)) 0)) aM ((min (ab.getD (Int.toNat aa) 0) (ab.getD (Int.toNat (aa + ai)) 0)) - aM) rfl rfl rfl (by omega) ?_
  refine zM (I (ab.getD (Int.toNat aa) 0)) rfl ?_
  refine zM (I (ab.getD (Int.toNat (aa + ai)) 0)) rfl ?_
  refine s_val (x_max (kd := .i64) (a := ab.getD (Int.toNat aa) 0) (b := ab.getD (Int.toNat (aa + ai)) 0) rfl rfl) ?_
  refine zM (Pq ae) rfl ?_
  obtain ⟨lr, gq, hM⟩ := M.e_bind hM
  refine s_call cf9 [Pq ae, I 8] rfl (zae s_bytes gj gk 8 (aw.app _) ax gq _ (H.gt 11)) ?_
  rintro vq lu ⟨aN, gr, gu, gv, hvq, ac⟩
  subst gv
  subst vq
  try dsimp only at hM
  replace H := H.bk ac
  clear ac
  obtain ⟨gw, hM⟩ := M.e_grd hM
  simp only [Bool.and_eq_true, decide_eq_true_eq] at gw
  refine zR (max (ab.getD (Int.toNat aa) 0) (ab.getD (Int.toNat (aa + ai)) 0)) aN ((max (ab.getD (Int.toNat aa) 0) (ab.getD (Int.toNat (aa + ai)) 0)) + aN) rfl rfl rfl (by omega) ?_
  refine s_val (x_bld (ps := [(0, I ((min (ab.getD (Int.toNat aa) 0) (ab.getD (Int.toNat (aa + ai)) 0)) - aM)), (1, I ((max (ab.getD (Int.toNat aa) 0) (ab.getD (Int.toNat (aa + ai)) 0)) + aN))]) (zs := [I 0, I 0]) (L' := [I ((min (ab.getD (Int.toNat aa) 0) (ab.getD (Int.toNat (aa + ai)) 0)) - aM), I ((max (ab.getD (Int.toNat aa) 0) (ab.getD (Int.toNat (aa + ai)) 0)) + aN)]) rfl Try.underlying44 Al44 rfl (Bd44 Try.underlying44) (.cons (cs := [I ((min (ab.getD (Int.toNat aa) 0) (ab.getD (Int.toNat (aa + ai)) 0)) - aM)]) rfl rfl rfl rfl rfl <| .cons (cs := [I ((max (ab.getD (Int.toNat aa) 0) (ab.getD (Int.toNat (aa + ai)) 0)) + aN)]) rfl rfl rfl rfl rfl <| .nil)) ?_
  refine s_val (x_fa (a := Pq aE) (v := Oq aE 2) rfl (fa_blk (o := 0) Fd56_2 Sz44)) ?_
  refine t_sw 1 2 [I ((min (ab.getD (Int.toNat aa) 0) (ab.getD (Int.toNat (aa + ai)) 0)) - aM), I ((max (ab.getD (Int.toNat aa) 0) (ab.getD (Int.toNat (aa + ai)) 0)) + aN)] (.agg #[I ((min (ab.getD (Int.toNat aa) 0) (ab.getD (Int.toNat (aa + ai)) 0)) - aM), I ((max (ab.getD (Int.toNat aa) 0) (ab.getD (Int.toNat (aa + ai)) 0)) + aN)]) H rfl rfl Sz44 rfl rfl rfl rfl ?_
  intro lv H
  refine s_nil ?_
  refine W.region rfl ?_
  refine s_val (x_fa (a := Pq ag) (v := Oq ag 2) rfl (fa_blk (o := 0) Fd27_2 Sz25)) ?_
  refine s_val (x_ld (p := Oq ag 2) (v := aF) rfl (ldb_sc Sc25 (H.bl 9) rfl)) ?_
  refine s_val (x_ld (p := Pq aE) (v := .agg #[I aa, I (aa + ai), I ((min (ab.getD (Int.toNat aa) 0) (ab.getD (Int.toNat (aa + ai)) 0)) - aM), I ((max (ab.getD (Int.toNat aa) 0) (ab.getD (Int.toNat (aa + ai)) 0)) + aN), B (aJ == 0)]) rfl (ldb_ag (ds := [I aa, I (aa + ai), I ((min (ab.getD (Int.toNat aa) 0) (ab.getD (Int.toNat (aa + ai)) 0)) - aM), I ((max (ab.getD (Int.toNat aa) 0) (ab.getD (Int.toNat (aa + ai)) 0)) + aN), B (aJ == 0)]) Ag56 Sz56 (H.bl 1) rfl rfl)) ?_
  refine t_bs (α := Rch) T25 [.agg #[I aa, I (aa + ai), I ((min (ab.getD (Int.toNat aa) 0) (ab.getD (Int.toNat (aa + ai)) 0)) - aM), I ((max (ab.getD (Int.toNat aa) 0) (ab.getD (Int.toNat (aa + ai)) 0)) + aN), B (aJ == 0)]] [(⟨(aa : Int), (aa + ai : Int), ((min (ab.getD (Int.toNat aa) 0) (ab.getD (Int.toNat (aa + ai)) 0)) - aM : Int), ((max (ab.getD (Int.toNat aa) 0) (ab.getD (Int.toNat (aa + ai)) 0)) + aN : Int), (aJ == 0)⟩ : Rch)] H rfl (.cons rfl (Flat.rep_enc _ (⟨(aa : Int), (aa + ai : Int), ((min (ab.getD (Int.toNat aa) 0) (ab.getD (Int.toNat (aa + ai)) 0)) - aM : Int), ((max (ab.getD (Int.toNat aa) 0) (ab.getD (Int.toNat (aa + ai)) 0)) + aN : Int), (aJ == 0)⟩ : Rch)) <| .nil) rfl rfl rfl ?_
  intro gx lw H
  obtain ⟨gy, hM⟩ := M.e_grd hM
  simp only [Bool.and_eq_true, decide_eq_true_eq] at gy
  refine t_app (α := Rch) (k := 3) (l := aZ) (l2 := [(⟨(aa : Int), (aa + ai : Int), ((min (ab.getD (Int.toNat aa) 0) (ab.getD (Int.toNat (aa + ai)) 0)) - aM : Int), ((max (ab.getD (Int.toNat aa) 0) (ab.getD (Int.toNat (aa + ai)) 0)) + aN : Int), (aJ == 0)⟩ : Rch)]) (l' := aZ ++ ([(⟨(aa : Int), (aa + ai : Int), ((min (ab.getD (Int.toNat aa) 0) (ab.getD (Int.toNat (aa + ai)) 0)) - aM : Int), ((max (ab.getD (Int.toNat aa) 0) (ab.getD (Int.toNat (aa + ai)) 0)) + aN : Int), (aJ == 0)⟩ : Rch)])) (vy := gx) T25 rfl H rfl rfl rfl (H.os 0) (H.ol 0) (rfl) (by first | omega | (simp only [List.length_nil] at *; omega)) ?_
  intro cc lx H
  replace H := H.nf
  refine s_val (x_fa (a := Pq ag) (v := Oq ag 2) rfl (fa_blk (o := 0) Fd27_2 Sz25)) ?_
  refine t_sw 10 2 [cc] cc H rfl rfl Sz25 (Sl.cells (H.os 3)) rfl rfl (by simp only [List.all_cons, List.all_nil, Bool.true_and, Bool.and_true, Sl.oc (H.os 3)]; try rfl) ?_
  intro ly H
  refine s_nil ?_
  replace H := H.pk [1, 3, 4, 5, 6, 7, 8, 9, 10, 11, 12]
  refine W.region rfl ?_
  refine zM (I n2) rfl ?_
  obtain ⟨gz, hM⟩ := M.e_grd hM
  simp only [Bool.and_eq_true, decide_eq_true_eq] at gz
  refine zR n2 1 (n2 - 1) rfl rfl rfl (by omega) ?_
  refine zA (I (n2 - 1)) rfl ?_
  refine s_nil ?_
  exact ⟨fT, fU, gr, gu, n2 - 1, aZ ++ ([(⟨(aa : Int), (aa + ai : Int), ((min (ab.getD (Int.toNat aa) 0) (ab.getD (Int.toNat (aa + ai)) 0)) - aM : Int), ((max (ab.getD (Int.toNat aa) 0) (ab.getD (Int.toNat (aa + ai)) 0)) + aN : Int), (aJ == 0)⟩ : Rch)]), cc, _, upds_of _ _ ⟨rfl, rfl, rfl, rfl, rfl, rfl, trivial⟩, M.e_inl hM cL, (H.pk [1, 0, 2, 3, 4, 5, 6, 7, 8, 9, 10])⟩
 replace hM := M.e_f hM bv
 simp only [qy1, qy2, qy3, qy4, qy5, qy6, ne_eq, qy7] at bv
 refine W.exit ?_
 have gA := M.e_inr hM cL
 subst gA
 replace hM := fS
 try dsimp only at hM
 refine W.seq ?_
 refine W.draw (fun W => St w W [cOwn (α := Rch) 56 aF aZ, cBlk ae [aQ, I bj, I bm] 68, cOwn (α := Int) 3 ap ab, cOwn (α := Int) 3 ao aj, cOwn (α := Mrk) 46 aD bf, cOwn (α := Raw 1) 39 am aC, cRo B_l9, cBlk ak [ao, ap] 30, cBlk ag [am, aD, aF] 27] R) [(0, true), (1, true), (2, false), (3, false)] mixed (by decide +kernel) rfl ?_
 intro lz aI
 replace H := H.ext aI
 clear aI
 refine ⟨(H.pk [0, 1, 2, 3, 4, 5, 6, 7, 8]), ?_⟩
 refine d_q rfl (fun w' H => x_ld (p := Pq ag) (v := .agg #[am, aD, aF]) rfl (ldb_ag (ds := [am, aD, aF]) Ag27 Sz27 (H.bl 8) rfl rfl)) ?_
 refine d_q rfl (fun w' H => x_ld (p := Pq ak) (v := .agg #[ao, ap]) rfl (ldb_ag (ds := [ao, ap]) Ag30 Sz30 (H.bl 7) rfl rfl)) ?_
 refine d_l rfl ?_
 refine t_sw 10 0 [am, aD, aF] (.agg #[am, aD, aF]) H rfl rfl Sz27 rfl rfl rfl (by simp only [List.all_cons, List.all_nil, Bool.true_and, Bool.and_true, Sl.oc (rowSl rfl (H.get (k := 5) rfl) (roLe _ (H.get (k := 6) rfl)) aB), Sl.oc (H.os 4), Sl.oc (H.os 0)]; try rfl) ?_
 intro lA H
 refine s_nil ⟨(H.pk [0, 1, 2, 3, 4, 5, 6, 7, 8]), ?_⟩
 refine d_l rfl ?_
 refine t_sw 9 0 [ao, ap] (.agg #[ao, ap]) H rfl rfl Sz30 rfl rfl rfl (by simp only [List.all_cons, List.all_nil, Bool.true_and, Bool.and_true, Sl.oc (H.os 3), Sl.oc (H.os 2)]; try rfl) ?_
 intro lB H
 refine s_nil ⟨(H.pk [0, 1, 2, 3, 4, 5, 6, 7, 8]), ?_⟩
 refine d_nil ?_
 replace H := H.pk [0, 1, 2, 3, 4, 5, 6, 9, 10]
 refine W.ret ?_
 have gB := (H.bl 8)
 have gC := (H.bl 7)
 have gD := M.e_pure hM
 exact ⟨_, (resE_ofn (vs := [.agg #[am, aD, aF], .agg #[ao, ap]]) rfl rfl (.cell (v := .agg #[am, aD, aF]) rfl (run_loadVar_ag (ds := [am, aD, aF]) Ag27 Sz27 gB rfl rfl) <| .cell (v := .agg #[ao, ap]) rfl (run_loadVar_ag (ds := [ao, ap]) Ag30 Sz30 gC rfl rfl) <| .nil)), ⟨l9, bf, aZ, aj, ab, bj, bm, am, aC, B_l9, aD, aF, ao, ap, gD, rfl, (H.pk [5, 6, 4, 0, 3, 2, 1]), aB⟩⟩

end Go.Proofs.Ytlemgioaakecpaa
end
namespace Go.Nm
namespace Fl
theorem getD_app {α : Type} {l : List α} {x d : α} {j : Nat} (h : j < l.length) : (l ++ [x]).getD j d = l.getD j d := by
  simp [List.getD, List.getElem?_append_left h]
theorem getD_appE {α : Type} {l : List α} {x d : α} {j : Nat} (h : l.length = j) : (l ++ [x]).getD j d = x := by
  subst h
  simp [List.getD]
/-- A mark about what was. -/
def Mt (S : List Sect) (t : List Int) (m : Mrk) : Prop := Mok m /\ ∃ j, j < S.length /\ (S.getD j default).place <= m.place /\ m.place <= (S.getD j default).place + 19 /\ m.lo <= t.getD j 0 /\ t.getD j 0 <= m.hi
/-- What is made so far. -/
structure Mi (S : List Sect) (M : List Mrk) (t ro : List Int) (place stage : Int) : Prop where
  tl : t.length = S.length
  rl : ro.length = S.length
  rows : ∀ j, j < S.length -> Rows (S.getD j default).rows /\ 2 <= (S.getD j default).rows.length /\ (S.getD j default).rows.length <= 8
  pl : ∀ j, j < S.length -> 0 <= (S.getD j default).place /\ (S.getD j default).place + 21 <= place
  gap : ∀ i j, i < j -> j < S.length -> (S.getD i default).place + 21 <= (S.getD j default).place
  tr : ∀ j, j < S.length -> stage <= t.getD j 0 /\ t.getD j 0 <= 400
  td : ∀ i j, i <= j -> j < S.length -> t.getD j 0 <= t.getD i 0
  mt : ∀ m ∈ M, Mt S t m
  m8 : M.length <= 8
  ro0 : ∀ j, j < S.length -> 30 <= ro.getD j 0 /\ ro.getD j 0 <= 90
  p0 : 0 <= place
  p1 : place <= 50 + 200 * S.length
  s0 : 100 <= stage + 19 * S.length
  s1 : stage <= 400
theorem Mt.app {S : List Sect} {t : List Int} {m : Mrk} {s : Sect} {v : Int} (hl : t.length = S.length) (h : Mt S t m) : Mt (S ++ [s]) (t ++ [v]) m := by
  obtain ⟨h0, j, h1, h2⟩ := h
  refine ⟨h0, j, by simp; omega, ?_⟩
  rw [getD_app h1, getD_app (by omega)]
  exact h2
theorem Mi.step {S : List Sect} {M M' : List Mrk} {t ro : List Int} {place stage p q r : Int} {rows : List FRow} (h : Mi S M t ro place stage) (hr : Rows rows) (h2 : 2 <= rows.length) (h8 : rows.length <= 8) (hm : ∀ m ∈ M', Mt (S ++ [⟨place, rows⟩]) (t ++ [stage]) m) (m8 : M'.length <= 8)
    (hp : 21 <= p /\ p <= 200) (hq : 0 <= q /\ q <= 19) (hro : 30 <= r /\ r <= 90) : Mi (S ++ [⟨place, rows⟩]) M' (t ++ [stage]) (ro ++ [r]) (place + p) (stage - q) := by
  have e1 := h.tl
  have e2 := h.rl
  have p0 := h.p0
  have p1 := h.p1
  have s0 := h.s0
  have s1 := h.s1
  have split : ∀ j, j < (S ++ [(⟨place, rows⟩ : Sect)]).length -> j < S.length ∨ j = S.length := fun j hj => by simp at hj; omega
  refine ⟨by simp [e1], by simp [e2], fun j hj => ?_, fun j hj => ?_, fun i j hij hj => ?_, fun j hj => ?_, fun i j hij hj => ?_, hm, m8, fun j hj => ?_, by omega, by simp; omega, by simp; omega, by omega⟩
  · rcases split j hj with e | rfl
    · rw [getD_app e]; exact h.rows j e
    · rw [getD_appE rfl]; exact ⟨hr, h2, h8⟩
  · rcases split j hj with e | rfl
    · rw [getD_app e]; have := h.pl j e; omega
    · rw [getD_appE rfl]; dsimp only; omega
  · rcases split j hj with e | rfl
    · rw [getD_app e, getD_app (by omega)]; exact h.gap i j hij e
    · rw [getD_appE rfl, getD_app hij]; exact (h.pl i hij).2
  · rcases split j hj with e | rfl
    · rw [getD_app (by omega)]; have := h.tr j e; omega
    · rw [getD_appE e1]; omega
  · rcases split j hj with e | rfl
    · rw [getD_app (by omega), getD_app (by omega)]; exact h.td i j hij e
    · rw [getD_appE e1]
      rcases Nat.lt_or_eq_of_le hij with e | rfl
      · rw [getD_app (by omega)]; exact (h.tr i e).1
      · rw [getD_appE e1]; exact Int.le_refl _
  · rcases split j hj with e | rfl
    · rw [getD_app (by omega)]; exact h.ro0 j e
    · rw [getD_appE e2]; exact hro
end Fl
end Go.Nm
namespace Go.Proofs.Ytlemgioaakecpaa
open Go Go.Nm
end Go.Proofs.Ytlemgioaakecpaa
namespace Go.Proofs.Ytlemgioaakecpaa
open Go Go.Nm
theorem b10_out {b : List UInt8} {u x N : Int} {S : List Sect} {ro : List Int} (hS : SOk 2000 u x) (hn : 2 <= S.length /\ S.length <= 5) (hl : ro.length = S.length) (hro : ∀ j, j < S.length -> 30 <= ro.getD j 0 /\ ro.getD j 0 <= 90) (hN : 1 <= N /\ N <= 4) :
    (M.iter (zaT b ro S) (u, x, N, [])).Out (fun z => z.1 = z.2.1 /\ 1 <= z.1.length /\ z.1.length <= 4 /\ ∀ r ∈ z.1, Fl.Rok S r /\ r.lo <= ro.getD (Int.toNat r.up) 0 /\ r.lo <= ro.getD (Int.toNat r.down) 0 /\ ro.getD (Int.toNat r.up) 0 <= r.hi /\ ro.getD (Int.toNat r.down) 0 <= r.hi) := by
  refine M.o_iter (fun m (s : Int × Int × Int × List Rch) => m = s.2.2.1.toNat /\ 0 <= s.2.2.1 /\ s.2.2.1 + s.2.2.2.length = N /\ SOk (2000 + 10 * s.2.2.2.length) s.1 s.2.1 /\ ∀ r ∈ s.2.2.2, Fl.Rok S r /\ r.lo <= ro.getD (Int.toNat r.up) 0 /\ r.lo <= ro.getD (Int.toNat r.down) 0 /\ ro.getD (Int.toNat r.up) 0 <= r.hi /\ ro.getD (Int.toNat r.down) 0 <= r.hi) ?_ _ (u, x, N, []) ⟨rfl, by dsimp only; omega, by simp, by simpa using hS, fun r hr => (List.not_mem_nil hr).elim⟩
  rintro m ⟨u, x, n, l⟩ ⟨rfl, n0, nl, hS, hr⟩
  dsimp only at n0 nl hS hr ⊢
  simp only [zaT]
  refine M.o_if (fun hb => ?_) (fun hb => ?_)
  · have hb := of_decide_eq_true hb
    refine M.o_bind (next_out hS (by omega) (by omega)) ?_
    rintro ⟨a, u1, x1⟩ ⟨k1, g1, _⟩
    have g1 := g1 (by omega)
    dsimp only at k1 g1 ⊢
    refine M.o_bind (next_out k1 (by omega) (by omega)) ?_
    rintro ⟨w, u2, x2⟩ ⟨k2, g2, _⟩
    dsimp only at k2 ⊢
    refine M.o_grd (gA2 (by omega) (by omega)) (M.o_bind (within_out k2 (by omega) (by omega) (by omega) (by omega)) ?_)
    rintro ⟨d, u3, x3⟩ ⟨k3, g3, g3'⟩
    dsimp only at k3 g3 g3' ⊢
    have ra := hro (Int.toNat a) (by omega)
    have rb := hro (Int.toNat (a + d)) (by omega)
    refine M.o_grd (gA2 (by omega) (by omega)) (M.o_grd (gA2 (by omega) (by omega)) (M.o_grd (gA2 (by omega) (by omega)) (M.o_bind (next_out k3 (by omega) (by omega)) ?_)))
    rintro ⟨e, u4, x4⟩ ⟨k4, g4, _⟩
    have g4 := g4 (by omega)
    dsimp only at k4 g4 ⊢
    refine M.o_grd (gA2 (by omega) (by omega)) (M.o_bind (next_out k4 (by omega) (by omega)) ?_)
    rintro ⟨f, u5, x5⟩ ⟨k5, g5, _⟩
    have g5 := g5 (by omega)
    dsimp only at k5 g5 ⊢
    refine M.o_grd (gA2 (by omega) (by omega)) (M.o_grd (decide_eq_true (by simp; omega)) (M.o_grd (gA2 (by omega) (by omega)) (M.o_pure ⟨(n - 1).toNat, by omega, rfl, by dsimp only; omega, by simp; omega, k5.mono (by simp; omega), fun r h => ?_⟩)))
    rcases List.mem_append.1 h with h | h
    · exact hr r h
    · rw [List.mem_singleton] at h
      subst h
      dsimp only
      exact ⟨⟨by dsimp only; omega, by dsimp only; omega, by dsimp only; omega, by dsimp only; omega, by dsimp only; omega, by dsimp only; omega⟩, by omega, by omega, by omega, by omega⟩
  · have hb := of_decide_eq_false hb
    exact M.o_pure ⟨rfl, by dsimp only; omega, by dsimp only; omega, hr⟩
end Go.Proofs.Ytlemgioaakecpaa
namespace Go.Nm
namespace Fl
/-- A mark that lies where marks are made. -/
def Mk (m : Mrk) : Prop := Mok m /\ m.place <= 2000 /\ m.hi <= 430
/-- What is made so far. -/
structure Mj (K : Nat) (S : List Sect) (M : List Mrk) (t ro : List Int) (place stage : Int) : Prop where
  tl : t.length = S.length
  rl : ro.length = S.length
  rows : ∀ j, j < S.length -> Rows (S.getD j default).rows /\ 2 <= (S.getD j default).rows.length /\ (S.getD j default).rows.length <= 8 /\ ∀ e ∈ (S.getD j default).rows, e.stage <= 860
  pl : ∀ j, j < S.length -> 0 <= (S.getD j default).place /\ (S.getD j default).place + 21 <= place
  gap : ∀ i j, i < j -> j < S.length -> (S.getD i default).place + 21 <= (S.getD j default).place
  tr : ∀ j, j < S.length -> stage <= t.getD j 0 /\ t.getD j 0 <= 400
  mt : ∀ m ∈ M, Mk m
  m9 : M.length <= K
  ro0 : ∀ j, j < S.length -> 30 <= ro.getD j 0 /\ ro.getD j 0 <= 90
  p0 : 0 <= place
  p1 : place <= 50 + 200 * S.length
  s0 : 100 <= stage + 19 * S.length
  s1 : stage <= 400
theorem Mj.step {K : Nat} {S : List Sect} {M M' : List Mrk} {t ro : List Int} {place stage p q r : Int} {rows : List FRow} (h : Mj K S M t ro place stage) (hr : Rows rows) (h2 : 2 <= rows.length) (h8 : rows.length <= 8) (he : ∀ e ∈ rows, e.stage <= 860) (hm : ∀ m ∈ M', Mk m) (m9 : M'.length <= K)
    (hp : 21 <= p /\ p <= 200) (hq : 0 <= q /\ q <= 19) (hro : 30 <= r /\ r <= 90) : Mj K (S ++ [⟨place, rows⟩]) M' (t ++ [stage]) (ro ++ [r]) (place + p) (stage - q) := by
  have e1 := h.tl
  have e2 := h.rl
  have p0 := h.p0
  have p1 := h.p1
  have s0 := h.s0
  have s1 := h.s1
  have split : ∀ j, j < (S ++ [(⟨place, rows⟩ : Sect)]).length -> j < S.length ∨ j = S.length := fun j hj => by simp at hj; omega
  refine ⟨by simp [e1], by simp [e2], fun j hj => ?_, fun j hj => ?_, fun i j hij hj => ?_, fun j hj => ?_, hm, m9, fun j hj => ?_, by omega, by simp; omega, by simp; omega, by omega⟩
  · rcases split j hj with e | rfl
    · rw [getD_app e]; exact h.rows j e
    · rw [getD_appE rfl]; exact ⟨hr, h2, h8, he⟩
  · rcases split j hj with e | rfl
    · rw [getD_app e]; have := h.pl j e; omega
    · rw [getD_appE rfl]; dsimp only; omega
  · rcases split j hj with e | rfl
    · rw [getD_app e, getD_app (by omega)]; exact h.gap i j hij e
    · rw [getD_appE rfl, getD_app hij]; exact (h.pl i hij).2
  · rcases split j hj with e | rfl
    · rw [getD_app (by omega)]; have := h.tr j e; omega
    · rw [getD_appE e1]; omega
  · rcases split j hj with e | rfl
    · rw [getD_app (by omega)]; exact h.ro0 j e
    · rw [getD_appE e2]; exact hro
end Fl
end Go.Nm
namespace Go.Proofs.Ytlemgioaakecpaa
open Go Go.Nm
theorem b6_lim {b : List UInt8} {c u x a0 c0 K : Int} (hS : SOk c u x) (hc : c <= 100000) (ha : 0 <= a0 /\ a0 <= 60) (hc0 : 0 <= c0 /\ c0 <= 50) (hK : 2 <= K /\ K <= 4) :
    (M.iter (za5 b) (u, x, a0, c0, K, [])).Out (fun z => SOk (c + 10) z.1 z.2.1 /\ Fl.Rows z.2.2.2 /\ 2 <= z.2.2.2.length /\ z.2.2.2.length <= 8 /\ ∀ e ∈ z.2.2.2, e.stage <= 860) := by
  refine M.o_iter (fun m (s : Int × Int × Int × Int × Int × List FRow) => m = s.2.2.2.2.1.toNat /\ 0 <= s.2.2.2.2.1 /\ s.2.2.2.2.1 + s.2.2.2.2.2.length = K /\ SOk (c + 2 * s.2.2.2.2.2.length) s.1 s.2.1 /\ Fl.Rows s.2.2.2.2.2 /\ (∀ e ∈ s.2.2.2.2.2, e.stage < s.2.2.1 /\ e.carry <= s.2.2.2.1) /\ 0 <= s.2.2.1 /\ s.2.2.1 <= 60 + 200 * s.2.2.2.2.2.length /\ 0 <= s.2.2.2.1 /\ s.2.2.2.1 <= 50 + 2000 * s.2.2.2.2.2.length) ?_ _ (u, x, a0, c0, K, []) ⟨rfl, by dsimp only; omega, by simp, by simpa using hS, trivial, fun e he => (List.not_mem_nil he).elim, ha.1, by simp; omega, hc0.1, by simp; omega⟩
  rintro m ⟨u, x, a, ca, k, l⟩ ⟨rfl, k0, kl, hS, hr, he, a1, a2, c1, c2⟩
  dsimp only at k0 kl hS hr he a1 a2 c1 c2 ⊢
  simp only [za5]
  refine M.o_if (fun hb => ?_) (fun hb => ?_)
  · have hb := of_decide_eq_true hb
    refine M.o_grd (decide_eq_true (by simp; omega)) (M.o_bind (within_out hS (by omega) (by omega) (by omega) (by omega)) ?_)
    rintro ⟨r8, u8, x8⟩ ⟨k8, g8, g8'⟩
    dsimp only at k8 g8 g8' ⊢
    refine M.o_grd (gA2 (by omega) (by omega)) (M.o_bind (next_out k8 (by omega) (by omega)) ?_)
    rintro ⟨r9, u9, x9⟩ ⟨k9, g9, _⟩
    have g9 := g9 (by omega)
    dsimp only at k9 g9 ⊢
    refine M.o_grd (gA2 (by omega) (by omega)) (M.o_grd (gA2 (by omega) (by omega)) (M.o_pure ⟨(k - 1).toNat, by omega, rfl, by dsimp only; omega, by simp; omega, k9.mono (by simp; omega), hr.snoc he a1 (by dsimp only; omega) c1 (by dsimp only; omega), fun e h => ?_, by dsimp only; omega, by simp; omega, by dsimp only; omega, by simp; omega⟩))
    rcases List.mem_append.1 h with h | h
    · have := he e h
      dsimp only
      omega
    · rw [List.mem_singleton] at h
      subst h
      dsimp only
      omega
  · have hb := of_decide_eq_false hb
    exact M.o_pure ⟨hS.mono (by omega), hr, by dsimp only; omega, by dsimp only; omega, fun e h => by have := he e h; omega⟩
theorem b7_any {b : List UInt8} {c u x place stage k : Int} {K : Nat} {lies : Bool} (hS : SOk c u x) (hc : c <= 100000) (hk : 0 <= k /\ k <= 2) (hp : 0 <= place /\ place <= 1100) (hs : 0 <= stage /\ stage <= 400) {l : List Mrk} (hK : K <= 9) (hl : l.length <= K) (h0 : ∀ m ∈ l, Fl.Mk m) :
    (M.iter (za3 b (K : Int) lies place stage) (u, x, k, l)).Out (fun z => SOk (c + 20) z.1 z.2.1 /\ (∀ m ∈ z.2.2.2, Fl.Mk m) /\ z.2.2.2.length <= K) := by
  refine M.o_iter (fun m (s : Int × Int × Int × List Mrk) => m = s.2.2.1.toNat /\ 0 <= s.2.2.1 /\ s.2.2.1 <= 2 /\ SOk (c + 10 * (2 - s.2.2.1)) s.1 s.2.1 /\ (∀ m ∈ s.2.2.2, Fl.Mk m) /\ s.2.2.2.length <= K) ?_ _ (u, x, k, l) ⟨rfl, hk.1, hk.2, hS.mono (by dsimp only; omega), h0, hl⟩
  rintro m ⟨u, x, k, l⟩ ⟨rfl, k0, k2, hS, hm, h8⟩
  dsimp only at k0 k2 hS hm h8 ⊢
  simp only [za3]
  refine M.o_if (fun hb => ?_) (fun hb => ?_)
  · rw [Bool.and_eq_true, decide_eq_true_eq, decide_eq_true_eq] at hb
    refine M.o_bind (next_out hS (by omega) (by omega)) ?_
    rintro ⟨r1, u1, x1⟩ ⟨k1, g1, _⟩
    have g1 := g1 (by omega)
    dsimp only at k1 g1 ⊢
    refine M.o_bind (next_out k1 (by omega) (by omega)) ?_
    rintro ⟨r2, u2, x2⟩ ⟨kk2, g2, _⟩
    have g2 := g2 (by omega)
    dsimp only at kk2 g2 ⊢
    have hd : 0 <= r1 * r2 /\ r1 * r2 <= 19 := by
      rcases (by omega : r1 = 0 ∨ r1 = 1) with rfl | rfl
      · simp
      · simp; omega
    generalize r1 * r2 = d at hd ⊢
    refine M.o_grd (gA2 (by omega) (by omega)) (M.o_grd (gA2 (by omega) (by omega)) (M.o_bind (next_out kk2 (by omega) (by omega)) ?_))
    rintro ⟨r3, u3, x3⟩ ⟨k3, g3, _⟩
    have g3 := g3 (by omega)
    dsimp only at k3 g3 ⊢
    refine M.o_grd (gA2 (by omega) (by omega)) (M.o_bind (next_out k3 (by omega) (by omega)) ?_)
    rintro ⟨r4, u4, x4⟩ ⟨k4, g4, _⟩
    have g4 := g4 (by omega)
    dsimp only at k4 g4 ⊢
    have tru : Fl.Mk ⟨place + d, max 0 (stage - r3), stage + r4⟩ := ⟨⟨by dsimp only; omega, by dsimp only; omega, by dsimp only; omega, by dsimp only; omega, by dsimp only; omega⟩, by dsimp only; omega, by dsimp only; omega⟩
    have add : ∀ y : Mrk, Fl.Mk y -> ∀ m ∈ l ++ [y], Fl.Mk m := fun y hy m h => by
      rcases List.mem_append.1 h with h | h
      · exact hm m h
      · rw [List.mem_singleton] at h; rw [h]; exact hy
    refine M.o_grd (gA2 (by omega) (by omega)) (M.o_if (fun _ => ?_) (fun _ => ?_))
    · refine M.o_bind (next_out k4 (by omega) (by omega)) ?_
      rintro ⟨r5, u5, x5⟩ ⟨k5, _, _⟩
      dsimp only at k5 ⊢
      refine M.o_if (fun _ => ?_) (fun _ => ?_)
      · refine M.o_bind (within_out k5 (by omega) (by omega) (by omega) (by omega)) ?_
        rintro ⟨r6, u6, x6⟩ ⟨k6, g6, g6'⟩
        dsimp only at k6 g6 g6' ⊢
        refine M.o_bind (next_out k6 (by omega) (by omega)) ?_
        rintro ⟨r7, u7, x7⟩ ⟨k7, g7, _⟩
        have g7 := g7 (by omega)
        dsimp only at k7 g7 ⊢
        refine M.o_grd (gA2 (by omega) (by omega)) (M.o_grd (decide_eq_true (by simp; omega)) (M.o_grd (gA2 (by omega) (by omega)) (M.o_pure ⟨(k - 1).toNat, by omega, rfl, by dsimp only; omega, by dsimp only; omega, k7.mono (by dsimp only; omega), add _ ?_, by simp; omega⟩)))
        exact ⟨⟨by dsimp only; omega, by dsimp only; omega, by dsimp only; omega, by dsimp only; omega, by dsimp only; omega⟩, by dsimp only; omega, by dsimp only; omega⟩
      · exact M.o_grd (decide_eq_true (by simp; omega)) (M.o_grd (gA2 (by omega) (by omega)) (M.o_pure ⟨(k - 1).toNat, by omega, rfl, by dsimp only; omega, by dsimp only; omega, k5.mono (by dsimp only; omega), add _ tru, by simp; omega⟩))
    · exact M.o_grd (decide_eq_true (by simp; omega)) (M.o_grd (gA2 (by omega) (by omega)) (M.o_pure ⟨(k - 1).toNat, by omega, rfl, by dsimp only; omega, by dsimp only; omega, k4.mono (by dsimp only; omega), add _ tru, by simp; omega⟩))
  · exact M.o_pure ⟨hS.mono (by omega), hm, h8⟩
theorem b9_any {b : List UInt8} {u x p s N : Int} {K : Nat} {lies : Bool} (hK : K <= 9) (hS : SOk 3 u x) (hp : 0 <= p /\ p <= 50) (hs : 100 <= s /\ s <= 400) (hN : 2 <= N /\ N <= 5) :
    (M.iter (zaY b (K : Int) lies) (u, x, p, s, N, [], [], [], [])).Out (fun z => ∃ S M t ro place stage, z = (z.1, z.2.1, S, M, t, ro, ro, t, M, S) /\ SOk 1000 z.1 z.2.1 /\ Fl.Mj K S M t ro place stage /\ 2 <= S.length /\ S.length <= 5) := by
  refine M.o_iter (fun m (z : Int × Int × Int × Int × Int × List Sect × List Mrk × List Int × List Int) => m = z.2.2.2.2.1.toNat /\ 0 <= z.2.2.2.2.1 /\ z.2.2.2.2.1 + z.2.2.2.2.2.1.length = N /\ SOk (3 + 100 * z.2.2.2.2.2.1.length) z.1 z.2.1 /\ Fl.Mj K z.2.2.2.2.2.1 z.2.2.2.2.2.2.1 z.2.2.2.2.2.2.2.1 z.2.2.2.2.2.2.2.2 z.2.2.1 z.2.2.2.1) ?_ _ (u, x, p, s, N, [], [], [], []) ⟨rfl, by dsimp only; omega, by simp, by simpa using hS, ?_⟩
  · rintro m ⟨u, x, place, stage, n, S, M1, t, ro⟩ ⟨rfl, n0, nl, hS, h⟩
    dsimp only at n0 nl hS h ⊢
    simp only [zaY]
    have e1 := h.tl
    have e2 := h.rl
    have p0 := h.p0
    have p1 := h.p1
    have s0 := h.s0
    have s1 := h.s1
    refine M.o_if (fun hb => ?_) (fun hb => ?_)
    · have hb := of_decide_eq_true hb
      refine M.o_bind (next_out hS (by omega) (by omega)) ?_
      rintro ⟨r5, u5, x5⟩ ⟨k5, g5, _⟩
      have g5 := g5 (by omega)
      dsimp only at k5 g5 ⊢
      refine M.o_bind (next_out k5 (by omega) (by omega)) ?_
      rintro ⟨r6, u6, x6⟩ ⟨k6, g6, _⟩
      have g6 := g6 (by omega)
      dsimp only at k6 g6 ⊢
      refine M.o_bind (within_out k6 (by omega) (by omega) (by omega) (by omega)) ?_
      rintro ⟨r7, u7, x7⟩ ⟨k7, g7, g7'⟩
      dsimp only at k7 g7 g7' ⊢
      refine M.o_bind (b6_lim k7 (by omega) (by omega) (by omega) ⟨g7, g7'⟩) ?_
      rintro ⟨u8, x8, l2, rows⟩ ⟨k8, hr, hr2, hr8, hre⟩
      dsimp only at k8 hr hr2 hr8 hre ⊢
      refine M.o_grd (decide_eq_true (by simp; omega)) (M.o_grd (decide_eq_true (by simp; omega)) (M.o_bind (within_out k8 (by omega) (by omega) (by omega) (by omega)) ?_))
      rintro ⟨r10, u10, x10⟩ ⟨k10, g10, g10'⟩
      dsimp only at k10 g10 g10' ⊢
      refine M.o_grd (decide_eq_true (by simp; omega)) ?_
      unfold zbI
      refine M.o_bind (next_out k10 (by omega) (by omega)) ?_
      rintro ⟨r11, u11, x11⟩ ⟨k11, g11, _⟩
      have g11 := g11 (by omega)
      dsimp only at k11 g11 ⊢
      refine M.o_bind (b7_any k11 (by omega) (by omega) (by omega) (by omega) hK h.m9 h.mt) ?_
      rintro ⟨u12, x12, l5, M2⟩ ⟨k12, hm2, m8⟩
      dsimp only at k12 hm2 m8 ⊢
      refine M.o_bind (within_out k12 (by omega) (by omega) (by omega) (by omega)) ?_
      rintro ⟨r19, u19, x19⟩ ⟨k19, g19, g19'⟩
      dsimp only at k19 g19 g19' ⊢
      refine M.o_grd (gA2 (by omega) (by omega)) (M.o_bind (next_out k19 (by omega) (by omega)) ?_)
      rintro ⟨r20, u20, x20⟩ ⟨k20, g20, _⟩
      have g20 := g20 (by omega)
      dsimp only at k20 g20 ⊢
      exact M.o_grd (gA2 (by omega) (by omega)) (M.o_grd (gA2 (by omega) (by omega)) (M.o_pure ⟨(n - 1).toNat, by omega, rfl, by dsimp only; omega, by simp; omega, k20.mono (by simp; omega), h.step hr hr2 hr8 hre hm2 m8 ⟨g19, g19'⟩ (by omega) ⟨g10, g10'⟩⟩))
    · have hb := of_decide_eq_false hb
      exact M.o_pure ⟨S, M1, t, ro, place, stage, rfl, hS.mono (by omega), h, by omega, by omega⟩
  · refine ⟨rfl, rfl, fun j hj => ?_, fun j hj => ?_, fun i j _ hj => ?_, fun j hj => ?_, fun m hm => (List.not_mem_nil hm).elim, by simp, fun j hj => ?_, hp.1, by simp; omega, by simp; omega, hs.2⟩ <;> simp at hj
/-- A site that is made, with what bounds it. -/
structure Lim (K : Nat) (S : List Sect) (M : List Mrk) (R : List Rch) : Prop where
  site : Fl.Site S M R
  n5 : S.length <= 5
  mK : M.length <= K
  r4 : R.length <= 4
  pl : ∀ j, j < S.length -> (S.getD j default).place <= 2000
  st : ∀ j, j < S.length -> ∀ e ∈ (S.getD j default).rows, e.stage <= 860
  ms : ∀ m ∈ M, m.place <= 2000 /\ m.hi <= 430
theorem lim_of {K : Nat} {S : List Sect} {M' : List Mrk} {R : List Rch} {t ro : List Int} {place stage : Int} (hK : K <= 9) (h : Fl.Mj K S M' t ro place stage) (hn : 2 <= S.length /\ S.length <= 5) (hm : 1 <= M'.length) (hr : 1 <= R.length /\ R.length <= 4)
    (hR : ∀ r ∈ R, Fl.Rok S r) : Lim K S M' R := by
  have p1 := h.p1
  have s0 := h.s0
  have m9 := h.m9
  refine ⟨⟨⟨by omega, fun i hi => ?_, fun i hi => ?_, fun i j hij hj => ?_⟩, by omega, by omega, fun m hm => (h.mt m hm).1, hR⟩, hn.2, m9, hr.2, fun j hj => ?_, fun j hj => (h.rows j hj).2.2.2, fun m hm => (h.mt m hm).2⟩
  · have := h.rows i hi; exact ⟨this.1, this.2.1, this.2.2.1⟩
  · have := h.pl i hi; omega
  · have := h.gap i j hij hj; omega
  · have := h.pl j hj; omega
theorem j11_any {b : List UInt8} {u x : Int} {K : Nat} {S : List Sect} {M' : List Mrk} {t ro : List Int} {place stage : Int} (hK : K <= 9) (h : Fl.Mj K S M' t ro place stage) (hn : 2 <= S.length /\ S.length <= 5) (hm : 1 <= M'.length) (hS : SOk 1000 u x) :
    (zaE b u x ro t S M').Out (fun z => Lim K z.1 z.2.1 z.2.2.1) := by
  unfold zaE
  refine M.o_bind (within_out hS (by omega) (by omega) (by omega) (by omega)) ?_
  rintro ⟨r, u1, x1⟩ ⟨k1, g1, g1'⟩
  dsimp only at k1 g1 g1' ⊢
  refine M.o_bind (b10_out (k1.mono (by omega)) hn h.rl h.ro0 ⟨g1, g1'⟩) ?_
  rintro ⟨l, l', u2, x2⟩ ⟨e, h1, h2, h3⟩
  dsimp only at e h1 h2 h3 ⊢
  subst e
  exact M.o_pure (lim_of hK h hn hm ⟨h1, h2⟩ fun r hr => (h3 r hr).1)
theorem Made_lim {b : List UInt8} {K : Nat} {lies : Bool} (hK : 1 <= K /\ K <= 9) : (zbp b 0 0 (K : Int) lies).Out (fun z => Lim K z.1 z.2.1 z.2.2.1) := by
  unfold zbp
  refine M.o_bind (next_out SOk.zero (by omega) (by omega)) ?_
  rintro ⟨r2, u1, x1⟩ ⟨k1, g1, _⟩
  have g1 := g1 (by omega)
  dsimp only at k1 g1 ⊢
  refine M.o_bind (within_out k1 (by omega) (by omega) (by omega) (by omega)) ?_
  rintro ⟨r3, u2, x2⟩ ⟨k2, g2, g2'⟩
  dsimp only at k2 g2 g2' ⊢
  refine M.o_bind (within_out k2 (by omega) (by omega) (by omega) (by omega)) ?_
  rintro ⟨r4, u3, x3⟩ ⟨k3, g3, g3'⟩
  dsimp only at k3 g3 g3' ⊢
  refine M.o_bind (b9_any hK.2 (k3.mono (by omega)) (by omega) ⟨g2, g2'⟩ ⟨g3, g3'⟩) ?_
  rintro ⟨u4, x4, z⟩ ⟨S, M', t, ro, place, stage, e, k4, h, n2, n5⟩
  obtain rfl := (Prod.mk.inj (Prod.mk.inj e).2).2
  dsimp only at k4 ⊢
  have p1 := h.p1
  have s0 := h.s0
  refine M.o_if (fun hb => ?_) (fun hb => ?_)
  · rw [beq_iff_eq] at hb
    have hz : M'.length = 0 := by omega
    have t0 := h.tr 0 (by omega)
    have p0 := h.pl 0 (by omega)
    have tl := h.tl
    refine M.o_grd (decide_eq_true (by omega)) (M.o_grd (decide_eq_true (by omega)) (M.o_grd (gA2 (by omega) (by omega)) (M.o_grd (gA2 (by omega) (by omega)) (M.o_grd (decide_eq_true (by simp; omega)) (j11_any (place := place) (stage := stage) hK.2 ?_ ⟨n2, n5⟩ (by simp) k4)))))
    have hm : Fl.Mk ⟨(S.getD 0 default).place, t.getD 0 0 - 5, t.getD 0 0 + 5⟩ := ⟨⟨by dsimp only; omega, by dsimp only; omega, by dsimp only; omega, by dsimp only; omega, by dsimp only; omega⟩, by dsimp only; omega, by dsimp only; omega⟩
    exact ⟨h.tl, h.rl, h.rows, h.pl, h.gap, h.tr, fun m hmm => by
      rcases List.mem_append.1 hmm with hmm | hmm
      · exact h.mt m hmm
      · rw [List.mem_singleton] at hmm
        subst hmm
        exact hm, by simp; omega, h.ro0, h.p0, h.p1, h.s0, h.s1⟩
  · rw [beq_eq_false_iff_ne] at hb
    exact j11_any hK.2 h ⟨n2, n5⟩ (by omega) k4
end Go.Proofs.Ytlemgioaakecpaa
namespace Go.Nm
namespace Fl
/-- As many numbers below n as there are of a kind. -/
def cnt (p : Nat -> Bool) : Nat -> Nat
  | 0 => 0
  | n + 1 => cnt p n + (if p n = true then 1 else 0)
theorem cnt_le {p q : Nat -> Bool} : ∀ n, (∀ b, b < n -> p b = true -> q b = true) -> cnt p n <= cnt q n
  | 0, _ => Nat.le_refl _
  | n + 1, h => by
    have h1 := cnt_le n (fun b hb => h b (by omega))
    unfold cnt
    by_cases e : p n = true
    · rw [if_pos e, if_pos (h n (by omega) e)]; omega
    · rw [if_neg e]; omega
theorem cnt_lt {p q : Nat -> Bool} : ∀ n, (∀ b, b < n -> p b = true -> q b = true) -> ∀ x, x < n -> p x = false -> q x = true -> cnt p n < cnt q n
  | 0, _, _, h, _, _ => by omega
  | n + 1, h, x, hx, h1, h2 => by
    unfold cnt
    by_cases e : x = n
    · subst e
      have h3 := cnt_le x (fun b hb => h b (by omega))
      rw [h1, h2]
      simp
      omega
    · have h3 := cnt_lt n (fun b hb => h b (by omega)) x (by omega) h1 h2
      by_cases e : p n = true
      · rw [if_pos e, if_pos (h n (by omega) e)]; omega
      · rw [if_neg e]; omega
section
variable {M : List Mrk}
/-- A mark contradicts another one that lies no less far downstream. -/
def ah (M : List Mrk) (a b : Nat) : Prop := (M.getD a default).place <= (M.getD b default).place /\ (M.getD a default).hi < (M.getD b default).lo
instance (a b : Nat) : Decidable (ah M a b) := inferInstanceAs (Decidable (_ /\ _))
theorem mk_lh (hk : ∀ x ∈ M, Mok x) {b : Nat} (hb : b < M.length) : (M.getD b default).lo <= (M.getD b default).hi := by
  rw [getD_el M hb]
  exact (hk _ (List.getElem_mem hb)).lh
theorem ah_trans (hk : ∀ x ∈ M, Mok x) {a b c : Nat} (hb : b < M.length) (h1 : ah M a b) (h2 : ah M b c) : ah M a c := by
  have := mk_lh hk hb
  obtain ⟨a1, a2⟩ := h1
  obtain ⟨b1, b2⟩ := h2
  exact ⟨Int.le_trans a1 b1, by omega⟩
theorem ah_irr (hk : ∀ x ∈ M, Mok x) {a : Nat} (ha : a < M.length) : ¬ah M a a := fun h => by
  have := mk_lh hk ha
  have := h.2
  omega
/-- What was met. -/
def met (mp : Int -> Option Bool) (b : Nat) : Bool := (mp (b : Int)).getD false
theorem met_upd {mp : Int -> Option Bool} {i b : Nat} : met (updF mp (i : Int) true) b = true ↔ b = i ∨ met mp b = true := by
  unfold met updF
  by_cases e : (b : Int) = (i : Int)
  · rw [if_pos e]
    have : b = i := by omega
    simp [this]
  · rw [if_neg e]
    have : b ≠ i := by omega
    simp [this]
/-- Which mark follows each one in its row, and which one it follows. -/
structure Mtc (M : List Mrk) (nx ls : List Int) : Prop where
  n1 : nx.length = 16
  l1 : ls.length = 16
  l : ∀ b, b < M.length -> ls.getD b 0 = -1 ∨ ∃ c, c < M.length /\ ls.getD b 0 = (c : Int) /\ ah M c b /\ nx.getD c 0 = (b : Int)
  n : ∀ c, c < M.length -> nx.getD c 0 = -1 ∨ ∃ b, b < M.length /\ nx.getD c 0 = (b : Int) /\ ls.getD b 0 = (c : Int)
/-- Marks each of which follows one, all that this one contradicts among them. -/
def Cl (M : List Mrk) (K : Nat -> Prop) (ls : List Int) : Prop := ∀ b, K b -> b < M.length /\ ∃ c, c < M.length /\ ls.getD b 0 = (c : Int) /\ ∀ x, x < M.length -> ah M c x -> K x
/-- Rows that were made one more link long. -/
structure Sc (M : List Mrk) (K : Nat -> Prop) (a : Nat) (mp : Int -> Option Bool) (nx ls nx' ls' : List Int) : Prop where
  n1 : nx'.length = 16
  l1 : ls'.length = 16
  ex : ∃ b, b < M.length /\ met mp b = false /\ ¬K b /\ ah M a b /\ nx'.getD a 0 = (b : Int) /\ ls'.getD b 0 = (a : Int)
  l : ∀ x, x < M.length -> ls.getD x 0 ≠ (a : Int) -> ls'.getD x 0 = -1 ∨ ∃ c, c < M.length /\ ls'.getD x 0 = (c : Int) /\ ah M c x /\ nx'.getD c 0 = (x : Int)
  n : ∀ c, c < M.length -> nx'.getD c 0 = -1 ∨ ∃ x, x < M.length /\ nx'.getD c 0 = (x : Int) /\ ls'.getD x 0 = (c : Int)
  fr : ∀ x, x < M.length -> (met mp x = true ∨ K x) -> ls'.getD x 0 = ls.getD x 0
  k1 : ∀ c, c < M.length -> c ≠ a -> (nx'.getD c 0 = -1 ↔ nx.getD c 0 = -1)
  fn : ∀ c, c < M.length -> c ≠ a -> ∀ y, y < M.length -> ls.getD y 0 = (c : Int) -> met mp y = true -> nx'.getD c 0 = nx.getD c 0
/-- What a search that finds nothing has met. -/
structure Ps (M : List Mrk) (a i : Nat) (mp mp' : Int -> Option Bool) (ls : List Int) : Prop where
  le : ∀ b, met mp b = true -> met mp' b = true
  nb : ∀ c, c < i -> ah M a c -> met mp' c = true
  nw : ∀ b, met mp' b = true -> met mp b = false -> b < M.length /\ ∃ c, c < M.length /\ ls.getD b 0 = (c : Int) /\ ∀ x, x < M.length -> ah M c x -> met mp' x = true
variable {K : Nat -> Prop} {a i s : Nat} {mp mp1 mp2 : Int -> Option Bool} {nx ls nx' ls' : List Int}
theorem Ps.zero : Ps M a 0 mp mp ls := ⟨fun _ h => h, fun c h => by omega, fun b h1 h2 => by rw [h1] at h2; cases h2⟩
theorem Ps.skip (h : Ps M a i mp mp1 ls) (hs : ah M a i -> met mp1 i = true) : Ps M a (i + 1) mp mp1 ls :=
  ⟨h.le, fun c hc ha => by
    by_cases e : c = i
    · subst e; exact hs ha
    · exact h.nb c (by omega) ha, h.nw⟩
theorem Ps.fail (h : Ps M a i mp mp1 ls) (hi : i < M.length) {c : Nat} (hc : c < M.length) (e : ls.getD i 0 = (c : Int)) (h2 : Ps M c M.length (updF mp1 (i : Int) true) mp2 ls) : Ps M a (i + 1) mp mp2 ls := by
  have u : ∀ b, met mp1 b = true -> met mp2 b = true := fun b hb => h2.le b (met_upd.2 (.inr hb))
  have ui : met mp2 i = true := h2.le i (met_upd.2 (.inl rfl))
  refine ⟨fun b hb => u b (h.le b hb), fun x hx ha => ?_, fun b h1 h0 => ?_⟩
  · by_cases k : x = i
    · subst k; exact ui
    · exact u x (h.nb x (by omega) ha)
  · by_cases k1 : met mp1 b = true
    · obtain ⟨hb, d, hd, e1, e2⟩ := h.nw b k1 h0
      exact ⟨hb, d, hd, e1, fun x hx ha => u x (e2 x hx ha)⟩
    · by_cases k2 : b = i
      · subst k2
        exact ⟨hi, c, hc, e, fun x hx ha => h2.nb x hx ha⟩
      · refine h2.nw b h1 ?_
        cases hm : met (updF mp1 (i : Int) true) b with
        | false => rfl
        | true => rcases met_upd.1 hm with k | k
                  · exact absurd k k2
                  · exact absurd k k1
theorem Sc.free (hM : Mtc M nx ls) (hK : Cl M K ls) (hn : M.length <= 16) (ha : a < M.length) (hs : s < M.length) (hm : met mp s = false) (hah : ah M a s) (e : ls.getD s 0 = -1) : Sc M K a mp nx ls (nx.set a (s : Int)) (ls.set s (a : Int)) := by
  have n1 := hM.n1
  have l1 := hM.l1
  have gn : ∀ c, (nx.set a (s : Int)).getD c 0 = if c = a then (s : Int) else nx.getD c 0 := fun c => gset nx a c _ 0 (by omega)
  have gl : ∀ c, (ls.set s (a : Int)).getD c 0 = if c = s then (a : Int) else ls.getD c 0 := fun c => gset ls s c _ 0 (by omega)
  have ks : ¬K s := fun k => by
    obtain ⟨_, c, _, h, _⟩ := hK s k
    omega
  refine ⟨by simp [n1], by simp [l1], ⟨s, hs, hm, ks, hah, by rw [gn, if_pos rfl], by rw [gl, if_pos rfl]⟩, fun x hx hne => ?_, fun c hc => ?_, fun x hx h => ?_, fun c hc hca => ?_, fun c hc hca y hy e1 e2 => ?_⟩
  · by_cases k : x = s
    · subst k
      exact .inr ⟨a, ha, by rw [gl, if_pos rfl], hah, by rw [gn, if_pos rfl]⟩
    · rw [gl, if_neg k]
      rcases hM.l x hx with h | ⟨c, hc, h1, h2, h3⟩
      · exact .inl h
      · refine .inr ⟨c, hc, h1, h2, ?_⟩
        rw [gn, if_neg (fun k' => hne (by rw [h1, k']))]
        exact h3
  · by_cases k : c = a
    · subst k
      exact .inr ⟨s, hs, by rw [gn, if_pos rfl], by rw [gl, if_pos rfl]⟩
    · rw [gn, if_neg k]
      rcases hM.n c hc with h | ⟨b, hb, h1, h2⟩
      · exact .inl h
      · refine .inr ⟨b, hb, h1, ?_⟩
        rw [gl, if_neg (fun k' => by subst k'; omega)]
        exact h2
  · rw [gl, if_neg]
    rintro rfl
    rcases h with h | h
    · rw [h] at hm; cases hm
    · exact ks h
  · rw [gn, if_neg hca]
  · rw [gn, if_neg hca]
theorem Sc.sub (hM : Mtc M nx ls) (hK : Cl M K ls) (hn : M.length <= 16) (ha : a < M.length) (hs : s < M.length) (hah : ah M a s) (hle : ∀ b, met mp b = true -> met mp1 b = true) (hm : met mp1 s = false) (hp : ∀ b, b < M.length -> ls.getD b 0 = (a : Int) -> met mp b = true) {c : Nat} (hc : c < M.length) (e : ls.getD s 0 = (c : Int))
    (h : Sc M K c (updF mp1 (s : Int) true) nx ls nx' ls') : Sc M K a mp nx ls (nx'.set a (s : Int)) (ls'.set s (a : Int)) := by
  have n1 := h.n1
  have l1 := h.l1
  have gn : ∀ x, (nx'.set a (s : Int)).getD x 0 = if x = a then (s : Int) else nx'.getD x 0 := fun x => gset nx' a x _ 0 (by omega)
  have gl : ∀ x, (ls'.set s (a : Int)).getD x 0 = if x = s then (a : Int) else ls'.getD x 0 := fun x => gset ls' s x _ 0 (by omega)
  obtain ⟨b', hb', m', k', ah', nb', lb'⟩ := h.ex
  have ks : ¬K s := fun k => by
    obtain ⟨_, d, hd, h1, h2⟩ := hK s k
    obtain rfl : c = d := by omega
    exact k' (h2 b' hb' ah')
  have m0 : met mp s = false := by
    cases q : met mp s with
    | false => rfl
    | true => rw [hle s q] at hm; cases hm
  have ca : c ≠ a := fun k => by
    subst k
    rw [hp s hs e] at m0; cases m0
  have us : met (updF mp1 (s : Int) true) s = true := met_upd.2 (.inl rfl)
  have up : ∀ b, met mp b = true -> met (updF mp1 (s : Int) true) b = true := fun b hb => met_upd.2 (.inr (hle b hb))
  have fs := h.fr s hs (.inl us)
  have ns : nx.getD c 0 = (s : Int) := by
    rcases hM.l s hs with q | ⟨d, hd, q1, q2, q3⟩
    · omega
    · obtain rfl : c = d := by omega
      exact q3
  have only : ∀ x, x < M.length -> ls.getD x 0 = (c : Int) -> x = s := fun x hx q => by
    rcases hM.l x hx with q' | ⟨d, hd, q1, q2, q3⟩
    · omega
    · obtain rfl : c = d := by omega
      omega
  have bs : b' ≠ s := fun k => by
    subst k
    rw [us] at m'; cases m'
  -- the mark that asks stays as it was
  have na : nx'.getD a 0 = nx.getD a 0 := by
    rcases hM.n a ha with q | ⟨y, hy, q1, q2⟩
    · rw [q]; exact (h.k1 a ha (fun k => ca k.symm)).2 q
    · exact h.fn a ha (fun k => ca k.symm) y hy q2 (up y (hp y hy q2))
  refine ⟨by simp [n1], by simp [l1], ⟨s, hs, m0, ks, hah, by rw [gn, if_pos rfl], by rw [gl, if_pos rfl]⟩, fun x hx hne => ?_, fun d hd => ?_, fun x hx hq => ?_, fun d hd hda => ?_, fun d hd hda y hy e1 e2 => ?_⟩
  · by_cases k : x = s
    · subst k
      exact .inr ⟨a, ha, by rw [gl, if_pos rfl], hah, by rw [gn, if_pos rfl]⟩
    · rw [gl, if_neg k]
      rcases h.l x hx (fun q => k (only x hx q)) with q | ⟨d, hd, q1, q2, q3⟩
      · exact .inl q
      · refine .inr ⟨d, hd, q1, q2, ?_⟩
        rw [gn, if_neg]
        · exact q3
        · rintro rfl
          rw [na] at q3
          rcases hM.n d hd with q | ⟨y, hy, q4, q5⟩
          · omega
          · obtain rfl : x = y := by omega
            exact hne q5
  · by_cases k : d = a
    · subst k
      exact .inr ⟨s, hs, by rw [gn, if_pos rfl], by rw [gl, if_pos rfl]⟩
    · rw [gn, if_neg k]
      rcases h.n d hd with q | ⟨x, hx, q1, q2⟩
      · exact .inl q
      · refine .inr ⟨x, hx, q1, ?_⟩
        rw [gl, if_neg]
        · exact q2
        · rintro rfl
          rw [fs, e] at q2
          obtain rfl : c = d := by omega
          omega
  · rw [gl, if_neg]
    · refine h.fr x hx ?_
      rcases hq with q | q
      · exact .inl (up x q)
      · exact .inr q
    · rintro rfl
      rcases hq with q | q
      · rw [q] at m0; cases m0
      · exact ks q
  · rw [gn, if_neg hda]
    by_cases k : d = c
    · subst k
      constructor <;> intro q <;> omega
    · exact h.k1 d hd k
  · rw [gn, if_neg hda]
    by_cases k : d = c
    · subst k
      obtain rfl := only y hy e1
      rw [e2] at m0; cases m0
    · exact h.fn d hd k y hy e1 (up y e2)
/-- Where the search for each mark begins: what was done of those ahead of it. -/
structure Tp (M : List Mrk) (K : Nat -> Prop) (i : Nat) (nx ls : List Int) : Prop where
  m : Mtc M nx ls
  fr : ∀ j, i <= j -> j < M.length -> nx.getD j 0 = -1
  cl : Cl M K ls
  k : ∀ a, a < i -> nx.getD a 0 = -1 -> ∀ c, c < M.length -> ah M a c -> K c
theorem Tp.no (h : Tp M K i nx ls) (hi : i < M.length) : ∀ x, x < M.length -> ls.getD x 0 ≠ (i : Int) := fun x hx e => by
  have := h.fr i (Nat.le_refl _) hi
  rcases h.m.l x hx with q | ⟨d, hd, q1, q2, q3⟩
  · omega
  · obtain rfl : i = d := by omega
    omega
theorem Tp.ok (h : Tp M K i nx ls) (hi : i < M.length) (hz : Sc M K i mp nx ls nx' ls') : Tp M K (i + 1) nx' ls' := by
  refine ⟨⟨hz.n1, hz.l1, fun x hx => hz.l x hx (h.no hi x hx), hz.n⟩, fun j hj hj' => (hz.k1 j hj' (by omega)).2 (h.fr j (by omega) hj'), fun b kb => ?_, fun a ha e c hc hac => ?_⟩
  · obtain ⟨hb, c, hc, e, q⟩ := h.cl b kb
    exact ⟨hb, c, hc, by rw [hz.fr b hb (.inr kb)]; exact e, q⟩
  · obtain ⟨b, _, _, _, _, e1, _⟩ := hz.ex
    have hai : a ≠ i := fun k => by subst k; omega
    exact h.k a (by omega) ((hz.k1 a (by omega) hai).1 e) c hc hac
theorem Tp.no' (h : Tp M K i nx ls) (hi : i < M.length) (hz : Ps M i M.length (fun _ => none) mp ls) : Tp M (fun b => K b ∨ met mp b = true) (i + 1) nx ls := by
  refine ⟨h.m, fun j hj hj' => h.fr j (by omega) hj', fun b kb => ?_, fun a ha e c hc hac => ?_⟩
  · rcases kb with kb | kb
    · obtain ⟨hb, c, hc, e, q⟩ := h.cl b kb
      exact ⟨hb, c, hc, e, fun x hx ha => .inl (q x hx ha)⟩
    · obtain ⟨hb, c, hc, e, q⟩ := hz.nw b kb rfl
      exact ⟨hb, c, hc, e, fun x hx ha => .inr (q x hx ha)⟩
  · by_cases k : a = i
    · subst k
      exact .inr (hz.nb c hc hac)
    · exact .inl (h.k a (by omega) e c hc hac)
end
end Fl
end Go.Nm
namespace Go.Nm
open Go
/-- Whatever was known of memory is still so. -/
def Later (w w' : World) : Prop := ∀ (w0 : World) (L R : List Chunk), St w0 w L R -> St w0 w' L R
def RetE (R : Value -> World -> Prop) : Ending -> World -> Prop := fun e w => ∃ v, e = .returned v /\ R v w
/-- From here to the function's end, with nothing deferred so far. -/
def WB (P : Program) (fn : Func) (n : Nat) (c : Code) (R : Value -> World -> Prop) (σ : Env) (w : World) : Prop :=
  ∀ a, Fr [] n σ a -> c.wp P (bodyPostD P fn (RetE R)) a w
/-- The end of a function that has deferred a call which leaves memory as it was. -/
def bodyQd (P : Program) (fn : Func) (R : Value -> World -> Prop) : Post
  | .normal, σ, w | .ret, σ, w => ∀ w', Later w w' -> ∃ v, resE P fn σ w' v /\ R v w'
  | _, _, _ => False
section
variable {P : Program} {fn : Func} {n : Nat} {R : Value -> World -> Prop} {σ : Env} {w : World}
theorem ret_of_WB {f : FuncId} {c : Code} {args : Array Value}
    (hf : P.funcs[f]? = some fn) (hb : fn.body = some c) (hn : fn.ntmps = n) (hle' : Nat.ble args.size n = true)
    (h : WB P fn n c R (argE args) w) : Ret P f args w R := by
  have hle := Nat.le_of_ble_eq_true hle'
  subst hn
  refine calls_of_wp_defers hf hb (h _ ⟨rfl, ?_, fun k => ?_⟩)
  · simp; omega
  · simp only [argE, Array.getD_eq_getD_getElem?, Array.getElem?_append]
    by_cases hk : k < args.size
    · simp [hk]
    · rw [if_neg hk]
      simp only [Array.getElem?_replicate]
      have : args[k]? = none := by simp; omega
      rw [this]
      split <;> rfl
theorem WB.seq {x y : Code} (h : W P n x (thenQ (WB P fn n y R) (bodyQ P fn R)) σ w) : WB P fn n (.seq x y) R σ w := by
  intro a ha
  refine wp_seq (wp_mono ((wpIn_wide (n := 0)).1 (h [] a ha)) ?_)
  rintro e a' w' ⟨s, hs, h'⟩
  cases e with
  | normal => exact h' a' hs
  | ret =>
    obtain ⟨v, hr, hR⟩ := h'
    show Leaves P fn a'.tmps (RetE R) a'.defers .returning w'
    rw [hs.df]
    exact ⟨v, hr _ hs.get, v, rfl, hR⟩
  | _ => exact h'.elim
theorem WB.defer {id : Nat} {o1 o2 : Oper} {y : Code} {d : Nat} {v : Value} {fv : Fn} {cap : Array Value} {f : FuncId} {args : Array Value}
    (hd : Nat.blt d n = true) (hd1 : o1.dst = some d) (hg1 : o1.guard = none) (hd2 : o2.dst = none) (hg2 : o2.guard = none)
    (h1 : ∀ w, (execOp (ev σ) o1).run P w = .ok (.value v) w) (h2 : ∀ w, (execOp (ev (upd σ d v)) o2).run P w = .ok (.defer { target := .fn fv cap, args := #[] }) w)
    (hi : ∀ w, (invoke (.fn fv cap) #[]).run P w = .ok (.enter f args) w)
    (hc : ∀ w, CallsD P f args .returning w fun e u' w' => (∃ v, e = .returned v) /\ u' = .returning /\ Later w w')
    (hk : W P n y (bodyQd P fn R) (upd σ d v) w) : WB P fn n (.seq (.region id #[o1, o2] false) y) R σ w := by
  intro a ha
  refine wp_seq (wp_region ?_)
  have hd' : d < n := Nat.lt_of_lt_of_le (Nat.lt_succ_self d) (Nat.le_of_ble_eq_true hd)
  have h2' : (execOp (a.put (some d) v).eval o2).run P w = .ok (.defer { target := .fn fv cap, args := #[] }) w := by
    rw [(ha.put hd' v).eval]
    exact h2 w
  have hr : List.range (#[o1, o2] : Array Oper).size = [0, 1] := rfl
  rw [hr]
  simp only [wpOps, List.getElem?_toArray, List.getElem?_cons_zero, List.getElem?_cons_succ, Region.wanted, hg1, hg2, if_true, Oper.wp, ha.eval, h1, hd1, Oper.upon, h2', hd2]
  refine .inl (.inl ?_)
  have ha' : Fr [{ target := .fn fv cap, args := #[] }] n (upd σ d v) ({ a.put (some d) v with defers := { target := .fn fv cap, args := #[] } :: (a.put (some d) v).defers }.put none undef) := by
    have h3 := ha.put hd' v
    exact ⟨by show _ :: (a.put (some d) v).defers = _; rw [h3.df], h3.sz, h3.get⟩
  refine wp_mono ((wpIn_wide (n := 0)).1 (hk _ _ ha')) ?_
  rintro e a' w' ⟨s, hs, h'⟩
  have fin : (∀ w'', Later w' w'' -> ∃ v, resE P fn s w'' v /\ R v w'') -> Leaves P fn a'.tmps (RetE R) a'.defers .returning w' := fun h' => by
    rw [hs.df]
    refine leaves_cons (by simp) (hi w') ((hc w').mono ?_)
    rintro e u' w'' ⟨⟨v, rfl⟩, rfl, hl⟩
    obtain ⟨v', hr, hR⟩ := h' w'' hl
    exact ⟨v', hr _ hs.get, v', rfl, hR⟩
  cases e with
  | normal => exact fin h'
  | ret => exact fin h'
  | _ => exact h'.elim
theorem x_defer {x : Operand} {fv : Fn} {cap : Array Value} {ty : TypeId} {pos : String} {af : Array Edge} (hx : ev σ x = .func fv #[] cap) (w : World) :
    (execOp (ev σ) ⟨none, .defer { callee := .value x, args := #[], argTypes := #[] }, ty, pos, af, none⟩).run P w = .ok (.defer { target := .fn fv cap, args := #[] }) w := by
  simp [execOp, resolve, hx, Deferred.ofValue]
theorem x_invoke {f : FuncId} (hcf : CF P f) {cap : Array Value} (w : World) : (invoke (.fn (.func f) cap) #[]).run P w = .ok (.enter f cap) w := by
  simp [invoke, run_callFunc hcf]
end
end Go.Nm
namespace Go.Proofs.Ytlemgioaakecpaa
open Go Go.Nm
theorem ta_nil (w : World) : (Instr.typeAssert .nilIface 20 109 true).run Try.prog w = .ok (.tuple #[.agg #[I 0], .bool false]) w := by
  simp [Instr.typeAssert, go_sem]
set_option maxRecDepth 20000 in
theorem catch_idle (p q : Value) (w : World) : CallsD Try.prog 42 #[p, q] .returning w fun e u' w' => (∃ v, e = .returned v) /\ u' = .returning /\ Later w w' := by
  refine callsD_of_wpS Try.func42 rfl fun c₀ cs hu => ?_
  apply wpS_seq
  apply wpS_region
  simp [wpOpsS, go_sem, recoverD, hu, Exit.thenS, ta_nil]
  apply wpS_seq
  apply wpS_region
  simp [wpOpsS, go_sem, Exit.thenS]
  refine wpS_cond (t := false) (by simp [Act.eval, Array.replicate]) ?_
  simp only [Bool.false_eq_true, if_false]
  refine wpS_of_wp (wp_skip ?_)
  cases c₀
  simp_all [bodyPostS, results, Try.results42]
  exact fun w0 L R H => H.ext (New.alloc ..).ext
end Go.Proofs.Ytlemgioaakecpaa
