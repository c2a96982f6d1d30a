/- Part 4 of the texts on which the proof rests. Conditions: none. -/
import Derived.Recover
import Derived.Tactics
import Derived.Tactics2
import Derived.Laws.Pointers
import Derived.Test.YtlemgioaakecpaaGreatZI3
set_option linter.unusedVariables false
set_option linter.unusedSimpArgs false
set_option linter.unusedSectionVars false
namespace Go.Nm
namespace Fl
section
variable {M : List Mrk} {p : Int}
theorem lo_fold : ∀ (ms : List Int) (a : Int), a <= ms.foldl (fun a k => if p <= (M.getD (Int.toNat k) default).place then max a (M.getD (Int.toNat k) default).lo else a) a ∧
    (∀ k ∈ ms, p <= (M.getD (Int.toNat k) default).place -> (M.getD (Int.toNat k) default).lo <= ms.foldl (fun a k => if p <= (M.getD (Int.toNat k) default).place then max a (M.getD (Int.toNat k) default).lo else a) a) ∧
    (ms.foldl (fun a k => if p <= (M.getD (Int.toNat k) default).place then max a (M.getD (Int.toNat k) default).lo else a) a = a ∨ ∃ k ∈ ms, p <= (M.getD (Int.toNat k) default).place /\ ms.foldl (fun a k => if p <= (M.getD (Int.toNat k) default).place then max a (M.getD (Int.toNat k) default).lo else a) a = (M.getD (Int.toNat k) default).lo)
  | [], a => ⟨Int.le_refl _, fun k hk => (List.not_mem_nil hk).elim, .inl rfl⟩
  | k :: ms, a => by
    rw [List.foldl_cons]
    obtain ⟨h1, h2, h3⟩ := lo_fold ms (if p <= (M.getD (Int.toNat k) default).place then max a (M.getD (Int.toNat k) default).lo else a)
    by_cases hp : p <= (M.getD (Int.toNat k) default).place
    · rw [if_pos hp] at h1 h2 h3 ⊢
      refine ⟨by omega, fun j hj hpj => ?_, ?_⟩
      · rcases List.mem_cons.1 hj with rfl | hj
        · omega
        · exact h2 j hj hpj
      · rcases h3 with h3 | ⟨j, hj, hpj, e⟩
        · rcases Int.le_total (M.getD (Int.toNat k) default).lo a with e | e
          · left; omega
          · right; exact ⟨k, by simp, hp, by omega⟩
        · right; exact ⟨j, by simp [hj], hpj, e⟩
    · rw [if_neg hp] at h1 h2 h3 ⊢
      refine ⟨h1, fun j hj hpj => ?_, ?_⟩
      · rcases List.mem_cons.1 hj with rfl | hj
        · exact absurd hpj hp
        · exact h2 j hj hpj
      · rcases h3 with h3 | ⟨j, hj, hpj, e⟩
        · exact .inl h3
        · right; exact ⟨j, by simp [hj], hpj, e⟩
theorem hi_fold : ∀ (ms : List Int) (a : Int), ms.foldl (fun a k => if (M.getD (Int.toNat k) default).place <= p then min a (M.getD (Int.toNat k) default).hi else a) a <= a ∧
    (∀ k ∈ ms, (M.getD (Int.toNat k) default).place <= p -> ms.foldl (fun a k => if (M.getD (Int.toNat k) default).place <= p then min a (M.getD (Int.toNat k) default).hi else a) a <= (M.getD (Int.toNat k) default).hi) ∧
    (ms.foldl (fun a k => if (M.getD (Int.toNat k) default).place <= p then min a (M.getD (Int.toNat k) default).hi else a) a = a ∨ ∃ k ∈ ms, (M.getD (Int.toNat k) default).place <= p /\ ms.foldl (fun a k => if (M.getD (Int.toNat k) default).place <= p then min a (M.getD (Int.toNat k) default).hi else a) a = (M.getD (Int.toNat k) default).hi)
  | [], a => ⟨Int.le_refl _, fun k hk => (List.not_mem_nil hk).elim, .inl rfl⟩
  | k :: ms, a => by
    rw [List.foldl_cons]
    obtain ⟨h1, h2, h3⟩ := hi_fold ms (if (M.getD (Int.toNat k) default).place <= p then min a (M.getD (Int.toNat k) default).hi else a)
    by_cases hp : (M.getD (Int.toNat k) default).place <= p
    · rw [if_pos hp] at h1 h2 h3 ⊢
      refine ⟨by omega, fun j hj hpj => ?_, ?_⟩
      · rcases List.mem_cons.1 hj with rfl | hj
        · omega
        · exact h2 j hj hpj
      · rcases h3 with h3 | ⟨j, hj, hpj, e⟩
        · rcases Int.le_total a (M.getD (Int.toNat k) default).hi with e | e
          · left; omega
          · right; exact ⟨k, by simp, hp, by omega⟩
        · right; exact ⟨j, by simp [hj], hpj, e⟩
    · rw [if_neg hp] at h1 h2 h3 ⊢
      refine ⟨h1, fun j hj hpj => ?_, ?_⟩
      · rcases List.mem_cons.1 hj with rfl | hj
        · exact absurd hpj hp
        · exact h2 j hj hpj
      · rcases h3 with h3 | ⟨j, hj, hpj, e⟩
        · exact .inl h3
        · right; exact ⟨j, by simp [hj], hpj, e⟩
theorem stLo_nn (ms : List Int) : 0 <= stLo M ms p := (lo_fold ms 0).1
theorem stLo_ge {ms : List Int} {k : Int} (h : k ∈ ms) (hp : p <= (M.getD (Int.toNat k) default).place) : (M.getD (Int.toNat k) default).lo <= stLo M ms p := (lo_fold ms 0).2.1 k h hp
theorem stLo_ex (ms : List Int) : stLo M ms p = 0 ∨ ∃ k ∈ ms, p <= (M.getD (Int.toNat k) default).place /\ stLo M ms p = (M.getD (Int.toNat k) default).lo := (lo_fold ms 0).2.2
theorem stHi_le (ms : List Int) : stHi M ms p <= 2000 := (hi_fold ms 2000).1
theorem stHi_ge {ms : List Int} {k : Int} (h : k ∈ ms) (hp : (M.getD (Int.toNat k) default).place <= p) : stHi M ms p <= (M.getD (Int.toNat k) default).hi := (hi_fold ms 2000).2.1 k h hp
theorem stHi_ex (ms : List Int) : stHi M ms p = 2000 ∨ ∃ k ∈ ms, (M.getD (Int.toNat k) default).place <= p /\ stHi M ms p = (M.getD (Int.toNat k) default).hi := (hi_fold ms 2000).2.2
end
/-- Marks that are true together. -/
def Tog (M : List Mrk) (ms : List Int) : Prop := ∀ a ∈ ms, ∀ b ∈ ms, ¬((M.getD (Int.toNat a) default).place <= (M.getD (Int.toNat b) default).place /\ (M.getD (Int.toNat a) default).hi < (M.getD (Int.toNat b) default).lo)
def Ixs (M : List Mrk) (ms : List Int) : Prop := ∀ k ∈ ms, 0 <= k /\ k < M.length
theorem Ixs.mok {M : List Mrk} {ms : List Int} (hk : ∀ x ∈ M, Mok x) (h : Ixs M ms) {k : Int} (hm : k ∈ ms) : Mok (M.getD (Int.toNat k) default) := by
  have := h k hm
  have hl : Int.toNat k < M.length := by omega
  rw [getD_el M hl]
  exact hk _ (List.getElem_mem hl)
/-- What lies further up is bounded by no less from above. -/
theorem st_le {M : List Mrk} {ms : List Int} (hk : ∀ x ∈ M, Mok x) (h : Ixs M ms) (ht : Tog M ms) {p q : Int} (hpq : q <= p) : stLo M ms p <= stHi M ms q := by
  rcases stLo_ex (M := M) (p := p) ms with e | ⟨a, ha, hpa, e⟩ <;> rcases stHi_ex (M := M) (p := q) ms with e' | ⟨b, hb, hpb, e'⟩
  · omega
  · have k1 := (h.mok hk hb).lh
    have k2 := (h.mok hk hb).l0
    omega
  · have := (h.mok hk ha).lh
    have := (h.mok hk ha).h2
    omega
  · have := ht b hb a ha
    rw [e, e']
    rcases Int.lt_or_le (M.getD (Int.toNat b) default).hi (M.getD (Int.toNat a) default).lo with k | k
    · exact absurd ⟨by omega, k⟩ this
    · exact k
section
variable (S : List Sect) (M : List Mrk) (ms : List Int) (r : Rch)
def pu : Int := (S.getD (Int.toNat r.up) default).place
def pd : Int := (S.getD (Int.toNat r.down) default).place
/-- The lower stages that there can be. -/
def Dn (x : Int) : Prop := stLo M ms (pd S r) <= x /\ x <= min (stHi M ms (pd S r)) (stHi M ms (pu S r))
def lc (x : Int) : Cas := ⟨max (stLo M ms (pu S r)) x, x, r.hi, r.hi⟩
def hc (x : Int) : Cas := ⟨stHi M ms (pu S r), x, r.lo, r.lo⟩
def IsLow (c : Cas) (n : Int) : Prop := ∃ x, Dn S M ms r x /\ c = lc S M ms r x /\ n = fl S r c /\ ∀ y, Dn S M ms r y -> n <= fl S r (lc S M ms r y)
def IsHigh (c : Cas) (n : Int) : Prop := ∃ x, Dn S M ms r x /\ c = hc S M ms r x /\ n = fl S r c /\ ∀ y, Dn S M ms r y -> fl S r (hc S M ms r y) <= n
end
section
variable {S : List Sect} {M : List Mrk} {ms : List Int} {r : Rch}
theorem lc_ok (hr : Rok S r) (hk : ∀ x ∈ M, Mok x) (h : Ixs M ms) (ht : Tog M ms) {x : Int} (hx : Dn S M ms r x) : Cok (lc S M ms r x) := by
  have h1 := stLo_nn (M := M) (p := pu S r) ms
  have h2 := stLo_nn (M := M) (p := pd S r) ms
  have h3 := stHi_le (M := M) (p := pu S r) ms
  have h4 := st_le hk h ht (Int.le_refl (pu S r))
  obtain ⟨a, b⟩ := hx
  have := hr.l1
  have := hr.lh
  have := hr.h4
  unfold lc
  constructor <;> dsimp only <;> omega
theorem hc_ok (hr : Rok S r) {x : Int} (hx : Dn S M ms r x) : Cok (hc S M ms r x) := by
  have h2 := stLo_nn (M := M) (p := pd S r) ms
  have h3 := stHi_le (M := M) (p := pu S r) ms
  obtain ⟨a, b⟩ := hx
  have := hr.l1
  have := hr.lh
  have := hr.h4
  unfold hc
  constructor <;> dsimp only <;> omega
theorem pu_pd (hS : Secs S) (hr : Rok S r) : pu S r < pd S r := by
  have := far hS hr
  unfold pu pd
  omega
theorem Dn.ne (hS : Secs S) (hr : Rok S r) (hk : ∀ x ∈ M, Mok x) (h : Ixs M ms) (ht : Tog M ms) : Dn S M ms r (stLo M ms (pd S r)) := by
  have h1 := st_le hk h ht (Int.le_refl (pd S r))
  have h2 := st_le hk h ht (Int.le_of_lt (pu_pd hS hr))
  exact ⟨Int.le_refl _, by omega⟩
end
end Fl
end Go.Nm
namespace Go.Proofs.YtlemgioaakecpaaGreat
open Go Go.Nm
section
variable {S : List Sect} {M' : List Mrk} {R' : List Rch} {ms : List Int} {r : Rch}
theorem bestL_out (hS : Fl.Secs S) (hr : Fl.Rok S r) (hk : ∀ x ∈ M', Fl.Mok x) (h : Fl.Ixs M' ms) (ht : Fl.Tog M' ms) :
    (zaL S M' R' ms r).Out (fun x => Fl.IsLow S M' ms r ⟨x.1, x.2.1, x.2.2.1, x.2.2.2.1⟩ x.2.2.2.2) := by
  have hne := Fl.Dn.ne hS hr hk h ht
  have b1 := Fl.stLo_nn (M := M') (p := Fl.pd S r) ms
  have b2 := Fl.stHi_le (M := M') (p := Fl.pu S r) ms
  have hlo := hr.l1
  have hlh := hr.lh
  unfold zaL
  have h0 := hr.u0
  have h1 := hr.ud
  have h2 := hr.d1
  refine M.o_bindE (stages_ends h (by omega) (by omega)) (M.o_bindE (stages_ends h (by omega) (by omega)) (M.o_bindE (a := false) (by unfold za4; exact M.i_pure) (M.o_t rfl (M.o_bindE (least_ends _ _) (M.o_bindE (by unfold zaM; exact M.i_pure) ?_)))))
  dsimp only
  refine M.o_bind (nums_out (lo := Fl.stLo M' ms (Fl.pd S r)) (hi := min (Fl.stHi M' ms (Fl.pd S r)) (Fl.stHi M' ms (Fl.pu S r))) (fun x (s : Int × Int × Int × Int × Int) => (x = Fl.stLo M' ms (Fl.pd S r) /\ s = (0, 0, 0, 0, 0)) ∨ ∃ y, Fl.Dn S M' ms r y /\ y < x /\ s = (Fl.fl S r (Fl.lc S M' ms r y), (Fl.lc S M' ms r y).up, (Fl.lc S M' ms r y).down, (Fl.lc S M' ms r y).roughup, (Fl.lc S M' ms r y).roughdown) /\ ∀ z, Fl.stLo M' ms (Fl.pd S r) <= z -> z < x -> Fl.fl S r (Fl.lc S M' ms r y) <= Fl.fl S r (Fl.lc S M' ms r z)) (by have := hne.2; omega) (by omega) (by have := hne.1; omega) (.inl ⟨rfl, rfl⟩) ?_) ?_
  · rintro x ⟨n, a, b, c, d⟩ hx1 hx2 hj
    have hx : Fl.Dn S M' ms r x := ⟨hx1, hx2⟩
    simp only [zas]
    refine M.o_f rfl (M.o_bindE (flow_ends hS hr (Fl.lc_ok hr hk h ht hx)) ?_)
    rcases hj with ⟨rfl, e⟩ | ⟨y, hy, hyx, e, hz⟩
    · obtain ⟨rfl, rfl, rfl, rfl, rfl⟩ : n = 0 /\ a = 0 /\ b = 0 /\ c = 0 /\ d = 0 := by simpa using e
      refine M.o_bindE (M.i_opt (r := false) (fun hc => by simp at hc) (fun _ => rfl)) (M.o_t (by simp) (M.o_pure (.inr ⟨_, hx, by omega, rfl, fun z h1 h2 => ?_⟩)))
      rw [show z = Fl.stLo M' ms (Fl.pd S r) by omega]
      exact Int.le_refl _
    · obtain ⟨e1, e2, e3, e4, e5⟩ : n = Fl.fl S r (Fl.lc S M' ms r y) /\ a = (Fl.lc S M' ms r y).up /\ b = (Fl.lc S M' ms r y).down /\ c = (Fl.lc S M' ms r y).roughup /\ d = (Fl.lc S M' ms r y).roughdown := by simpa only [Prod.mk.injEq] using e
      rw [e1, e2, e3, e4, e5]
      have hd : decide ((⟨(Fl.lc S M' ms r y).up, (Fl.lc S M' ms r y).down, (Fl.lc S M' ms r y).roughup, (Fl.lc S M' ms r y).roughdown⟩ : Cas) = ⟨0, 0, 0, 0⟩) = false := decide_eq_false (fun e => by
        have : (Fl.lc S M' ms r y).roughup = 0 := congrArg Cas.roughup e
        have e2 : (Fl.lc S M' ms r y).roughup = r.hi := rfl
        omega)
      refine M.o_bindE (M.i_opt (r := decide (Fl.fl S r (Fl.lc S M' ms r x) < Fl.fl S r (Fl.lc S M' ms r y))) (fun _ => by unfold za4; exact M.i_pure) (fun hc => by rw [hd] at hc; cases hc)) ?_
      refine M.o_if (fun hc => ?_) (fun hc => ?_)
      · rw [hd, Bool.false_or] at hc
        have hc := of_decide_eq_true hc
        refine M.o_pure (.inr ⟨x, hx, by omega, rfl, fun z h1 h2 => ?_⟩)
        by_cases e : z < x
        · have := hz z h1 e
          omega
        · rw [show z = x by omega]
          exact Int.le_refl _
      · rw [hd, Bool.false_or] at hc
        have hc := of_decide_eq_false hc
        refine M.o_pure (.inr ⟨y, hy, by omega, rfl, fun z h1 h2 => ?_⟩)
        by_cases e : z < x
        · exact hz z h1 e
        · rw [show z = x by omega]
          omega
  · intro s hs
    cases s with
    | inr _ => exact hs.elim
    | inl s =>
      rcases hs with ⟨e, _⟩ | ⟨y, hy, _, rfl, hz⟩
      · have := hne.2
        omega
      · exact M.o_pure ⟨y, hy, rfl, rfl, fun z hz' => hz z hz'.1 (by have := hz'.2; omega)⟩
theorem bestH_out (hS : Fl.Secs S) (hr : Fl.Rok S r) (hk : ∀ x ∈ M', Fl.Mok x) (h : Fl.Ixs M' ms) (ht : Fl.Tog M' ms) :
    (za2 S M' R' ms r).Out (fun x => Fl.IsHigh S M' ms r ⟨x.1, x.2.1, x.2.2.1, x.2.2.2.1⟩ x.2.2.2.2) := by
  have hne := Fl.Dn.ne hS hr hk h ht
  have b1 := Fl.stLo_nn (M := M') (p := Fl.pd S r) ms
  have b2 := Fl.stHi_le (M := M') (p := Fl.pu S r) ms
  have hlo := hr.l1
  have hlh := hr.lh
  unfold za2
  have h0 := hr.u0
  have h1 := hr.ud
  have h2 := hr.d1
  refine M.o_bindE (stages_ends h (by omega) (by omega)) (M.o_bindE (stages_ends h (by omega) (by omega)) (M.o_bindE (a := true) (by unfold zaG; exact M.i_pure) (M.o_f rfl (M.o_bindE (least_ends _ _) (M.o_bindE (by unfold zaM; exact M.i_pure) ?_)))))
  dsimp only
  refine M.o_bind (nums_out (lo := Fl.stLo M' ms (Fl.pd S r)) (hi := min (Fl.stHi M' ms (Fl.pd S r)) (Fl.stHi M' ms (Fl.pu S r))) (fun x (s : Int × Int × Int × Int × Int) => (x = Fl.stLo M' ms (Fl.pd S r) /\ s = (0, 0, 0, 0, 0)) ∨ ∃ y, Fl.Dn S M' ms r y /\ y < x /\ s = (Fl.fl S r (Fl.hc S M' ms r y), (Fl.hc S M' ms r y).up, (Fl.hc S M' ms r y).down, (Fl.hc S M' ms r y).roughup, (Fl.hc S M' ms r y).roughdown) /\ ∀ z, Fl.stLo M' ms (Fl.pd S r) <= z -> z < x -> Fl.fl S r (Fl.hc S M' ms r z) <= Fl.fl S r (Fl.hc S M' ms r y)) (by have := hne.2; omega) (by omega) (by have := hne.1; omega) (.inl ⟨rfl, rfl⟩) ?_) ?_
  · rintro x ⟨n, a, b, c, d⟩ hx1 hx2 hj
    have hx : Fl.Dn S M' ms r x := ⟨hx1, hx2⟩
    simp only [zat]
    refine M.o_t rfl (M.o_bindE (flow_ends hS hr (Fl.hc_ok hr hx)) ?_)
    rcases hj with ⟨rfl, e⟩ | ⟨y, hy, hyx, e, hz⟩
    · obtain ⟨rfl, rfl, rfl, rfl, rfl⟩ : n = 0 /\ a = 0 /\ b = 0 /\ c = 0 /\ d = 0 := by simpa using e
      refine M.o_bindE (M.i_opt (r := false) (fun hc => by simp at hc) (fun _ => rfl)) (M.o_t (by simp) (M.o_pure (.inr ⟨_, hx, by omega, rfl, fun z h1 h2 => ?_⟩)))
      rw [show z = Fl.stLo M' ms (Fl.pd S r) by omega]
      exact Int.le_refl _
    · obtain ⟨e1, e2, e3, e4, e5⟩ : n = Fl.fl S r (Fl.hc S M' ms r y) /\ a = (Fl.hc S M' ms r y).up /\ b = (Fl.hc S M' ms r y).down /\ c = (Fl.hc S M' ms r y).roughup /\ d = (Fl.hc S M' ms r y).roughdown := by simpa only [Prod.mk.injEq] using e
      rw [e1, e2, e3, e4, e5]
      have hd : decide ((⟨(Fl.hc S M' ms r y).up, (Fl.hc S M' ms r y).down, (Fl.hc S M' ms r y).roughup, (Fl.hc S M' ms r y).roughdown⟩ : Cas) = ⟨0, 0, 0, 0⟩) = false := decide_eq_false (fun e => by
        have : (Fl.hc S M' ms r y).roughup = 0 := congrArg Cas.roughup e
        have e2 : (Fl.hc S M' ms r y).roughup = r.lo := rfl
        omega)
      refine M.o_bindE (M.i_opt (r := decide (Fl.fl S r (Fl.hc S M' ms r y) < Fl.fl S r (Fl.hc S M' ms r x))) (fun _ => by unfold zaG; exact M.i_pure) (fun hc => by rw [hd] at hc; cases hc)) ?_
      refine M.o_if (fun hc => ?_) (fun hc => ?_)
      · rw [hd, Bool.false_or] at hc
        have hc := of_decide_eq_true hc
        refine M.o_pure (.inr ⟨x, hx, by omega, rfl, fun z h1 h2 => ?_⟩)
        by_cases e : z < x
        · have := hz z h1 e
          omega
        · rw [show z = x by omega]
          exact Int.le_refl _
      · rw [hd, Bool.false_or] at hc
        have hc := of_decide_eq_false hc
        refine M.o_pure (.inr ⟨y, hy, by omega, rfl, fun z h1 h2 => ?_⟩)
        by_cases e : z < x
        · exact hz z h1 e
        · rw [show z = x by omega]
          omega
  · intro s hs
    cases s with
    | inr _ => exact hs.elim
    | inl s =>
      rcases hs with ⟨e, _⟩ | ⟨y, hy, _, rfl, hz⟩
      · have := hne.2
        omega
      · exact M.o_pure ⟨y, hy, rfl, rfl, fun z hz' => hz z hz'.1 (by have := hz'.2; omega)⟩
theorem peak_out (hS : Fl.Secs S) (hr : Fl.Rok S r) (hk : ∀ x ∈ M', Fl.Mok x) (h : Fl.Ixs M' ms) (ht : Fl.Tog M' ms) :
    (zaA S M' R' ms r).Out (fun x => (∃ c, Fl.IsLow S M' ms r c x.1) /\ ∃ c, Fl.IsHigh S M' ms r c x.2) := by
  unfold zaA
  refine M.o_bindE (by unfold zb1; exact M.i_pure) (M.o_bind (bestL_out hS hr hk h ht) ?_)
  rintro ⟨a, b, c, d, n⟩ h1
  refine M.o_bindE (by unfold zcc; exact M.i_pure) (M.o_bind (bestH_out hS hr hk h ht) ?_)
  rintro ⟨a', b', c', d', n'⟩ h2
  exact M.o_pure ⟨⟨_, h1⟩, ⟨_, h2⟩⟩
end
end Go.Proofs.YtlemgioaakecpaaGreat
namespace Go.Nm
namespace Fl
theorem Rows.cle {l : List FRow} (h : Rows l) {i j : Nat} (hij : i <= j) (hj : j < l.length) : (l.getD i default).carry <= (l.getD j default).carry := by
  induction j with
  | zero => rw [show i = 0 by omega]; exact Int.le_refl _
  | succ j ih =>
    rcases Nat.lt_or_eq_of_le hij with e | rfl
    · have := ih (by omega) (by omega)
      have := h.cm j hj
      omega
    · exact Int.le_refl _
/-- Marks, one behind the other. -/
def Inc (M : List Mrk) (ms : List Int) : Prop := ms.Pairwise (· < ·) /\ Ixs M ms
end Fl
end Go.Nm
namespace Go.Proofs.YtlemgioaakecpaaGreat
open Go Go.Nm
theorem in_true {n a b : Int} (h1 : a <= n) (h2 : n <= b) : (zac n a b).Ends true := by
  have : (zac n a b).Ends (decide (a <= n) && decide (n <= b)) := M.i_pure
  rwa [gA2 h1 h2] at this
theorem every_sect (l : List Sect) (so : Sect -> M Bool) (h : ∀ t ∈ l, (so t).Ends true) : (zbb l so).Ends true := by
  unfold zbb zbZ zb2
  refine M.i_bind (a := false) (M.i_bind (a := -1) (M.i_bind (a := (.inr () : Int ⊕ Unit)) ?_ M.i_pure) M.i_pure) M.i_pure
  refine M.i_for (fun i => i) l.length (fun i hi => ?_) ?_
  · simp only [za7]
    have hm : l.getD i default ∈ l := by rw [getD_el l hi]; exact List.getElem_mem hi
    refine M.i_t (decide_eq_true (by omega)) (M.i_grd (decide_eq_true (by omega)) (M.i_bind (a := false) ?_ (M.i_f rfl M.i_pure)))
    unfold zbx
    exact M.i_bind (h _ hm) M.i_pure
  · simp only [za7]
    exact M.i_f (decide_eq_false (by omega)) M.i_pure
theorem every_mark (l : List Mrk) (so : Mrk -> M Bool) (h : ∀ t ∈ l, (so t).Ends true) : (zbq l so).Ends true := by
  unfold zbq zb4 zbN
  refine M.i_bind (a := false) (M.i_bind (a := -1) (M.i_bind (a := (.inr () : Int ⊕ Unit)) ?_ M.i_pure) M.i_pure) M.i_pure
  refine M.i_for (fun i => i) l.length (fun i hi => ?_) ?_
  · simp only [zaR]
    have hm : l.getD i default ∈ l := by rw [getD_el l hi]; exact List.getElem_mem hi
    refine M.i_t (decide_eq_true (by omega)) (M.i_grd (decide_eq_true (by omega)) (M.i_bind (a := false) ?_ (M.i_f rfl M.i_pure)))
    unfold za8
    exact M.i_bind (h _ hm) M.i_pure
  · simp only [zaR]
    exact M.i_f (decide_eq_false (by omega)) M.i_pure
theorem every_reach (l : List Rch) (so : Rch -> M Bool) (h : ∀ t ∈ l, (so t).Ends true) : (zbz l so).Ends true := by
  unfold zbz zbV zbE
  refine M.i_bind (a := false) (M.i_bind (a := -1) (M.i_bind (a := (.inr () : Int ⊕ Unit)) ?_ M.i_pure) M.i_pure) M.i_pure
  refine M.i_for (fun i => i) l.length (fun i hi => ?_) ?_
  · simp only [zaZ]
    have hm : l.getD i default ∈ l := by rw [getD_el l hi]; exact List.getElem_mem hi
    refine M.i_t (decide_eq_true (by omega)) (M.i_grd (decide_eq_true (by omega)) (M.i_bind (a := false) ?_ (M.i_f rfl M.i_pure)))
    unfold zbv
    exact M.i_bind (h _ hm) M.i_pure
  · simp only [zaZ]
    exact M.i_f (decide_eq_false (by omega)) M.i_pure
theorem every_int (l : List Int) (so : Int -> M Bool) (h : ∀ t ∈ l, (so t).Ends true) : (zav l so).Ends true := by
  unfold zav zbU zbT
  refine M.i_bind (a := false) (M.i_bind (a := -1) (M.i_bind (a := (.inr () : Int ⊕ Unit)) ?_ M.i_pure) M.i_pure) M.i_pure
  refine M.i_for (fun i => i) l.length (fun i hi => ?_) ?_
  · simp only [zaP]
    have hm : l.getD i 0 ∈ l := by rw [getD_el l hi]; exact List.getElem_mem hi
    refine M.i_t (decide_eq_true (by omega)) (M.i_grd (decide_eq_true (by omega)) (M.i_bind (a := false) ?_ (M.i_f rfl M.i_pure)))
    unfold zbA
    exact M.i_bind (h _ hm) M.i_pure
  · simp only [zaP]
    exact M.i_f (decide_eq_false (by omega)) M.i_pure
theorem sright_ends {x : Sect} (hr : Fl.Rows x.rows) (h0 : 0 <= x.place) (h1 : x.place <= 10000) : (zbt x).Ends true := by
  refine M.Out.ends ?_
  unfold zbt
  refine M.o_bind (P := fun z => match z with | .inl _ => False | .inr (_ : Int × Int) => True) ?_ ?_
  · refine M.o_for x.rows.length (fun i (s : Int × Int × Nat) => s.2.2 = i /\ -1 <= s.1 /\ s.1 <= 2000 /\ (∀ j, i <= j -> j < x.rows.length -> s.1 < (x.rows.getD j default).stage) /\ ∀ j, i <= j -> j < x.rows.length -> s.2.1 <= (x.rows.getD j default).carry) ?_ ?_ (s := (-1, 0, 0)) ⟨rfl, by decide, by decide, fun j _ hj => by have := hr.el j hj; dsimp only; omega, fun j _ hj => by have := hr.el j hj; dsimp only; omega⟩
    · rintro i ⟨a, b, _⟩ hi ⟨rfl, h2, h3, h4, h5⟩
      dsimp only at hi h2 h3 h4 h5 ⊢
      have e := hr.el _ hi
      have k1 := h4 _ (Nat.le_refl _) hi
      have k2 := h5 _ (Nat.le_refl _) hi
      simp only [zaW]
      refine M.o_t (decide_eq_true (by omega)) (M.o_grd (decide_eq_true (by omega)) (M.o_grd (gA2 (by omega) (by omega)) (M.o_bindE (in_true (by omega) (by omega)) (M.o_bindE (M.i_opt (fun _ => in_true (by omega) (by omega)) (fun h => by cases h)) (M.o_f rfl (M.o_pure ⟨rfl, by dsimp only; omega, by dsimp only; omega, fun j hj hj' => hr.lt hj hj', fun j hj hj' => hr.cle (by omega) hj'⟩))))))
    · rintro ⟨a, b, _⟩ ⟨rfl, _⟩
      simp only [zaW]
      exact M.o_f (decide_eq_false (by omega)) (M.o_pure trivial)
  · intro z hz
    cases z with
    | inl _ => exact hz.elim
    | inr _ => exact M.o_bindE (in_true h0 h1) (M.o_pure rfl)
theorem mright_ends {m : Mrk} (h : Fl.Mok m) : (zaQ m).Ends true := by
  obtain ⟨h1, h2, h3, h4, h5⟩ := h
  unfold zaQ za0
  exact M.i_bind (in_true h1 h2) (M.i_bind (M.i_opt (fun _ => M.i_bind (in_true h3 (by dsimp only; omega)) (M.i_bind (M.i_opt (fun _ => in_true h4 h5) (fun h => by cases h)) M.i_pure)) (fun h => by cases h)) M.i_pure)
theorem rright_ends {S : List Sect} {r : Rch} (hn : S.length <= 6) (h : Fl.Rok S r) : (za9 r (S.length : Int)).Ends true := by
  obtain ⟨h1, h2, h3, h4, h5, h6⟩ := h
  unfold za9 za0
  refine M.i_grd (gA2 (by omega) (by omega)) (M.i_bind (in_true h1 (by omega)) (M.i_grd (gOr2 (by omega) (by omega)) (M.i_bind (M.i_opt (fun _ => in_true (by omega) (by omega)) (fun h => by cases h)) (M.i_bind (M.i_opt (fun _ => M.i_bind (in_true h4 (by dsimp only; omega)) (M.i_bind (M.i_opt (fun _ => in_true h5 h6) (fun h => by cases h)) M.i_pure)) (fun h => by cases h)) M.i_pure))))
section
variable {S : List Sect} {M' : List Mrk} {R' : List Rch} {ms : List Int} {r : Rch}
theorem check_ends (h : Fl.Site S M' R') : (zbf S M' R').Ends 0 := by
  obtain ⟨hS, hm, hr, hmk, hrk⟩ := h
  obtain ⟨hn, hrows, hpl, hup⟩ := hS
  unfold zbf
  refine M.i_bind (in_true (by omega) (by omega)) (M.i_bind (M.i_opt (fun _ => in_true (by omega) (by omega)) (fun h => by cases h)) (M.i_bind (M.i_opt (fun _ => in_true (by omega) (by omega)) (fun h => by cases h)) (M.i_bind (M.i_opt (fun _ => every_sect _ _ fun x hx => ?_) (fun h => by cases h)) (M.i_f rfl ?_))))
  · obtain ⟨i, hi, rfl⟩ := mem_getD hx default
    unfold zbh
    have := hrows i hi
    exact M.i_bind (in_true (by omega) (by omega)) M.i_pure
  · refine M.Out.ends (M.o_bind (P := fun z => match z with | .inl _ => False | .inr (_ : Unit) => True) ?_ ?_)
    · refine M.o_for S.length (fun i (s : Int × Nat) => s.2 = i /\ ∀ j, i <= j -> j < S.length -> s.1 < (S.getD j default).place) ?_ ?_ (s := (-1, 0)) ⟨rfl, fun j _ hj => by have := hpl j hj; dsimp only; omega⟩
      · rintro i ⟨a, _⟩ hi ⟨rfl, h2⟩
        dsimp only at hi h2 ⊢
        have e := hpl _ hi
        have k1 := h2 _ (Nat.le_refl _) hi
        simp only [zaN]
        exact M.o_t (decide_eq_true (by omega)) (M.o_grd (decide_eq_true (by omega)) (M.o_bindE (sright_ends (hrows _ hi).1 e.1 e.2) (M.o_f (decide_eq_false (p := (S.getD _ default).place <= a) (by omega)) (M.o_pure ⟨rfl, fun j hj hj' => hup _ _ hj hj'⟩))))
      · rintro ⟨a, _⟩ ⟨rfl, _⟩
        simp only [zaN]
        exact M.o_f (decide_eq_false (by omega)) (M.o_pure trivial)
    · intro z hz
      cases z with
      | inl _ => exact hz.elim
      | inr _ =>
        refine M.o_bindE (every_mark _ _ fun x hx => mright_ends (hmk x hx)) (M.o_bindE (M.i_opt (fun _ => every_reach _ _ fun x hx => ?_) (fun h => by cases h)) (M.o_f rfl (M.o_pure rfl)))
        unfold zbn
        exact M.i_bind (rright_ends hn.2 (hrk x hx)) M.i_pure
theorem opened_ends (h : Fl.Site S M' R') : (zao S M' R').Ends (.inr 0) := by
  unfold zao
  exact M.i_bind (check_ends h) (M.i_f rfl M.i_pure)
theorem chosen_ends (h : Fl.Site S M' R') (hc : Fl.Inc M' ms) : (zaw S M' R' ms).Ends (.inr 0) := by
  unfold zaw
  refine M.i_bind (opened_ends h) (M.i_bind (a := 0) (M.Out.ends ?_) M.i_pure)
  have hm := h.m
  refine M.o_for ms.length (fun i (s : Int × Int × Nat) => s.1 = 0 /\ s.2.2 = i /\ -1 <= s.2.1 /\ s.2.1 <= 16 /\ ∀ j, i <= j -> j < ms.length -> s.2.1 < ms.getD j 0) ?_ ?_ (s := (0, -1, 0)) ⟨rfl, rfl, by decide, by decide, fun j _ hj => by have := hc.2 (ms.getD j 0) (by rw [getD_el ms hj]; exact List.getElem_mem hj); dsimp only; omega⟩
  · rintro i ⟨_, a, _⟩ hi ⟨rfl, rfl, h2, h3, h4⟩
    dsimp only at hi h2 h3 h4 ⊢
    have e := hc.2 (ms.getD _ 0) (by rw [getD_el ms hi]; exact List.getElem_mem hi)
    have k1 := h4 _ (Nat.le_refl _) hi
    simp only [zaV]
    refine M.o_t (decide_eq_true (by omega)) (M.o_grd (decide_eq_true (by omega)) (M.o_grd (gOr2 (by omega) (by omega)) (M.o_bindE (M.i_opt (fun _ => in_true (by omega) (by omega)) (fun h => by cases h)) (M.o_f rfl (M.o_pure ⟨rfl, rfl, by dsimp only; omega, by dsimp only; omega, fun j hj hj' => ?_⟩)))))
    rw [getD_el ms hi, getD_el ms hj']
    exact List.pairwise_iff_getElem.1 hc.1 _ _ hi hj' hj
  · rintro ⟨_, a, _⟩ ⟨rfl, rfl, _⟩
    simp only [zaV]
    exact M.o_f (decide_eq_false (by omega)) (M.o_pure rfl)
theorem asked_ends (h : Fl.Site S M' R') (hc : Fl.Inc M' ms) {i : Int} (h0 : 0 <= i) (h1 : i < R'.length) :
    (zbs S M' R' ms i).Ends (.inr ((R'.getD (Int.toNat i) default).up, (R'.getD (Int.toNat i) default).down, (R'.getD (Int.toNat i) default).lo, (R'.getD (Int.toNat i) default).hi, (R'.getD (Int.toNat i) default).narrow, 0)) := by
  unfold zbs
  exact M.i_bind (chosen_ends h hc) (M.i_bind (M.i_opt (fun _ => in_true h0 (by omega)) (fun h => by cases h)) (M.i_f rfl (M.i_f rfl (M.i_grd (gA2 h0 h1) M.i_pure))))
theorem ahead_ends {a b : Int} (ha : 0 <= a /\ a < M'.length) (hb : 0 <= b /\ b < M'.length) :
    (zai S M' R' a b).Ends (decide ((M'.getD (Int.toNat a) default).place <= (M'.getD (Int.toNat b) default).place) && decide ((M'.getD (Int.toNat a) default).hi < (M'.getD (Int.toNat b) default).lo)) := by
  unfold zai
  exact M.i_grd (gA2 ha.1 ha.2) (M.i_grd (gA2 hb.1 hb.2) M.i_pure)
theorem ahead_false {a b : Int} (hx : Fl.Ixs M' ms) (ht : Fl.Tog M' ms) (ha : a ∈ ms) (hb : b ∈ ms) : (zai S M' R' a b).Ends false := by
  have := ahead_ends (S := S) (R' := R') (hx a ha) (hx b hb)
  rwa [show (decide ((M'.getD (Int.toNat a) default).place <= (M'.getD (Int.toNat b) default).place) && decide ((M'.getD (Int.toNat a) default).hi < (M'.getD (Int.toNat b) default).lo)) = false by
    rw [Bool.and_eq_false_iff, decide_eq_false_iff_not, decide_eq_false_iff_not]
    have := ht a ha b hb
    omega] at this
theorem together_ends (hx : Fl.Ixs M' ms) (ht : Fl.Tog M' ms) : (zaC S M' R' ms).Ends true := by
  unfold zaC
  refine M.i_bind (every_int _ _ fun a ha => ?_) M.i_pure
  unfold zbe
  refine M.i_bind (every_int _ _ fun b hb => ?_) M.i_pure
  unfold zbj
  exact M.i_bind (ahead_false hx ht ha hb) M.i_pure
theorem Peak_out (h : Fl.Site S M' R') (hc : Fl.Inc M' ms) (ht : Fl.Tog M' ms) {i : Int} (h0 : 0 <= i) (h1 : i < R'.length) :
    (zaj S M' R' ms i).Out (fun x => x.2.2 = 0 /\ (∃ c, Fl.IsLow S M' ms (R'.getD (Int.toNat i) default) c x.1) /\ ∃ c, Fl.IsHigh S M' ms (R'.getD (Int.toNat i) default) c x.2.1) := by
  have hl : Int.toNat i < R'.length := by omega
  have hr : Fl.Rok S (R'.getD (Int.toNat i) default) := by rw [getD_el R' hl]; exact h.rks _ (List.getElem_mem hl)
  unfold zaj
  refine M.o_bindE (asked_ends h hc h0 h1) (M.o_f rfl (M.o_bindE (together_ends hc.2 ht) (M.o_f rfl (M.o_bind (peak_out h.s hr h.mks hc.2 ht) ?_))))
  rintro ⟨a, b⟩ hp
  exact M.o_pure ⟨rfl, hp⟩
end
end Go.Proofs.YtlemgioaakecpaaGreat
namespace Go.Nm
namespace Fl
end Fl
end Go.Nm
namespace Go.Proofs.YtlemgioaakecpaaGreat
open Go Go.Nm
section
variable {S : List Sect} {M' : List Mrk} {R' : List Rch} {ms : List Int} {r : Rch}
end
end Go.Proofs.YtlemgioaakecpaaGreat
namespace Go.Nm
namespace Fl
theorem Rows.snoc : ∀ {l : List FRow} {a : FRow}, Rows l -> (∀ e ∈ l, e.stage < a.stage /\ e.carry <= a.carry) -> 0 <= a.stage -> a.stage <= 2000 -> 0 <= a.carry -> a.carry <= 100000 -> Rows (l ++ [a])
  | [], _, _, _, h1, h2, h3, h4 => ⟨h1, h2, h3, h4⟩
  | [b], a, h, he, h1, h2, h3, h4 => by
    have := he b (by simp)
    exact ⟨h.1, this.1, h.2.2.1, this.2, h1, h2, h3, h4⟩
  | b :: c :: r, a, h, he, h1, h2, h3, h4 => by
    obtain ⟨k1, k2, k3, k4, k5⟩ := h
    exact ⟨k1, k2, k3, k4, k5.snoc (fun e hh => he e (by simp [List.mem_cons.1 hh])) h1 h2 h3 h4⟩
/-- A site with what really was: stages that fall downstream, marks about them, and roughness that is allowed. -/
structure Truth (S : List Sect) (M : List Mrk) (R : List Rch) (t ro : List Int) : Prop where
  site : Site S M R
  m8 : M.length <= 8
  tl : t.length = S.length
  rl : ro.length = S.length
  tr : ∀ i, i < S.length -> 0 <= t.getD i 0 /\ t.getD i 0 <= 2000
  td : ∀ i j, i <= j -> j < S.length -> t.getD j 0 <= t.getD i 0
  gap : ∀ i j, i < j -> j < S.length -> (S.getD i default).place + 21 <= (S.getD j default).place
  mt : ∀ m ∈ M, ∃ j, j < S.length /\ (S.getD j default).place <= m.place /\ m.place <= (S.getD j default).place + 19 /\ m.lo <= t.getD j 0 /\ t.getD j 0 <= m.hi
  ro0 : ∀ i, i < S.length -> 1 <= ro.getD i 0 /\ ro.getD i 0 <= 400
  rt : ∀ r ∈ R, r.lo <= ro.getD (Int.toNat r.up) 0 /\ r.lo <= ro.getD (Int.toNat r.down) 0 /\ ro.getD (Int.toNat r.up) 0 <= r.hi /\ ro.getD (Int.toNat r.down) 0 <= r.hi
section
variable {S : List Sect} {M : List Mrk} {R : List Rch} {t ro : List Int} {ms : List Int}
theorem Truth.no (h : Truth S M R t ro) {a b : Mrk} (ha : a ∈ M) (hb : b ∈ M) : ¬(a.place <= b.place /\ a.hi < b.lo) := by
  rintro ⟨h1, h2⟩
  obtain ⟨i, i1, i2, i3, i4, i5⟩ := h.mt a ha
  obtain ⟨j, j1, j2, j3, j4, j5⟩ := h.mt b hb
  by_cases e : i <= j
  · have := h.td i j e j1
    omega
  · have := h.gap j i (by omega) i1
    omega
theorem Truth.tog (h : Truth S M R t ro) (hx : Ixs M ms) : Tog M ms := fun a ha b hb => by
  have h1 := hx a ha
  have h2 := hx b hb
  have l1 : Int.toNat a < M.length := by omega
  have l2 : Int.toNat b < M.length := by omega
  rw [getD_el M l1, getD_el M l2]
  exact h.no (List.getElem_mem l1) (List.getElem_mem l2)
end
end Fl
end Go.Nm
namespace Go.Nm
open Go
/-- Whatever was known of memory is still so. -/
def Later (w w' : World) : Prop := ∀ (w0 : World) (L R : List Chunk), St w0 w L R -> St w0 w' L R
def RetE (R : Value -> World -> Prop) : Ending -> World -> Prop := fun e w => ∃ v, e = .returned v /\ R v w
/-- From here to the function's end, with nothing deferred so far. -/
def WB (P : Program) (fn : Func) (n : Nat) (c : Code) (R : Value -> World -> Prop) (σ : Env) (w : World) : Prop :=
  ∀ a, Fr [] n σ a -> c.wp P (bodyPostD P fn (RetE R)) a w
/-- The end of a function that has deferred a call which leaves memory as it was. -/
def bodyQd (P : Program) (fn : Func) (R : Value -> World -> Prop) : Post
  | .normal, σ, w | .ret, σ, w => ∀ w', Later w w' -> ∃ v, resE P fn σ w' v /\ R v w'
  | _, _, _ => False
section
variable {P : Program} {fn : Func} {n : Nat} {R : Value -> World -> Prop} {σ : Env} {w : World}
theorem ret_of_WB {f : FuncId} {c : Code} {args : Array Value}
    (hf : P.funcs[f]? = some fn) (hb : fn.body = some c) (hn : fn.ntmps = n) (hle' : Nat.ble args.size n = true)
    (h : WB P fn n c R (argE args) w) : Ret P f args w R := by
  have hle := Nat.le_of_ble_eq_true hle'
  subst hn
  refine calls_of_wp_defers hf hb (h _ ⟨rfl, ?_, fun k => ?_⟩)
  · simp; omega
  · simp only [argE, Array.getD_eq_getD_getElem?, Array.getElem?_append]
    by_cases hk : k < args.size
    · simp [hk]
    · rw [if_neg hk]
      simp only [Array.getElem?_replicate]
      have : args[k]? = none := by simp; omega
      rw [this]
      split <;> rfl
theorem WB.seq {x y : Code} (h : W P n x (thenQ (WB P fn n y R) (bodyQ P fn R)) σ w) : WB P fn n (.seq x y) R σ w := by
  intro a ha
  refine wp_seq (wp_mono ((wpIn_wide (n := 0)).1 (h [] a ha)) ?_)
  rintro e a' w' ⟨s, hs, h'⟩
  cases e with
  | normal => exact h' a' hs
  | ret =>
    obtain ⟨v, hr, hR⟩ := h'
    show Leaves P fn a'.tmps (RetE R) a'.defers .returning w'
    rw [hs.df]
    exact ⟨v, hr _ hs.get, v, rfl, hR⟩
  | _ => exact h'.elim
theorem WB.defer {id : Nat} {o1 o2 : Oper} {y : Code} {d : Nat} {v : Value} {fv : Fn} {cap : Array Value} {f : FuncId} {args : Array Value}
    (hd : Nat.blt d n = true) (hd1 : o1.dst = some d) (hg1 : o1.guard = none) (hd2 : o2.dst = none) (hg2 : o2.guard = none)
    (h1 : ∀ w, (execOp (ev σ) o1).run P w = .ok (.value v) w) (h2 : ∀ w, (execOp (ev (upd σ d v)) o2).run P w = .ok (.defer { target := .fn fv cap, args := #[] }) w)
    (hi : ∀ w, (invoke (.fn fv cap) #[]).run P w = .ok (.enter f args) w)
    (hc : ∀ w, CallsD P f args .returning w fun e u' w' => (∃ v, e = .returned v) /\ u' = .returning /\ Later w w')
    (hk : W P n y (bodyQd P fn R) (upd σ d v) w) : WB P fn n (.seq (.region id #[o1, o2] false) y) R σ w := by
  intro a ha
  refine wp_seq (wp_region ?_)
  have hd' : d < n := Nat.lt_of_lt_of_le (Nat.lt_succ_self d) (Nat.le_of_ble_eq_true hd)
  have h2' : (execOp (a.put (some d) v).eval o2).run P w = .ok (.defer { target := .fn fv cap, args := #[] }) w := by
    rw [(ha.put hd' v).eval]
    exact h2 w
  have hr : List.range (#[o1, o2] : Array Oper).size = [0, 1] := rfl
  rw [hr]
  simp only [wpOps, List.getElem?_toArray, List.getElem?_cons_zero, List.getElem?_cons_succ, Region.wanted, hg1, hg2, if_true, Oper.wp, ha.eval, h1, hd1, Oper.upon, h2', hd2]
  refine .inl (.inl ?_)
  have ha' : Fr [{ target := .fn fv cap, args := #[] }] n (upd σ d v) ({ a.put (some d) v with defers := { target := .fn fv cap, args := #[] } :: (a.put (some d) v).defers }.put none undef) := by
    have h3 := ha.put hd' v
    exact ⟨by show _ :: (a.put (some d) v).defers = _; rw [h3.df], h3.sz, h3.get⟩
  refine wp_mono ((wpIn_wide (n := 0)).1 (hk _ _ ha')) ?_
  rintro e a' w' ⟨s, hs, h'⟩
  have fin : (∀ w'', Later w' w'' -> ∃ v, resE P fn s w'' v /\ R v w'') -> Leaves P fn a'.tmps (RetE R) a'.defers .returning w' := fun h' => by
    rw [hs.df]
    refine leaves_cons (by simp) (hi w') ((hc w').mono ?_)
    rintro e u' w'' ⟨⟨v, rfl⟩, rfl, hl⟩
    obtain ⟨v', hr, hR⟩ := h' w'' hl
    exact ⟨v', hr _ hs.get, v', rfl, hR⟩
  cases e with
  | normal => exact fin h'
  | ret => exact fin h'
  | _ => exact h'.elim
theorem x_defer {x : Operand} {fv : Fn} {cap : Array Value} {ty : TypeId} {pos : String} {af : Array Edge} (hx : ev σ x = .func fv #[] cap) (w : World) :
    (execOp (ev σ) ⟨none, .defer { callee := .value x, args := #[], argTypes := #[] }, ty, pos, af, none⟩).run P w = .ok (.defer { target := .fn fv cap, args := #[] }) w := by
  simp [execOp, resolve, hx, Deferred.ofValue]
theorem x_invoke {f : FuncId} (hcf : CF P f) {cap : Array Value} (w : World) : (invoke (.fn (.func f) cap) #[]).run P w = .ok (.enter f cap) w := by
  simp [invoke, run_callFunc hcf]
end
end Go.Nm
namespace Go.Proofs.YtlemgioaakecpaaGreat
open Go Go.Nm
theorem ta_nil (w : World) : (Instr.typeAssert .nilIface 20 119 true).run Tryz.prog w = .ok (.tuple #[.agg #[I 0], .bool false]) w := by
  simp [Instr.typeAssert, go_sem]
set_option maxRecDepth 20000 in
theorem catch_idle (p q : Value) (w : World) : CallsD Tryz.prog 53 #[p, q] .returning w fun e u' w' => (∃ v, e = .returned v) /\ u' = .returning /\ Later w w' := by
  refine callsD_of_wpS Tryz.func53 rfl fun c₀ cs hu => ?_
  apply wpS_seq
  apply wpS_region
  simp [wpOpsS, go_sem, recoverD, hu, Exit.thenS, ta_nil]
  apply wpS_seq
  apply wpS_region
  simp [wpOpsS, go_sem, Exit.thenS]
  refine wpS_cond (t := false) (by simp [Act.eval, Array.replicate]) ?_
  simp only [Bool.false_eq_true, if_false]
  refine wpS_of_wp (wp_skip ?_)
  cases c₀
  simp_all [bodyPostS, results, Tryz.results53]
  exact fun w0 L R H => H.ext (New.alloc ..).ext
end Go.Proofs.YtlemgioaakecpaaGreat
section
set_option maxRecDepth 100000
set_option maxHeartbeats 16000000
namespace Go.Proofs.YtlemgioaakecpaaGreat
open Go Go.Nm
def zbl (a : Int) (ah : List Sect) (aa : List Mrk) (ai : List Rch) (ab : List Sect) (ac : List Mrk) (ae : List Rch) (aj : (Int × (List Sect) × (List Mrk) × (List Rch) × (List Sect) × (List Mrk) × (List Rch) × (Int -> Option Bool) × (List Int) × (List Int)) -> M (Bool × (Int -> Option Bool) × (List Int) × (List Int))) : (Nat × (Int -> Option Bool) × (List Int) × (List Int)) -> M ((Nat × (Int -> Option Bool) × (List Int) × (List Int)) ⊕ (((Int -> Option Bool) × (List Int) × (List Int)) ⊕ ((Int -> Option Bool) × (List Int) × (List Int)))) := fun (s, mp, s2, s3) =>
  bif decide ((s : Int) < (aa.length : Int)) then (
  M.bind (zai ab ac ae a (s : Int)) fun r2 =>
  bif ((!r2) || ((mp (s : Int)).getD false)) then (
  M.pure (.inl (s + 1, mp, s2, s3)))
  else (
  M.grd (decide ((0 : Int) <= (s : Int)) && decide ((s : Int) < (16 : Int))) <|
  bif !((s3.getD s 0) == (-1)) then (
  M.bind (aj ((s3.getD s 0), ah, aa, ai, ab, ac, ae, (updF mp (s : Int) true), s2, s3)) fun (r3, ag, q0, q1) =>
  bif (((s3.getD s 0) == (-1)) || r3) then (
  M.grd (decide ((0 : Int) <= a) && decide (a < (16 : Int))) <|
  M.pure (.inr (.inl (ag, q0.set (Int.toNat a) (s : Int), q1.set s a))))
  else (
  M.pure (.inl (s + 1, ag, q0, q1))))
  else (
  bif (((s3.getD s 0) == (-1)) || false) then (
  M.grd (decide ((0 : Int) <= a) && decide (a < (16 : Int))) <|
  M.pure (.inr (.inl (updF mp (s : Int) true, s2.set (Int.toNat a) (s : Int), s3.set s a))))
  else (
  M.pure (.inl (s + 1, updF mp (s : Int) true, s2, s3))))))
  else (
  M.pure (.inr (.inr (mp, s2, s3))))
def zaY (aa : (Int × (List Sect) × (List Mrk) × (List Rch) × (List Sect) × (List Mrk) × (List Rch) × (Int -> Option Bool) × (List Int) × (List Int)) -> M (Bool × (Int -> Option Bool) × (List Int) × (List Int))) : (Int × (List Sect) × (List Mrk) × (List Rch) × (List Sect) × (List Mrk) × (List Rch) × (Int -> Option Bool) × (List Int) × (List Int)) -> M (Bool × (Int -> Option Bool) × (List Int) × (List Int)) := fun (a, ab, ac, ae, ag, ah, ai, aj, ak, al) =>
  M.bind (M.iter (zbl a ab ac ae ag ah ai aa) (0, aj, ak, al)) fun x_ => match x_ with
  | (.inl (am, l, l2)) => (
  M.pure (true, am, l, l2))
  | (.inr (ao, l3, l4)) => (
  M.pure (false, ao, l3, l4))
theorem zdk : M.Mon zaY := by
  intro n f g h a
  obtain ⟨a, aa, ab, ac, ae, ag, ah, ai, aj, ak⟩ := a
  simp only [zaY, zbl]
  repeat' (first | exact M.le_same _ _ | exact h _ | refine M.le_grd ?_ | refine M.le_if ?_ ?_ | refine M.le_bind ?_ (fun x => ?_) | refine M.le_opt ?_ | refine M.le_iter (fun x => ?_) _ | refine zcS (M.le_yl (fun s_ a_ => ?_)) _ _ _ | (rename_i x; cases x) | (rename_i x; obtain ⟨_, _⟩ := x))
def zcq (a : Int) (aa : List Sect) (ab : List Mrk) (ac : List Rch) (ae : List Sect) (ag : List Mrk) (ah : List Rch) (ai : Int -> Option Bool) (aj : List Int) (ak : List Int) : M (Bool × (Int -> Option Bool) × (List Int) × (List Int)) := M.fix zaY zdk (a, aa, ab, ac, ae, ag, ah, ai, aj, ak)
theorem zdj (n_ : Nat) : ∀ {R : List Chunk} {am : Nat} {ag : Nat} {aM : Cells} {aN : Value} {aO : Cells} {aC : Value} {aP : Cells} {aQ : Value} {bh : Nat} {aj : Nat} {aw : Nat} {aR : Cells} {aS : Value} {aT : Cells} {aU : Value} {aV : Cells} {aW : Value} {bi : Nat} {ah : Nat} {ab : Nat} {ac : Nat} {aa : Nat} {ak : Nat} (a : Int) (ax : List Sect) (ai : List Mrk) (ay : List Rch) (aq : List Sect) (au : List Mrk) (av : List Rch) (aD : Int -> Option Bool) (az : List Int) (aA : List Int) (bj : Reads R aM) (bm : Sl aM aN ax) (bn : Reads R aO) (aE : Sl aO aC ai) (bo : Reads R aP) (bp : Sl aP aQ ay) (aX : Has R (cBlk ag [aN, aC, aQ, .map (some bh)] 177)) (aY : Has R (cBlk am [Pq ag] 112)) (aZ : Reads R aR) (a6 : Sl aR aS aq) (a7 : Reads R aT) (a8 : Sl aT aU au) (ba : Reads R aV) (bb : Sl aV aW av) (bc : Has R (cBlk aw [aS, aU, aW, .map (some bi)] 177)) (bf : Has R (cBlk aj [.func (.func 51) #[Pq aw] #[]] 116)) (aF : Has R (cBlk ah [.map (some ab)] 191)) (bq : az.length = 16) (br : aA.length = 16) (al : Has R (cBlk ac [Pq aa] 178)) (bg : Has R (cBlk ak [.func (.func 120) #[] #[Pq am, Pq aj, Pq ah, Pq ac, Pq ak]] 157)) {r : (Bool × (Int -> Option Bool) × (List Int) × (List Int))} (hM : (M.fixN zaY n_ (a, ax, ai, ay, aq, au, av, aD, az, aA)).Ends r) (w : World) (H : St w w [cMap I B ab aD, cBlk aa (List.flatten [[], encF (α := Int) az, encF (α := Int) aA]) 182] R), Ret Tryz.prog 120 #[I a, Pq am, Pq aj, Pq ah, Pq ac, Pq ak] w fun v w' => ∃ (y0 : Bool) (y1 : Int -> Option Bool) (y2 : List Int) (y3 : List Int), (y0, y1, y2, y3) = r /\ v = B y0 /\ St w w' [cMap I B ab y1, cBlk aa (List.flatten [[], encF (α := Int) y2, encF (α := Int) y3]) 182] R /\ y2.length = 16 /\ y3.length = 16 := by
  induction n_ with
  | zero => intro R am ag aM aN aO aC aP aQ bh aj aw aR aS aT aU aV aW bi ah ab ac aa ak a ax ai ay aq au av aD az aA bj bm bn aE bo bp aX aY aZ a6 a7 a8 ba bb bc bf aF bq br al bg r hM w H; exact (M.e_fail hM).elim
  | succ n_ ih =>
    intro R am ag aM aN aO aC aP aQ bh aj aw aR aS aT aU aV aW bi ah ab ac aa ak a ax ai ay aq au av aD az aA bj bm bn aE bo bp aX aY aZ a6 a7 a8 ba bb bc bf aF bq br al bg r hM w H
    refine ret_of_W Tryz.func120 rfl rfl rfl ?_
    refine W.seq ?_
    refine W.region rfl ?_
    refine zA (B false) rfl ?_
    refine s_nil ?_
    refine W.seq ?_
    refine W.seq ?_
    refine W.region rfl ?_
    refine s_val (x_ld (p := Pq am) (v := Pq ag) rfl (ldb_sc Sc112 (aY.blk H) rfl)) ?_
    refine s_val (x_nc (a := ⟨ag, 0, none⟩) rfl) ?_
    refine s_val (x_fa (a := Pq ag) (v := Pq ag) rfl (fa_blk (o := 0) Fd177_0 Sz27)) ?_
    refine s_val (x_fa (a := Pq ag) (v := Oq ag 1) rfl (fa_blk (o := 0) Fd27_1 Sz24)) ?_
    refine s_val (x_ld (p := Oq ag 1) (v := aC) rfl (ldb_sc Sc24 (aX.blk H) rfl)) ?_
    have bT := (aE).len_le
    refine s_val (x_lenS T24.und rfl aE) ?_
    refine zM (I 0) rfl ?_
    refine s_nil ?_
    refine W.block ?_
    obtain ⟨bG, bt, bu⟩ := M.e_bind hM
    obtain ⟨bU, bt⟩ := M.e_iter bt
    refine W.loop (fun m σ W => ∃ (s : Nat) (mp : Int -> Option Bool) (s2 : List Int) (s3 : List Int) (ρ : Env), σ = upds ρ [(0, I a), (2, Pq aj), (3, Pq ah), (4, Pq ac), (5, Pq ak), (14, I (ai.length : Int)), (15, I (s : Int))] /\ M.iterN (zbl a ax ai ay aq au av (M.fixN zaY n_)) m (s, mp, s2, s3) = some bG /\ St w W [cMap I B ab mp, cBlk aa (List.flatten [[], encF (α := Int) s2, encF (α := Int) s3]) 182] R /\ s2.length = 16 /\ s3.length = 16) ?_ ?_
    ·exact ⟨_, 0, aD, az, aA, _, upds_of _ _ ⟨rfl, rfl, rfl, rfl, rfl, rfl, rfl, trivial⟩, bt, H, bq, br⟩
    rintro bV σ bW ⟨s, mp, s2, s3, ρ, rfl, bD, H, ao, ap⟩
    obtain ⟨bv, bw, bX, hM, aB⟩ := M.e_iterN bD
    simp only [zbl] at hM
    clear bD
    refine W.seq ?_
    refine W.region rfl ?_
    refine zC (s : Int) (ai.length : Int) (decide ((s : Int) < (ai.length : Int))) rfl rfl rfl ?_
    refine s_nil ?_
    refine W.seq ?_
    refine W.cond (decide ((s : Int) < (ai.length : Int))) rfl (fun aG => ?_) (fun aG => ?_)
    ·replace hM := M.e_t hM aG
     simp only [qy1, qy2, qy3, qy4, qy5, qy6, ne_eq, qy7] at aG
     refine W.skip ?_
     refine W.seq ?_
     refine W.block ?_
     refine W.seq ?_
     refine W.region rfl ?_
     refine zM (I (s : Int)) rfl ?_
     refine zA (I (s : Int)) rfl ?_
     refine s_nil ?_
     refine W.seq ?_
     refine W.seq ?_
     refine W.region rfl ?_
     refine s_val (x_ld (p := Pq aj) (v := .func (.func 51) #[Pq aw] #[]) rfl (ldb_sc Sc116 (bf.blk H) rfl)) ?_
     refine zM (I a) rfl ?_
     refine zM (I (s : Int)) rfl ?_
     obtain ⟨bY, bH, hM⟩ := M.e_bind hM
     refine s_callm (f := 51) (fs := [Pq aw]) rfl cf51 [I a, I (s : Int)] rfl (zaq aq au av a (s : Int) (aZ.app _) a6 (a7.app _) a8 (ba.app _) bb (bc.app _) bH _ (H.gt 2)) ?_
     rintro vq bZ ⟨r2, bI, hvq, aH⟩
     subst bI
     subst vq
     try dsimp only at hM
     replace H := H.bk aH
     clear aH
     refine s_val (x_not (b := r2) rfl) ?_
     refine zM (B (!r2)) rfl ?_
     refine g_val (!(!r2)) (gy_f rfl) (fun hg => x_ld (p := Pq ah) (v := .map (some ab)) rfl (ldb_sc Sc191 (aF.blk H) rfl)) ?_
     refine g_val (!(!r2)) (gy_f rfl) (fun hg => x_mv (v := I (s : Int)) rfl) ?_
     refine g_val (!(!r2)) (gy_f rfl) (fun hg => q_look (kenc := I) (venc := B) (f := mp) (k := (s : Int)) (v := B ((mp (s : Int)).getD false)) keyIntB Tryz.underlying191 Al4 (by exact (gd_of (c := !(!r2)) hg (.map (some ab)))) (by exact (gd_of (c := !(!r2)) hg (I (s : Int)))) (H.get (k := 0) rfl) false (by rw [if_neg (by decide), bool_val])) ?_
     refine s_val (x_por (b := !r2) (r := (mp (s : Int)).getD false) rfl rfl (fun hb => gd_of (c := !(!r2)) (by first | exact hb | (rw [hb]; rfl) | simp_all) (B ((mp (s : Int)).getD false)))) ?_
     refine s_nil ?_
     refine W.cond ((!r2) || ((mp (s : Int)).getD false)) rfl (fun bx => ?_) (fun bx => ?_)
     ·replace hM := M.e_t hM bx
      refine W.exit ?_
      refine W.region rfl ?_
      refine zR (s : Int) 1 ((s : Int) + 1) rfl rfl rfl (by omega) ?_
      refine zM (I ((s : Int) + 1)) rfl ?_
      refine s_nil ?_
      exact ⟨bv, bw, s + 1, mp, s2, s3, _, upds_of _ _ ⟨rfl, rfl, rfl, rfl, rfl, rfl, rfl, trivial⟩, M.e_inl hM aB, H, ao, ap⟩
     replace hM := M.e_f hM bx
     refine W.skip ?_
     refine W.seq ?_
     refine W.region rfl ?_
     refine s_val (x_ld (p := Pq ah) (v := .map (some ab)) rfl (ldb_sc Sc191 (aF.blk H) rfl)) ?_
     refine zM (I (s : Int)) rfl ?_
     refine t_mapu (i := 0) (kenc := I) (venc := B) (f := mp) (k := (s : Int)) (v := true) (L' := [cMap I B ab (updF mp (s : Int) true), cBlk aa (List.flatten [[], encF (α := Int) s2, encF (α := Int) s3]) 182]) keyIntB Tryz.underlying191 H rfl rfl rfl rfl rfl ?_
     intro b3 H
     refine s_nil ?_
     refine W.seq ?_
     refine W.draw (fun W => St w W [] R) [(0, true), (1, true), (2, true), (3, true), (4, true), (5, false), (6, true), (7, true), (8, true), (9, true), (10, true), (11, true), (12, true), (13, true), (14, false), (15, false), (16, true)] mixed (by decide +kernel) rfl ?_
     intro b4 ae
     replace H := H.ext ae
     clear ae
     refine ⟨(H.pk []), ?_⟩
     refine d_q rfl (fun w' H => x_ld (p := Pq ac) (v := Pq aa) rfl (ldb_sc Sc178 (al.blk H) rfl)) ?_
     refine d_q rfl (fun w' H => x_mv (v := I (s : Int)) rfl) ?_
     refine d_q rfl (fun w' H => x_nc (a := ⟨aa, 0, none⟩) rfl) ?_
     refine d_q rfl (fun w' H => x_fa (a := Pq aa) (v := Oq aa 16) rfl (fa_blk (o := 0) Fd182_1 Sz180)) ?_
     obtain ⟨bJ, hM⟩ := M.e_grd hM
     simp only [Bool.and_eq_true, decide_eq_true_eq] at bJ
     refine d_q rfl (fun w' H => x_ix (a := Oq aa 16) (b := I (s : Int)) (v := .pointer (some ⟨aa, 16 + Int.toNat (s : Int) * 1, none⟩)) rfl rfl (run_indexS Tryz.underlying180 Sz3 (by omega) (by omega))) ?_
     refine d_l rfl ?_
     refine s_val (x_ld (p := .pointer (some ⟨aa, 16 + Int.toNat (s : Int) * 1, none⟩)) (v := I (s3.getD s 0)) rfl (ldS (α := Int) (k := 2) (off := 16) (i := s) (f := 0) (sz := 1) 0 Sc3 (H.bl 1) rfl (sgo2 ao rfl) rfl (by decide) (by have aI := ap; omega) (by omega) rfl)) ?_
     refine s_nil ⟨(H.pk []), ?_⟩
     refine d_q rfl (fun w' H => x_cmp (kd := .i64) (a := s3.getD s 0) (b := -1) (r := (s3.getD s 0) == (-1)) rfl rfl rfl) ?_
     refine d_q rfl (fun w' H => x_mv (v := B ((s3.getD s 0) == (-1))) rfl) ?_
     refine d_qg (!((s3.getD s 0) == (-1))) rfl (gy_f rfl) (fun hg => (fun w' H => x_ld (p := Pq ak) (v := .func (.func 120) #[] #[Pq am, Pq aj, Pq ah, Pq ac, Pq ak]) rfl (ldb_sc Sc157 (bg.blk H) rfl))) ?_
     refine d_qg (!((s3.getD s 0) == (-1))) rfl (gy_f rfl) (fun hg => (fun w' H => x_ld (p := Pq ac) (v := Pq aa) rfl (ldb_sc Sc178 (al.blk H) rfl))) ?_
     refine d_qg (!((s3.getD s 0) == (-1))) rfl (gy_f rfl) (fun hg => (fun w' H => x_mv (v := I (s : Int)) rfl)) ?_
     refine d_qg (!((s3.getD s 0) == (-1))) rfl (gy_f rfl) (fun hg => (fun w' H => x_nc (a := ⟨aa, 0, none⟩) (gd_of (c := !((s3.getD s 0) == (-1))) hg (Pq aa)))) ?_
     refine d_qg (!((s3.getD s 0) == (-1))) rfl (gy_f rfl) (fun hg => (fun w' H => x_fa (a := Pq aa) (v := Oq aa 16) (gd_of (c := !((s3.getD s 0) == (-1))) hg (Pq aa)) (fa_blk (o := 0) Fd182_1 Sz180))) ?_
     refine d_qg (!((s3.getD s 0) == (-1))) rfl (gy_f rfl) (fun hg => (fun w' H => x_ix (a := Oq aa 16) (b := I (s : Int)) (v := .pointer (some ⟨aa, 16 + Int.toNat (s : Int) * 1, none⟩)) (gd_of (c := !((s3.getD s 0) == (-1))) hg (Oq aa 16)) (gd_of (c := !((s3.getD s 0) == (-1))) hg (I (s : Int))) (run_indexS Tryz.underlying180 Sz3 (by first | omega | (have ae := hg; simp at ae; omega)) (by first | omega | (have ae := hg; simp at ae; omega))))) ?_
     refine d_l rfl ?_
     refine g_val (!((s3.getD s 0) == (-1))) (gy_f rfl) (fun hg => x_ld (p := .pointer (some ⟨aa, 16 + Int.toNat (s : Int) * 1, none⟩)) (v := I (s3.getD s 0)) (gd_of (c := !((s3.getD s 0) == (-1))) hg (.pointer (some ⟨aa, 16 + Int.toNat (s : Int) * 1, none⟩))) (ldS (α := Int) (k := 2) (off := 16) (i := s) (f := 0) (sz := 1) 0 Sc3 (H.bl 1) rfl (sgo2 ao rfl) rfl (by decide) (by have aI := ap; first | omega | (have ae := hg; simp at ae; omega)) (by omega) rfl)) ?_
     refine s_nil ⟨(H.pk []), ?_⟩
     refine d_l rfl ?_
     refine g_splitV (!((s3.getD s 0) == (-1))) (B false) (gy_f rfl) (fun aJ => ?_) (fun aJ => ?_)
     ·replace hM := M.e_t hM aJ
      obtain ⟨b5, bK, hM⟩ := M.e_bind hM
      refine s_callv (f := 120) (by exact (gd_of (c := !((s3.getD s 0) == (-1))) aJ (.func (.func 120) #[] #[Pq am, Pq aj, Pq ah, Pq ac, Pq ak]))) cf120 [I (s3.getD s 0)] (by exact (lst1 (gd_of (c := !((s3.getD s 0) == (-1))) aJ (I (s3.getD s 0))))) (ih (s3.getD s 0) ax ai ay aq au av (updF mp (s : Int) true) s2 s3 (bj.app _) bm (bn.app _) aE (bo.app _) bp (aX.app _) (aY.app _) (aZ.app _) a6 (a7.app _) a8 (ba.app _) bb (bc.app _) (bf.app _) (aF.app _) ao ap (al.app _) (bg.app _) bK _ (H.gt 0)) ?_
      rintro vq b6 ⟨r3, aK, q0, q1, bL, hvq, aH, bz, bA⟩
      subst bL
      subst vq
      try dsimp only at hM
      replace H := H.bk aH
      clear aH
      refine s_nil ⟨(H.pk []), ?_⟩
      refine d_q rfl (fun w' H => x_por (b := (s3.getD s 0) == (-1)) (r := r3) rfl rfl (fun _ => rfl)) ?_
      refine d_nil ?_
      refine W.cond (((s3.getD s 0) == (-1)) || r3) rfl (fun bB => ?_) (fun bB => ?_)
      ·replace hM := M.e_t hM bB
       refine W.seq ?_
       refine W.draw (fun W => St w W [cMap I B ab aK] R) [(0, true), (1, true), (2, true), (3, true), (4, true), (5, true), (6, true), (7, true), (8, true), (10, true), (11, true), (9, false), (12, true), (13, false)] mixed (by decide +kernel) rfl ?_
       intro b7 ae
       replace H := H.ext ae
       clear ae
       refine ⟨(H.pk [0]), ?_⟩
       refine d_q rfl (fun w' H => x_ld (p := Pq ac) (v := Pq aa) rfl (ldb_sc Sc178 (al.blk H) rfl)) ?_
       refine d_q rfl (fun w' H => x_mv (v := I a) rfl) ?_
       refine d_q rfl (fun w' H => x_ld (p := Pq ac) (v := Pq aa) rfl (ldb_sc Sc178 (al.blk H) rfl)) ?_
       refine d_q rfl (fun w' H => x_mv (v := I (s : Int)) rfl) ?_
       refine d_q rfl (fun w' H => x_mv (v := I (s : Int)) rfl) ?_
       refine d_q rfl (fun w' H => x_mv (v := I a) rfl) ?_
       refine d_q rfl (fun w' H => x_nc (a := ⟨aa, 0, none⟩) rfl) ?_
       refine d_q rfl (fun w' H => x_fa (a := Pq aa) (v := Pq aa) rfl (fa_blk (o := 0) Fd182_0 Sz180)) ?_
       obtain ⟨bM, hM⟩ := M.e_grd hM
       simp only [Bool.and_eq_true, decide_eq_true_eq] at bM
       refine d_q rfl (fun w' H => x_ix (a := Pq aa) (b := I a) (v := .pointer (some ⟨aa, 0 + Int.toNat a * 1, none⟩)) rfl rfl (run_indexS Tryz.underlying180 Sz3 (by omega) (by omega))) ?_
       refine d_q rfl (fun w' H => x_nc (a := ⟨aa, 0, none⟩) rfl) ?_
       refine d_q rfl (fun w' H => x_fa (a := Pq aa) (v := Oq aa 16) rfl (fa_blk (o := 0) Fd182_1 Sz180)) ?_
       refine d_l rfl ?_
       refine t_stS (α := Int) (kc := 1) (b := aa) (k := 1) (off := 0) (i := (Int.toNat a)) (f := 0) (sz := 1) (segs := [[], encF (α := Int) q0, encF (α := Int) q1]) (segs' := [[], encF (α := Int) (q0.set (Int.toNat a) (s : Int)), encF (α := Int) q1]) (l := q0) (l' := q0.set (Int.toNat a) (s : Int)) (vs := [I (s : Int)]) (L' := [cMap I B ab aK, cBlk aa (List.flatten [[], encF (α := Int) (q0.set (Int.toNat a) (s : Int)), encF (α := Int) q1]) 182]) H rfl rfl rfl Sz3 rfl rfl rfl rfl (sgo1 rfl) rfl rfl (by have aI := bz; omega) (by omega) 0 (s : Int) rfl rfl rfl rfl ?_
       intro b8 H
       have bE : (q0.set (Int.toNat a) (s : Int)).length = 16 := List.length_set.trans bz
       refine s_nil ⟨(H.pk [0]), ?_⟩
       refine d_q rfl (fun w' H => x_ix (a := Oq aa 16) (b := I (s : Int)) (v := .pointer (some ⟨aa, 16 + Int.toNat (s : Int) * 1, none⟩)) rfl rfl (run_indexS Tryz.underlying180 Sz3 (by omega) (by omega))) ?_
       refine d_l rfl ?_
       refine t_stS (α := Int) (kc := 1) (b := aa) (k := 2) (off := 16) (i := s) (f := 0) (sz := 1) (segs := [[], encF (α := Int) (q0.set (Int.toNat a) (s : Int)), encF (α := Int) q1]) (segs' := [[], encF (α := Int) (q0.set (Int.toNat a) (s : Int)), encF (α := Int) (q1.set s a)]) (l := q1) (l' := q1.set s a) (vs := [I a]) (L' := [cMap I B ab aK, cBlk aa (List.flatten [[], encF (α := Int) (q0.set (Int.toNat a) (s : Int)), encF (α := Int) (q1.set s a)]) 182]) H rfl rfl rfl Sz3 rfl rfl rfl rfl (sgo2 bE rfl) rfl rfl (by have aI := bA; omega) (by omega) 0 a rfl rfl rfl rfl ?_
       intro b9 H
       have bN : (q1.set s a).length = 16 := List.length_set.trans bA
       refine s_nil ⟨(H.pk [0]), ?_⟩
       refine d_nil ?_
       refine W.seq ?_
       refine W.region rfl ?_
       refine zA (B true) rfl ?_
       refine s_nil ?_
       refine W.ret ?_
       have bO := M.e_inr hM aB
       subst bO
       replace hM := bu
       try dsimp only at hM
       have aL := M.e_pure hM
       exact ⟨_, resE_tmp rfl, ⟨true, aK, (q0.set (Int.toNat a) (s : Int)), (q1.set s a), aL, rfl, H, bE, bN⟩⟩
      replace hM := M.e_f hM bB
      refine W.skip ?_
      refine W.region rfl ?_
      refine zR (s : Int) 1 ((s : Int) + 1) rfl rfl rfl (by omega) ?_
      refine zM (I ((s : Int) + 1)) rfl ?_
      refine s_nil ?_
      exact ⟨bv, bw, s + 1, aK, q0, q1, _, upds_of _ _ ⟨rfl, rfl, rfl, rfl, rfl, rfl, rfl, trivial⟩, M.e_inl hM aB, H, bz, bA⟩
     replace hM := M.e_f hM aJ
     refine s_nil ⟨(H.pk []), ?_⟩
     refine d_q rfl (fun w' H => x_por (b := (s3.getD s 0) == (-1)) (r := false) rfl rfl (fun hb => gd_of (c := !((s3.getD s 0) == (-1))) (by first | exact hb | (rw [hb]; rfl) | simp_all) (B false))) ?_
     refine d_nil ?_
     refine W.cond (((s3.getD s 0) == (-1)) || false) rfl (fun bC => ?_) (fun bC => ?_)
     ·replace hM := M.e_t hM bC
      refine W.seq ?_
      refine W.draw (fun W => St w W [cMap I B ab (updF mp (s : Int) true)] R) [(0, true), (1, true), (2, true), (3, true), (4, true), (5, true), (6, true), (7, true), (8, true), (10, true), (11, true), (9, false), (12, true), (13, false)] mixed (by decide +kernel) rfl ?_
      intro cc ae
      replace H := H.ext ae
      clear ae
      refine ⟨(H.pk [0]), ?_⟩
      refine d_q rfl (fun w' H => x_ld (p := Pq ac) (v := Pq aa) rfl (ldb_sc Sc178 (al.blk H) rfl)) ?_
      refine d_q rfl (fun w' H => x_mv (v := I a) rfl) ?_
      refine d_q rfl (fun w' H => x_ld (p := Pq ac) (v := Pq aa) rfl (ldb_sc Sc178 (al.blk H) rfl)) ?_
      refine d_q rfl (fun w' H => x_mv (v := I (s : Int)) rfl) ?_
      refine d_q rfl (fun w' H => x_mv (v := I (s : Int)) rfl) ?_
      refine d_q rfl (fun w' H => x_mv (v := I a) rfl) ?_
      refine d_q rfl (fun w' H => x_nc (a := ⟨aa, 0, none⟩) rfl) ?_
      refine d_q rfl (fun w' H => x_fa (a := Pq aa) (v := Pq aa) rfl (fa_blk (o := 0) Fd182_0 Sz180)) ?_
      obtain ⟨bP, hM⟩ := M.e_grd hM
      simp only [Bool.and_eq_true, decide_eq_true_eq] at bP
      refine d_q rfl (fun w' H => x_ix (a := Pq aa) (b := I a) (v := .pointer (some ⟨aa, 0 + Int.toNat a * 1, none⟩)) rfl rfl (run_indexS Tryz.underlying180 Sz3 (by omega) (by omega))) ?_
      refine d_q rfl (fun w' H => x_nc (a := ⟨aa, 0, none⟩) rfl) ?_
      refine d_q rfl (fun w' H => x_fa (a := Pq aa) (v := Oq aa 16) rfl (fa_blk (o := 0) Fd182_1 Sz180)) ?_
      refine d_l rfl ?_
      refine t_stS (α := Int) (kc := 1) (b := aa) (k := 1) (off := 0) (i := (Int.toNat a)) (f := 0) (sz := 1) (segs := [[], encF (α := Int) s2, encF (α := Int) s3]) (segs' := [[], encF (α := Int) (s2.set (Int.toNat a) (s : Int)), encF (α := Int) s3]) (l := s2) (l' := s2.set (Int.toNat a) (s : Int)) (vs := [I (s : Int)]) (L' := [cMap I B ab (updF mp (s : Int) true), cBlk aa (List.flatten [[], encF (α := Int) (s2.set (Int.toNat a) (s : Int)), encF (α := Int) s3]) 182]) H rfl rfl rfl Sz3 rfl rfl rfl rfl (sgo1 rfl) rfl rfl (by have aI := ao; omega) (by omega) 0 (s : Int) rfl rfl rfl rfl ?_
      intro cd H
      have bF : (s2.set (Int.toNat a) (s : Int)).length = 16 := List.length_set.trans ao
      refine s_nil ⟨(H.pk [0]), ?_⟩
      refine d_q rfl (fun w' H => x_ix (a := Oq aa 16) (b := I (s : Int)) (v := .pointer (some ⟨aa, 16 + Int.toNat (s : Int) * 1, none⟩)) rfl rfl (run_indexS Tryz.underlying180 Sz3 (by omega) (by omega))) ?_
      refine d_l rfl ?_
      refine t_stS (α := Int) (kc := 1) (b := aa) (k := 2) (off := 16) (i := s) (f := 0) (sz := 1) (segs := [[], encF (α := Int) (s2.set (Int.toNat a) (s : Int)), encF (α := Int) s3]) (segs' := [[], encF (α := Int) (s2.set (Int.toNat a) (s : Int)), encF (α := Int) (s3.set s a)]) (l := s3) (l' := s3.set s a) (vs := [I a]) (L' := [cMap I B ab (updF mp (s : Int) true), cBlk aa (List.flatten [[], encF (α := Int) (s2.set (Int.toNat a) (s : Int)), encF (α := Int) (s3.set s a)]) 182]) H rfl rfl rfl Sz3 rfl rfl rfl rfl (sgo2 bF rfl) rfl rfl (by have aI := ap; omega) (by omega) 0 a rfl rfl rfl rfl ?_
      intro ce H
      have bQ : (s3.set s a).length = 16 := List.length_set.trans ap
      refine s_nil ⟨(H.pk [0]), ?_⟩
      refine d_nil ?_
      refine W.seq ?_
      refine W.region rfl ?_
      refine zA (B true) rfl ?_
      refine s_nil ?_
      refine W.ret ?_
      have bR := M.e_inr hM aB
      subst bR
      replace hM := bu
      try dsimp only at hM
      have aL := M.e_pure hM
      exact ⟨_, resE_tmp rfl, ⟨true, (updF mp (s : Int) true), (s2.set (Int.toNat a) (s : Int)), (s3.set s a), aL, rfl, H, bF, bQ⟩⟩
     replace hM := M.e_f hM bC
     refine W.skip ?_
     refine W.region rfl ?_
     refine zR (s : Int) 1 ((s : Int) + 1) rfl rfl rfl (by omega) ?_
     refine zM (I ((s : Int) + 1)) rfl ?_
     refine s_nil ?_
     exact ⟨bv, bw, s + 1, updF mp (s : Int) true, s2, s3, _, upds_of _ _ ⟨rfl, rfl, rfl, rfl, rfl, rfl, rfl, trivial⟩, M.e_inl hM aB, H, ao, ap⟩
    replace hM := M.e_f hM aG
    simp only [qy1, qy2, qy3, qy4, qy5, qy6, ne_eq, qy7] at aG
    refine W.exit ?_
    have bS := M.e_inr hM aB
    subst bS
    replace hM := bu
    try dsimp only at hM
    refine W.seq ?_
    refine W.region rfl ?_
    refine zA (B false) rfl ?_
    refine s_nil ?_
    refine W.ret ?_
    have aL := M.e_pure hM
    exact ⟨_, resE_tmp rfl, ⟨false, mp, s2, s3, aL, rfl, H, ao, ap⟩⟩
theorem zcM {R : List Chunk} {ac : Nat} {aw : Nat} {ax : Cells} {ay : Value} {az : Cells} {aA : Value} {aB : Cells} {aC : Value} {aK : Nat} {ae : Nat} {aD : Nat} {aE : Cells} {aF : Value} {aG : Cells} {aH : Value} {aI : Cells} {aJ : Value} {aL : Nat} {ag : Nat} {ah : Nat} {ai : Nat} {aj : Nat} {ak : Nat} (a : Int) (al : List Sect) (am : List Mrk) (ao : List Rch) (ap : List Sect) (aq : List Mrk) (au : List Rch) (av : Int -> Option Bool) (aa : List Int) (ab : List Int) (aM : Reads R ax) (aN : Sl ax ay al) (aO : Reads R az) (aP : Sl az aA am) (aQ : Reads R aB) (aR : Sl aB aC ao) (aS : Has R (cBlk aw [ay, aA, aC, .map (some aK)] 177)) (aT : Has R (cBlk ac [Pq aw] 112)) (aU : Reads R aE) (aV : Sl aE aF ap) (aW : Reads R aG) (aX : Sl aG aH aq) (aY : Reads R aI) (aZ : Sl aI aJ au) (a6 : Has R (cBlk aD [aF, aH, aJ, .map (some aL)] 177)) (a7 : Has R (cBlk ae [.func (.func 51) #[Pq aD] #[]] 116)) (a8 : Has R (cBlk ag [.map (some ah)] 191)) (ba : aa.length = 16) (bb : ab.length = 16) (bc : Has R (cBlk ai [Pq aj] 178)) (bf : Has R (cBlk ak [.func (.func 120) #[] #[Pq ac, Pq ae, Pq ag, Pq ai, Pq ak]] 157)) {r : (Bool × (Int -> Option Bool) × (List Int) × (List Int))} (hM : (zcq a al am ao ap aq au av aa ab).Ends r) (w : World) (H : St w w [cMap I B ah av, cBlk aj (List.flatten [[], encF (α := Int) aa, encF (α := Int) ab]) 182] R) : Ret Tryz.prog 120 #[I a, Pq ac, Pq ae, Pq ag, Pq ai, Pq ak] w fun v w' => ∃ (y0 : Bool) (y1 : Int -> Option Bool) (y2 : List Int) (y3 : List Int), (y0, y1, y2, y3) = r /\ v = B y0 /\ St w w' [cMap I B ah y1, cBlk aj (List.flatten [[], encF (α := Int) y2, encF (α := Int) y3]) 182] R /\ y2.length = 16 /\ y3.length = 16 := by
  obtain ⟨n_, hM⟩ := M.e_fix hM
  exact zdj n_ a al am ao ap aq au av aa ab aM aN aO aP aQ aR aS aT aU aV aW aX aY aZ a6 a7 a8 ba bb bc bf hM w H

def zb3 : ((List Int) × (List Int) × Nat) -> M (((List Int) × (List Int) × Nat) ⊕ ((List Int) × (List Int))) := fun (s, s2, s3) =>
  bif decide ((s3 : Int) < 16) then (
  M.grd (decide ((0 : Int) <= (s3 : Int)) && decide ((s3 : Int) < (16 : Int))) <|
  M.pure (.inl (s.set s3 (-1), s2.set s3 (-1), s3 + 1)))
  else (
  M.pure (.inr (s, s2)))
def zbJ (ab : List Sect) (aa : List Mrk) (ac : List Rch) : ((List Int) × (List Int) × Nat) -> M (((List Int) × (List Int) × Nat) ⊕ ((List Int) × (List Int))) := fun (s4, s5, s6) =>
  bif decide ((s6 : Int) < (aa.length : Int)) then (
  M.bind (zcq (s6 : Int) ab aa ac ab aa ac (fun _ => none) s4 s5) fun (r2, ae, q0, q1) =>
  M.pure (.inl (q0, q1, s6 + 1)))
  else (
  M.pure (.inr (s4, s5)))
def zcp (aa : List Sect) (ab : List Mrk) (ac : List Rch) : M ((List Int) × (List Int)) :=
  M.bind (M.iter (zb3) (List.replicate 16 0, List.replicate 16 0, 0)) fun (l, l2) =>
  M.bind (M.iter (zbJ aa ab ac) (l, l2, 0)) fun (l3, l4) =>
  M.pure (l3, l4)
theorem zc5 {R : List Chunk} {ab : Nat} {az : Cells} {aA : Value} {aB : Cells} {aq : Value} {aC : Cells} {aD : Value} {aU : Nat} (ai : List Sect) (ag : List Mrk) (aj : List Rch) (aE : Reads R az) (aF : Sl az aA ai) (aG : Reads R aB) (ao : Sl aB aq ag) (aH : Reads R aC) (aI : Sl aC aD aj) (au : Has R (cBlk ab [aA, aq, aD, .map (some aU)] 177)) {r : ((List Int) × (List Int))} (hM : (zcp ai ag aj).Ends r) (w : World) (H : St w w [] R) : Ret Tryz.prog 96 #[Pq ab] w fun v w' => ∃ (y0 : List Int) (y1 : List Int) (aJ : Nat), (y0, y1) = r /\ v = Pq aJ /\ St w w' [cBlk aJ (List.flatten [[], encF (α := Int) y0, encF (α := Int) y1]) 182] R /\ y0.length = 16 /\ y1.length = 16 := by
 refine ret_of_W Tryz.func96 rfl rfl rfl ?_
 refine W.seq ?_
 refine W.region rfl ?_
 refine t_box (v := Pq ab) (cs := [Pq ab]) H rfl rfl ?_
 intro ae bp H
 refine zA (.pointer none) rfl ?_
 refine s_nil ?_
 refine W.seq ?_
 refine W.region rfl ?_
 refine s_val (x_bld (ps := []) (zs := (List.flatten [[], encF (α := Int) (List.replicate 16 0), encF (α := Int) (List.replicate 16 0)])) (L' := (List.flatten [[], encF (α := Int) (List.replicate 16 0), encF (α := Int) (List.replicate 16 0)])) rfl Tryz.underlying182 Al182 rfl (Bd182 Tryz.underlying182) (.nil)) ?_
 refine t_box (v := .agg (List.flatten [[], encF (α := Int) (List.replicate 16 0), encF (α := Int) (List.replicate 16 0)]).toArray) (cs := (List.flatten [[], encF (α := Int) (List.replicate 16 0), encF (α := Int) (List.replicate 16 0)])) H rfl rfl ?_
 intro aa bq H
 refine t_alloc (cs := [.pointer none]) H Al178 rfl ?_
 intro ac br H
 refine t_sw 0 0 [Pq aa] (Pq aa) H rfl rfl Sz178 rfl rfl rfl rfl ?_
 intro bt H
 refine s_nil ?_
 refine W.seq ?_
 refine W.seq ?_
 refine W.region rfl ?_
 refine zM (I 0) rfl ?_
 refine s_nil ?_
 refine W.block ?_
 obtain ⟨aV, av, aW⟩ := M.e_bind hM
 obtain ⟨aX, av⟩ := M.e_iter av
 refine W.loop (fun m σ W => ∃ (s : List Int) (s2 : List Int) (s3 : Nat) (ρ : Env), σ = upds ρ [(1, Pq ae), (3, Pq ac), (11, I (s3 : Int))] /\ M.iterN (zb3) m (s, s2, s3) = some aV /\ St w W [cBlk ac [Pq aa] 178, cBlk aa (List.flatten [[], encF (α := Int) s, encF (α := Int) s2]) 182, cBlk ae [Pq ab] 112] R /\ s.length = 16 /\ s2.length = 16) ?_ ?_
 ·exact ⟨_, List.replicate 16 0, List.replicate 16 0, 0, _, upds_of _ _ ⟨rfl, rfl, rfl, trivial⟩, av, H, List.length_replicate, List.length_replicate⟩
 rintro bu σ bv ⟨s, s2, s3, ρ, rfl, aK, H, aw, ax⟩
 obtain ⟨aY, aZ, bw, hM, aL⟩ := M.e_iterN aK
 simp only [zb3] at hM
 clear aK
 refine W.seq ?_
 refine W.region rfl ?_
 refine zC (s3 : Int) 16 (decide ((s3 : Int) < 16)) rfl rfl rfl ?_
 refine s_nil ?_
 refine W.seq ?_
 refine W.cond (decide ((s3 : Int) < 16)) rfl (fun ak => ?_) (fun ak => ?_)
 ·replace hM := M.e_t hM ak
  simp only [qy1, qy2, qy3, qy4, qy5, qy6, ne_eq, qy7] at ak
  refine W.skip ?_
  refine W.seq ?_
  refine W.block ?_
  refine W.seq ?_
  refine W.region rfl ?_
  refine zM (I (s3 : Int)) rfl ?_
  refine zA (I (s3 : Int)) rfl ?_
  refine s_nil ?_
  refine W.draw (fun W => St w W [cBlk ac [Pq aa] 178, cBlk ae [Pq ab] 112] R) [(0, true), (1, true), (2, true), (3, true), (4, true), (5, true), (6, true), (8, true), (9, true), (7, false), (10, true), (11, false)] mixed (by decide +kernel) rfl ?_
  intro bx aM
  replace H := H.ext aM
  clear aM
  refine ⟨(H.pk [0, 2]), ?_⟩
  refine d_q rfl (fun w' H => x_ld (p := Pq ac) (v := Pq aa) rfl (ldb_sc Sc178 (H.bl 0) rfl)) ?_
  refine d_q rfl (fun w' H => x_mv (v := I (s3 : Int)) rfl) ?_
  refine d_q rfl (fun w' H => x_ld (p := Pq ac) (v := Pq aa) rfl (ldb_sc Sc178 (H.bl 0) rfl)) ?_
  refine d_q rfl (fun w' H => x_mv (v := I (s3 : Int)) rfl) ?_
  refine d_q rfl (fun w' H => x_nc (a := ⟨aa, 0, none⟩) rfl) ?_
  refine d_q rfl (fun w' H => x_fa (a := Pq aa) (v := Pq aa) rfl (fa_blk (o := 0) Fd182_0 Sz180)) ?_
  obtain ⟨a6, hM⟩ := M.e_grd hM
  simp only [Bool.and_eq_true, decide_eq_true_eq] at a6
  refine d_q rfl (fun w' H => x_ix (a := Pq aa) (b := I (s3 : Int)) (v := .pointer (some ⟨aa, 0 + Int.toNat (s3 : Int) * 1, none⟩)) rfl rfl (run_indexS Tryz.underlying180 Sz3 (by omega) (by omega))) ?_
  refine d_q rfl (fun w' H => x_nc (a := ⟨aa, 0, none⟩) rfl) ?_
  refine d_q rfl (fun w' H => x_fa (a := Pq aa) (v := Oq aa 16) rfl (fa_blk (o := 0) Fd182_1 Sz180)) ?_
  refine d_l rfl ?_
  refine t_stS (α := Int) (kc := 1) (b := aa) (k := 1) (off := 0) (i := s3) (f := 0) (sz := 1) (segs := [[], encF (α := Int) s, encF (α := Int) s2]) (segs' := [[], encF (α := Int) (s.set s3 (-1)), encF (α := Int) s2]) (l := s) (l' := s.set s3 (-1)) (vs := [I (-1)]) (L' := [cBlk ac [Pq aa] 178, cBlk aa (List.flatten [[], encF (α := Int) (s.set s3 (-1)), encF (α := Int) s2]) 182, cBlk ae [Pq ab] 112]) H rfl rfl rfl Sz3 rfl rfl rfl rfl (sgo1 rfl) rfl rfl (by have a7 := aw; omega) (by omega) 0 (-1) rfl rfl rfl rfl ?_
  intro bz H
  have aN : (s.set s3 (-1)).length = 16 := List.length_set.trans aw
  refine s_nil ⟨(H.pk [0, 2]), ?_⟩
  refine d_q rfl (fun w' H => x_ix (a := Oq aa 16) (b := I (s3 : Int)) (v := .pointer (some ⟨aa, 16 + Int.toNat (s3 : Int) * 1, none⟩)) rfl rfl (run_indexS Tryz.underlying180 Sz3 (by omega) (by omega))) ?_
  refine d_l rfl ?_
  refine t_stS (α := Int) (kc := 1) (b := aa) (k := 2) (off := 16) (i := s3) (f := 0) (sz := 1) (segs := [[], encF (α := Int) (s.set s3 (-1)), encF (α := Int) s2]) (segs' := [[], encF (α := Int) (s.set s3 (-1)), encF (α := Int) (s2.set s3 (-1))]) (l := s2) (l' := s2.set s3 (-1)) (vs := [I (-1)]) (L' := [cBlk ac [Pq aa] 178, cBlk aa (List.flatten [[], encF (α := Int) (s.set s3 (-1)), encF (α := Int) (s2.set s3 (-1))]) 182, cBlk ae [Pq ab] 112]) H rfl rfl rfl Sz3 rfl rfl rfl rfl (sgo2 aN rfl) rfl rfl (by have a7 := ax; omega) (by omega) 0 (-1) rfl rfl rfl rfl ?_
  intro bA H
  have a8 : (s2.set s3 (-1)).length = 16 := List.length_set.trans ax
  refine s_nil ⟨(H.pk [0, 2]), ?_⟩
  refine d_nil ?_
  refine W.region rfl ?_
  refine zR (s3 : Int) 1 ((s3 : Int) + 1) rfl rfl rfl (by omega) ?_
  refine zM (I ((s3 : Int) + 1)) rfl ?_
  refine s_nil ?_
  exact ⟨aY, aZ, s.set s3 (-1), s2.set s3 (-1), s3 + 1, _, upds_of _ _ ⟨rfl, rfl, rfl, trivial⟩, M.e_inl hM aL, H, aN, a8⟩
 replace hM := M.e_f hM ak
 simp only [qy1, qy2, qy3, qy4, qy5, qy6, ne_eq, qy7] at ak
 refine W.exit ?_
 have ba := M.e_inr hM aL
 subst ba
 replace hM := aW
 try dsimp only at hM
 refine W.seq ?_
 refine W.region rfl ?_
 refine s_val (x_ld (p := Pq ae) (v := Pq ab) rfl (ldb_sc Sc112 (H.bl 2) rfl)) ?_
 refine s_val (x_mf (fs := [Pq ab]) (cs := []) rfl rfl) ?_
 refine t_alloc (cs := [.nilFunc]) H Al116 rfl ?_
 intro ah bB H
 refine t_sw 0 0 [.func (.func 51) #[Pq ab] #[]] (.func (.func 51) #[Pq ab] #[]) H rfl rfl Sz116 rfl rfl rfl rfl ?_
 intro bC H
 refine s_nil ?_
 refine W.seq ?_
 refine W.seq ?_
 refine W.region rfl ?_
 refine s_val (x_ld (p := Pq ae) (v := Pq ab) rfl (ldb_sc Sc112 (H.bl 3) rfl)) ?_
 refine s_val (x_nc (a := ⟨ab, 0, none⟩) rfl) ?_
 refine s_val (x_fa (a := Pq ab) (v := Pq ab) rfl (fa_blk (o := 0) Fd177_0 Sz27)) ?_
 refine s_val (x_fa (a := Pq ab) (v := Oq ab 1) rfl (fa_blk (o := 0) Fd27_1 Sz24)) ?_
 refine s_val (x_ld (p := Oq ab 1) (v := aq) rfl (ldb_sc Sc24 (au.blk H) rfl)) ?_
 have bD := (ao).len_le
 refine s_val (x_lenS T24.und rfl ao) ?_
 refine zM (I 0) rfl ?_
 refine s_nil ?_
 refine W.block ?_
 obtain ⟨bb, ay, bc⟩ := M.e_bind hM
 obtain ⟨aX, ay⟩ := M.e_iter ay
 refine W.loop (fun m σ W => ∃ (s4 : List Int) (s5 : List Int) (s6 : Nat) (ρ : Env), σ = upds ρ [(1, Pq ae), (3, Pq ac), (5, Pq ah), (32, I (ag.length : Int)), (33, I (s6 : Int))] /\ M.iterN (zbJ ai ag aj) m (s4, s5, s6) = some bb /\ St w W [cBlk ah [.func (.func 51) #[Pq ab] #[]] 116, cBlk ac [Pq aa] 178, cBlk aa (List.flatten [[], encF (α := Int) s4, encF (α := Int) s5]) 182, cBlk ae [Pq ab] 112] R /\ s4.length = 16 /\ s5.length = 16) ?_ ?_
 ·exact ⟨_, s, s2, 0, _, upds_of _ _ ⟨rfl, rfl, rfl, rfl, rfl, trivial⟩, ay, H, aw, ax⟩
 rintro bE σ bF ⟨s4, s5, s6, ρ, rfl, aO, H, aP, aQ⟩
 obtain ⟨bf, bg, bG, hM, aR⟩ := M.e_iterN aO
 simp only [zbJ] at hM
 clear aO
 refine W.seq ?_
 refine W.region rfl ?_
 refine zC (s6 : Int) (ag.length : Int) (decide ((s6 : Int) < (ag.length : Int))) rfl rfl rfl ?_
 refine s_nil ?_
 refine W.seq ?_
 refine W.cond (decide ((s6 : Int) < (ag.length : Int))) rfl (fun al => ?_) (fun al => ?_)
 ·replace hM := M.e_t hM al
  simp only [qy1, qy2, qy3, qy4, qy5, qy6, ne_eq, qy7] at al
  refine W.skip ?_
  refine W.seq ?_
  refine W.block ?_
  refine W.seq ?_
  refine W.region rfl ?_
  refine zM (I (s6 : Int)) rfl ?_
  refine zA (I (s6 : Int)) rfl ?_
  refine s_nil ?_
  refine W.seq ?_
  refine W.region rfl ?_
  refine t_mkmap (κ := Int) (ν := Bool) I B H ?_
  intro aS bH H
  refine t_alloc (cs := [.map none]) H Al191 rfl ?_
  intro ap bI H
  refine t_sw 0 0 [.map (some aS)] (.map (some aS)) H rfl rfl Sz191 rfl rfl rfl rfl ?_
  intro bJ H
  refine s_nil ?_
  refine W.seq ?_
  refine W.region rfl ?_
  refine t_alloc (cs := [.nilFunc]) H Al157 rfl ?_
  intro am bK H
  refine s_nil ?_
  refine W.seq ?_
  refine W.region rfl ?_
  refine s_val (x_mf (fs := []) (cs := [Pq ae, Pq ah, Pq ap, Pq ac, Pq am]) rfl rfl) ?_
  refine t_sw 0 0 [.func (.func 120) #[] #[Pq ae, Pq ah, Pq ap, Pq ac, Pq am]] (.func (.func 120) #[] #[Pq ae, Pq ah, Pq ap, Pq ac, Pq am]) H rfl rfl Sz157 rfl rfl rfl rfl ?_
  intro bL H
  refine s_nil ?_
  refine W.region rfl ?_
  refine s_val (x_ld (p := Pq am) (v := .func (.func 120) #[] #[Pq ae, Pq ah, Pq ap, Pq ac, Pq am]) rfl (ldb_sc Sc157 (H.bl 0) rfl)) ?_
  refine zM (I (s6 : Int)) rfl ?_
  obtain ⟨bM, bh, hM⟩ := M.e_bind hM
  refine s_callv (f := 120) rfl cf120 [I (s6 : Int)] rfl (zcM (s6 : Int) ai ag aj ai ag aj (fun _ => none) s4 s5 (aE.app _) aF (aG.app _) ao (aH.app _) aI (au.app _) (Has.here (k := 4) rfl) (aE.app _) aF (aG.app _) ao (aH.app _) aI (au.app _) (Has.here (k := 2) rfl) (Has.here (k := 1) rfl) aP aQ (Has.here (k := 3) rfl) (Has.here (k := 0) rfl) bh _ ((H.pk [2, 5, 0, 1, 3, 4, 6]).gt 5)) ?_
  rintro vq bN ⟨r2, bO, q0, q1, bi, hvq, aT, bj, bm⟩
  subst bi
  subst vq
  try dsimp only at hM
  replace H := H.pk [2, 5, 0, 1, 3, 4, 6] |>.bk aT
  clear aT
  refine s_nil ?_
  replace H := H.pk [1, 4, 5, 6]
  refine W.region rfl ?_
  refine zR (s6 : Int) 1 ((s6 : Int) + 1) rfl rfl rfl (by omega) ?_
  refine zM (I ((s6 : Int) + 1)) rfl ?_
  refine s_nil ?_
  exact ⟨bf, bg, q0, q1, s6 + 1, _, upds_of _ _ ⟨rfl, rfl, rfl, rfl, rfl, trivial⟩, M.e_inl hM aR, (H.pk [1, 2, 0, 3]), bj, bm⟩
 replace hM := M.e_f hM al
 simp only [qy1, qy2, qy3, qy4, qy5, qy6, ne_eq, qy7] at al
 refine W.exit ?_
 have bn := M.e_inr hM aR
 subst bn
 replace hM := bc
 try dsimp only at hM
 replace H := H.pk [1, 2]
 refine W.seq ?_
 refine W.region rfl ?_
 refine s_val (x_ld (p := Pq ac) (v := Pq aa) rfl (ldb_sc Sc178 (H.bl 0) rfl)) ?_
 refine zA (Pq aa) rfl ?_
 refine s_nil ?_
 refine W.ret ?_
 have bo := M.e_pure hM
 exact ⟨_, resE_tmp rfl, ⟨s4, s5, aa, bo, rfl, (H.pk [1]), aP, aQ⟩⟩

def zb6 (r0 : List Int) : (Int × (List Int)) -> M ((Int × (List Int)) ⊕ ((List Int) × (List Int))) := fun (s, l) =>
  bif s != (-1) then (
  M.grd (decide ((l.length + ([(s : Int)]).length) * 8 <= 140737488355328)) <|
  M.grd (decide ((0 : Int) <= s) && decide (s < (16 : Int))) <|
  M.pure (.inl (r0.getD (Int.toNat s) 0, l ++ ([(s : Int)]))))
  else (
  M.pure (.inr (l, l)))
def zb8 (aa : List Mrk) (r0 : List Int) (r1 : List Int) : (Nat × (List (List Int))) -> M ((Nat × (List (List Int))) ⊕ ((List (List Int)) × (List (List Int)))) := fun (s2, l4) =>
  bif decide ((s2 : Int) < (aa.length : Int)) then (
  M.grd (decide ((0 : Int) <= (s2 : Int)) && decide ((s2 : Int) < (16 : Int))) <|
  bif (r1.getD s2 0) != (-1) then (
  M.pure (.inl (s2 + 1, l4)))
  else (
  M.bind (M.iter (zb6 r0) ((s2 : Int), [])) fun (l2, l3) =>
  M.grd (decide ((l4.length + ([l3]).length) * 24 <= 140737488355328)) <|
  M.pure (.inl (s2 + 1, l4 ++ ([l3])))))
  else (
  M.pure (.inr (l4, l4)))
def zcC (ab : List Sect) (aa : List Mrk) (ac : List Rch) : M (List (List Int)) :=
  M.bind (zcp ab aa ac) fun (r0, r1) =>
  M.bind (M.iter (zb8 aa r0 r1) (0, [])) fun (l5, l6) =>
  M.pure l6
theorem zcT {R : List Chunk} {ab : Nat} {aA : Cells} {aB : Value} {aC : Cells} {aq : Value} {aD : Cells} {aE : Value} {aS : Nat} (au : List Sect) (ae : List Mrk) (av : List Rch) (aT : Reads R aA) (aU : Sl aA aB au) (aV : Reads R aC) (aw : Sl aC aq ae) (aW : Reads R aD) (aX : Sl aD aE av) (aF : Has R (cBlk ab [aB, aq, aE, .map (some aS)] 177)) {r : (List (List Int))} (hM : (zcC au ae av).Ends r) (w : World) (H : St w w [] R) : Ret Tryz.prog 50 #[Pq ab] w fun v w' => ∃ (y0 : List (List Int)) (u0 : Value) (rr1 : List (Raw 0)) (aG : Base), y0 = r /\ v = u0 /\ St w w' [cOwn (α := Raw 0) 28 u0 rr1, cRo aG] R /\ RepR (α := List Int) aG.cells rr1 y0 := by
 refine ret_of_W Tryz.func50 rfl rfl rfl ?_
 refine W.seq ?_
 refine W.region rfl ?_
 refine zA (.slice none 0 0) rfl ?_
 refine s_nil ?_
 refine W.seq ?_
 refine W.region rfl ?_
 refine zM (Pq ab) rfl ?_
 obtain ⟨bE, aY, hM⟩ := M.e_bind hM
 refine s_call cf96 [Pq ab] rfl (zc5 au ae av (aT.app _) aU (aV.app _) aw (aW.app _) aX (aF.app _) aY _ (H.gt 0)) ?_
 rintro vq bF ⟨r0, r1, aa, aZ, hvq, aH, aI, a6⟩
 subst aZ
 subst vq
 try dsimp only at hM
 replace H := H.bk aH
 clear aH
 refine zA (Pq aa) rfl ?_
 refine s_nil ?_
 refine W.seq ?_
 refine W.region rfl ?_
 refine zA (.slice none 0 0) rfl ?_
 refine s_nil ?_
 refine W.seq ?_
 refine W.seq ?_
 refine W.region rfl ?_
 refine zM (Pq ab) rfl ?_
 refine s_val (x_nc (a := ⟨ab, 0, none⟩) rfl) ?_
 refine s_val (x_fa (a := Pq ab) (v := Pq ab) rfl (fa_blk (o := 0) Fd177_0 Sz27)) ?_
 refine s_val (x_fa (a := Pq ab) (v := Oq ab 1) rfl (fa_blk (o := 0) Fd27_1 Sz24)) ?_
 refine s_val (x_ld (p := Oq ab 1) (v := aq) rfl (ldb_sc Sc24 (aF.blk H) rfl)) ?_
 have bG := (aw).len_le
 refine s_val (x_lenS T24.und rfl aw) ?_
 refine zM (I 0) rfl ?_
 refine s_nil ?_
 refine W.block ?_
 obtain ⟨aJ, H⟩ := H.emptyE
 replace H := H.nilOwn (α := Raw 0) 28
 have a7 : RepR (α := List Int) (n := 0) aJ.cells [] [] := .nil
 obtain ⟨a8, ax, ba⟩ := M.e_bind hM
 obtain ⟨bb, ax⟩ := M.e_iter ax
 refine W.loop (fun m σ W => ∃ (s2 : Nat) (l4 : List (List Int)) (ac : Value) (ag : List (Raw 0)) (B_l4 : Base) (ρ : Env), σ = upds ρ [(3, Pq aa), (4, ac), (15, I (ae.length : Int)), (16, I (s2 : Int))] /\ M.iterN (zb8 ae r0 r1) m (s2, l4) = some a8 /\ St w W [cOwn (α := Raw 0) 28 ac ag, cRo B_l4, cBlk aa (List.flatten [[], encF (α := Int) r0, encF (α := Int) r1]) 182] R /\ RepR (α := List Int) B_l4.cells ag l4) ?_ ?_
 ·exact ⟨_, 0, [], (.slice none 0 0), [], aJ, _, upds_of _ _ ⟨rfl, rfl, rfl, rfl, trivial⟩, ax, H, a7⟩
 rintro bH σ bI ⟨s2, l4, ac, ag, B_l4, ρ, rfl, aK, H, aj⟩
 obtain ⟨aL, aM, bJ, hM, ay⟩ := M.e_iterN aK
 simp only [zb8] at hM
 clear aK
 refine W.seq ?_
 refine W.region rfl ?_
 refine zC (s2 : Int) (ae.length : Int) (decide ((s2 : Int) < (ae.length : Int))) rfl rfl rfl ?_
 refine s_nil ?_
 refine W.seq ?_
 refine W.cond (decide ((s2 : Int) < (ae.length : Int))) rfl (fun ak => ?_) (fun ak => ?_)
 ·replace hM := M.e_t hM ak
  simp only [qy1, qy2, qy3, qy4, qy5, qy6, ne_eq, qy7] at ak
  refine W.skip ?_
  refine W.seq ?_
  refine W.block ?_
  refine W.seq ?_
  refine W.region rfl ?_
  refine zM (I (s2 : Int)) rfl ?_
  refine zA (I (s2 : Int)) rfl ?_
  refine s_nil ?_
  refine W.seq ?_
  refine W.seq ?_
  refine W.region rfl ?_
  refine zM (Pq aa) rfl ?_
  refine zM (I (s2 : Int)) rfl ?_
  refine s_val (x_nc (a := ⟨aa, 0, none⟩) rfl) ?_
  refine s_val (x_fa (a := Pq aa) (v := Oq aa 16) rfl (fa_blk (o := 0) Fd182_1 Sz180)) ?_
  obtain ⟨bc, hM⟩ := M.e_grd hM
  simp only [Bool.and_eq_true, decide_eq_true_eq] at bc
  refine s_val (x_ix (a := Oq aa 16) (b := I (s2 : Int)) (v := .pointer (some ⟨aa, 16 + Int.toNat (s2 : Int) * 1, none⟩)) rfl rfl (run_indexS Tryz.underlying180 Sz3 (by omega) (by omega))) ?_
  refine s_val (x_ld (p := .pointer (some ⟨aa, 16 + Int.toNat (s2 : Int) * 1, none⟩)) (v := I (r1.getD s2 0)) rfl (ldS (α := Int) (k := 2) (off := 16) (i := s2) (f := 0) (sz := 1) 0 Sc3 (H.bl 2) rfl (sgo2 aI rfl) rfl (by decide) (by have bf := a6; omega) (by omega) rfl)) ?_
  refine zC (r1.getD s2 0) (-1) ((r1.getD s2 0) != (-1)) rfl rfl rfl ?_
  refine s_nil ?_
  refine W.cond ((r1.getD s2 0) != (-1)) rfl (fun al => ?_) (fun al => ?_)
  ·replace hM := M.e_t hM al
   simp only [qy1, qy2, qy3, qy4, qy5, qy6, ne_eq, qy7] at al
   refine W.exit ?_
   refine W.region rfl ?_
   refine zR (s2 : Int) 1 ((s2 : Int) + 1) rfl rfl rfl (by omega) ?_
   refine zM (I ((s2 : Int) + 1)) rfl ?_
   refine s_nil ?_
   exact ⟨aL, aM, s2 + 1, l4, ac, ag, B_l4, _, upds_of _ _ ⟨rfl, rfl, rfl, rfl, trivial⟩, M.e_inl hM ay, H, aj⟩
  replace hM := M.e_f hM al
  simp only [qy1, qy2, qy3, qy4, qy5, qy6, ne_eq, qy7] at al
  refine W.skip ?_
  refine W.seq ?_
  refine W.region rfl ?_
  refine zA (.slice none 0 0) rfl ?_
  refine s_nil ?_
  refine W.seq ?_
  refine W.seq ?_
  refine W.region rfl ?_
  refine zM (I (s2 : Int)) rfl ?_
  refine zA (I (s2 : Int)) rfl ?_
  refine s_nil ?_
  refine W.block ?_
  replace H := H.nilOwn (α := Int) 3
  obtain ⟨bg, az, bh⟩ := M.e_bind hM
  obtain ⟨bb, az⟩ := M.e_iter az
  refine W.loop (fun m σ W => ∃ (s : Int) (l : List Int) (ah : Value) (ρ : Env), σ = upds ρ [(3, Pq aa), (4, ac), (6, ah), (7, I s), (15, I (ae.length : Int)), (16, I (s2 : Int))] /\ M.iterN (zb6 r0) m (s, l) = some bg /\ St w W [cOwn (α := Int) 3 ah l, cOwn (α := Raw 0) 28 ac ag, cRo B_l4, cBlk aa (List.flatten [[], encF (α := Int) r0, encF (α := Int) r1]) 182] R) ?_ ?_
  ·exact ⟨_, (s2 : Int), [], (.slice none 0 0), _, upds_of _ _ ⟨rfl, rfl, rfl, rfl, rfl, rfl, trivial⟩, az, H⟩
  rintro bK σ bL ⟨s, l, ah, ρ, rfl, aN, H⟩
  obtain ⟨bi, bj, bM, hM, aO⟩ := M.e_iterN aN
  simp only [zb6] at hM
  clear aN
  refine W.seq ?_
  refine W.seq ?_
  refine W.region rfl ?_
  refine zM (I s) rfl ?_
  refine zC s (-1) (s != (-1)) rfl rfl rfl ?_
  refine s_nil ?_
  refine W.cond (s != (-1)) rfl (fun am => ?_) (fun am => ?_)
  ·replace hM := M.e_t hM am
   simp only [qy1, qy2, qy3, qy4, qy5, qy6, ne_eq, qy7] at am
   refine W.skip ?_
   refine W.seq ?_
   refine W.block ?_
   refine W.region rfl ?_
   refine zM ah rfl ?_
   refine zM (I s) rfl ?_
   refine t_bs (α := Int) T28 [I s] [(s : Int)] H rfl (.cons rfl (Flat.rep_enc _ (s : Int)) <| .nil) rfl rfl rfl ?_
   intro bm bN H
   obtain ⟨bn, hM⟩ := M.e_grd hM
   simp only [Bool.and_eq_true, decide_eq_true_eq] at bn
   refine t_app (α := Int) (k := 1) (l := l) (l2 := [(s : Int)]) (l' := l ++ ([(s : Int)])) (vy := bm) T28 rfl H rfl rfl rfl (H.os 0) (H.ol 0) (rfl) (by first | omega | (simp only [List.length_nil] at *; omega)) ?_
   intro aP bO H
   replace H := H.nf
   refine zA aP rfl ?_
   refine s_nil ?_
   refine W.region rfl ?_
   refine zM (Pq aa) rfl ?_
   refine zM (I s) rfl ?_
   refine s_val (x_nc (a := ⟨aa, 0, none⟩) rfl) ?_
   refine s_val (x_fa (a := Pq aa) (v := Pq aa) rfl (fa_blk (o := 0) Fd182_0 Sz180)) ?_
   obtain ⟨bo, hM⟩ := M.e_grd hM
   simp only [Bool.and_eq_true, decide_eq_true_eq] at bo
   refine s_val (x_ix (a := Pq aa) (b := I s) (v := .pointer (some ⟨aa, 0 + Int.toNat s * 1, none⟩)) rfl rfl (run_indexS Tryz.underlying180 Sz3 (by omega) (by omega))) ?_
   refine s_val (x_ld (p := .pointer (some ⟨aa, 0 + Int.toNat s * 1, none⟩)) (v := I (r0.getD (Int.toNat s) 0)) rfl (ldS (α := Int) (k := 1) (off := 0) (i := (Int.toNat s)) (f := 0) (sz := 1) 0 Sc3 (H.bl 4) rfl (sgo1 rfl) rfl (by decide) (by have bf := aI; omega) (by omega) rfl)) ?_
   refine zA (I (r0.getD (Int.toNat s) 0)) rfl ?_
   refine s_nil ?_
   exact ⟨bi, bj, r0.getD (Int.toNat s) 0, l ++ ([(s : Int)]), aP, _, upds_of _ _ ⟨rfl, rfl, rfl, rfl, rfl, rfl, trivial⟩, M.e_inl hM aO, (H.pk [1, 2, 3, 4])⟩
  replace hM := M.e_f hM am
  simp only [qy1, qy2, qy3, qy4, qy5, qy6, ne_eq, qy7] at am
  refine W.exit ?_
  have bp := M.e_inr hM aO
  subst bp
  replace hM := bh
  try dsimp only at hM
  refine W.region rfl ?_
  refine zM ac rfl ?_
  refine zM ah rfl ?_
  obtain ⟨bP, H⟩ := H.emptyE
  obtain ⟨bQ, H, bq⟩ := H.freezeE (k := 1) rfl
  replace H := H.nf
  have ao := bq
  obtain ⟨br, H, bR, bt⟩ := H.joinE (i := 0) (j := 1) rfl rfl
  replace ao := ao.mono bt
  obtain ⟨ai, aQ⟩ : ∃ r : Raw 0, r.cs = [ah] := ⟨Raw.of [ah] rfl (by simp only [List.all_cons, List.all_nil, Bool.true_and, Bool.and_true, Sl.oc ao]; try rfl), rfl⟩
  have bu : RepR (α := List Int) br.cells [ai] [l] := .cons (by rw [aQ]; exact ⟨_, rfl, ao⟩) <| .nil
  refine t_bs (α := Raw 0) T38 [ah] [ai] H rfl (.cons (by rw [show (Flat.enc ai : List Value) = ai.cs from rfl, aQ]; exact Sl.cells ao) (Flat.rep_enc _ _) <| .nil) rfl rfl rfl ?_
  intro bv bS H
  replace H := H.nf
  obtain ⟨bw, hM⟩ := M.e_grd hM
  simp only [Bool.and_eq_true, decide_eq_true_eq] at bw
  have ap := bu
  obtain ⟨bx, H, bz, bA⟩ := H.joinE (i := 5) (j := 1) rfl rfl
  replace aj := aj.mono bz
  replace ap := ap.mono bA
  have bB := aj.app ap
  refine t_app (α := Raw 0) (k := 5) (l := ag) (l2 := [ai]) (l' := ag ++ ([ai])) (vy := bv) T38 rfl H rfl rfl rfl (H.os 1) (H.ol 1) (rfl) (by have a_ := aj.len; have b_ := ap.len; (try simp only [List.length_nil] at *); first | omega | (rw [a_, b_]; omega)) ?_
  intro aR bT H
  replace H := H.nf
  refine zA aR rfl ?_
  refine s_nil ?_
  replace H := H.pk [0, 5, 6, 7]
  refine W.region rfl ?_
  refine zR (s2 : Int) 1 ((s2 : Int) + 1) rfl rfl rfl (by omega) ?_
  refine zM (I ((s2 : Int) + 1)) rfl ?_
  refine s_nil ?_
  exact ⟨aL, aM, s2 + 1, l4 ++ ([l]), aR, ag ++ ([ai]), bx, _, upds_of _ _ ⟨rfl, rfl, rfl, rfl, trivial⟩, M.e_inl hM ay, (H.pk [1, 0, 3]), bB⟩
 replace hM := M.e_f hM ak
 simp only [qy1, qy2, qy3, qy4, qy5, qy6, ne_eq, qy7] at ak
 refine W.exit ?_
 have bC := M.e_inr hM ay
 subst bC
 replace hM := ba
 try dsimp only at hM
 refine W.seq ?_
 refine W.region rfl ?_
 refine zM ac rfl ?_
 refine zA ac rfl ?_
 refine s_nil ?_
 refine W.ret ?_
 have bD := M.e_pure hM
 exact ⟨_, resE_tmp rfl, ⟨l4, ac, ag, B_l4, bD, rfl, (H.pk [0, 1]), aj⟩⟩

def zcb (s_Sections : List Sect) (s_Marks : List Mrk) (s_Reaches : List Rch) (r2 : List (List Int)) (l6 : List Int) (s3 : Nat) : Nat -> M (Nat ⊕ (Unit ⊕ Unit)) := fun s2 =>
  bif decide ((s2 : Int) < (r2.length : Int)) then (
  M.grd (decide ((s2 : Int) < (r2.length : Int))) <|
  M.grd ((!((s3 : Int) != (s2 : Int)) || (decide ((s3 : Int) < (l6.length : Int))))) <|
  M.grd ((!(((s3 : Int) != (s2 : Int)) && (decide ((l6.getD s3 0) < ((r2.getD s3 ([])).length : Int)))) || (decide ((s2 : Int) < (l6.length : Int))))) <|
  M.grd ((!((((s3 : Int) != (s2 : Int)) && (decide ((l6.getD s3 0) < ((r2.getD s3 ([])).length : Int)))) && (decide ((l6.getD s2 0) < ((r2.getD s2 ([])).length : Int)))) || (decide ((s3 : Int) < (l6.length : Int))))) <|
  M.grd ((!((((s3 : Int) != (s2 : Int)) && (decide ((l6.getD s3 0) < ((r2.getD s3 ([])).length : Int)))) && (decide ((l6.getD s2 0) < ((r2.getD s2 ([])).length : Int)))) || (decide ((0 : Int) <= (l6.getD s3 0)) && decide ((l6.getD s3 0) < ((r2.getD s3 ([])).length : Int))))) <|
  M.grd ((!((((s3 : Int) != (s2 : Int)) && (decide ((l6.getD s3 0) < ((r2.getD s3 ([])).length : Int)))) && (decide ((l6.getD s2 0) < ((r2.getD s2 ([])).length : Int)))) || (decide ((s2 : Int) < (l6.length : Int))))) <|
  M.grd ((!((((s3 : Int) != (s2 : Int)) && (decide ((l6.getD s3 0) < ((r2.getD s3 ([])).length : Int)))) && (decide ((l6.getD s2 0) < ((r2.getD s2 ([])).length : Int)))) || (decide ((0 : Int) <= (l6.getD s2 0)) && decide ((l6.getD s2 0) < ((r2.getD s2 ([])).length : Int))))) <|
  M.bind (M.opt ((((s3 : Int) != (s2 : Int)) && (decide ((l6.getD s3 0) < ((r2.getD s3 ([])).length : Int)))) && (decide ((l6.getD s2 0) < ((r2.getD s2 ([])).length : Int)))) (zai s_Sections s_Marks s_Reaches ((r2.getD s3 ([])).getD (Int.toNat (l6.getD s3 0)) 0) ((r2.getD s2 ([])).getD (Int.toNat (l6.getD s2 0)) 0)) false) fun r3 =>
  bif (((((s3 : Int) != (s2 : Int)) && (decide ((l6.getD s3 0) < ((r2.getD s3 ([])).length : Int)))) && (decide ((l6.getD s2 0) < ((r2.getD s2 ([])).length : Int)))) && r3) then (
  M.grd (decide ((s3 : Int) < (l6.length : Int))) <|
  M.grd (decide ((-9223372036854775808 : Int) <= ((l6.getD s3 0) + 1)) && decide (((l6.getD s3 0) + 1) <= (9223372036854775807 : Int))) <|
  M.pure (.inr (.inl ())))
  else (
  M.pure (.inl (s2 + 1))))
  else (
  M.pure (.inr (.inr ())))
def zbM (s_Sections : List Sect) (s_Marks : List Mrk) (s_Reaches : List Rch) (r2 : List (List Int)) (l6 : List Int) : Nat -> M (Nat ⊕ (((List Int) × (List Int)) ⊕ Unit)) := fun s3 =>
  bif decide ((s3 : Int) < (r2.length : Int)) then (
  M.grd (decide ((s3 : Int) < (r2.length : Int))) <|
  M.bind (M.iter (zcb s_Sections s_Marks s_Reaches r2 l6 s3) 0) fun x_ => match x_ with
  | (.inl (_ : Unit)) => (
  M.pure (.inr (.inl (l6.set s3 ((l6.getD s3 0) + 1 : Int), l6.set s3 ((l6.getD s3 0) + 1 : Int)))))
  | (.inr (_ : Unit)) => (
  M.pure (.inl (s3 + 1))))
  else (
  M.pure (.inr (.inr ())))
def zbP (r2 : List (List Int)) (l6 : List Int) : (Nat × (List Int)) -> M ((Nat × (List Int)) ⊕ ((List Int) × (List Int))) := fun (s4, l3) =>
  bif decide ((s4 : Int) < (r2.length : Int)) then (
  M.grd (decide ((s4 : Int) < (r2.length : Int))) <|
  M.grd (decide ((s4 : Int) < (l6.length : Int))) <|
  bif decide ((l6.getD s4 0) < ((r2.getD s4 ([])).length : Int)) then (
  M.grd (decide ((0 : Int) <= (l6.getD s4 0)) && decide ((l6.getD s4 0) < ((r2.getD s4 ([])).length : Int))) <|
  M.grd (decide ((l3.length + ([((r2.getD s4 ([])).getD (Int.toNat (l6.getD s4 0)) 0 : Int)]).length) * 8 <= 140737488355328)) <|
  M.pure (.inl (s4 + 1, l3 ++ ([((r2.getD s4 ([])).getD (Int.toNat (l6.getD s4 0)) 0 : Int)]))))
  else (
  M.pure (.inl (s4 + 1, l3))))
  else (
  M.pure (.inr (l3, l3)))
def zb5 (s_Sections : List Sect) (s_Marks : List Mrk) (s_Reaches : List Rch) (r2 : List (List Int)) : (List Int) -> M ((List Int) ⊕ ((List Int) × (List Int))) := fun l6 =>
  M.bind (M.iter (zbM s_Sections s_Marks s_Reaches r2 l6) 0) fun x_ => match x_ with
  | (.inl (l, l2)) => (
  M.pure (.inl l2))
  | (.inr (_ : Unit)) => (
  M.bind (M.iter (zbP r2 l6) (0, [])) fun (l4, l5) =>
  M.grd (decide (l5.length <= 1000000)) <|
  M.pure (.inr (isort l5, l6)))
def zck (s_Sections : List Sect) (s_Marks : List Mrk) (s_Reaches : List Rch) : M ((List Int) × Int) :=
  M.bind (zao s_Sections s_Marks s_Reaches) fun x_ => match x_ with
  | (.inl r1) => (
  bif r1 != 0 then (
  M.pure (([]), r1))
  else (
  M.fail))
  | (.inr aa) => (
  bif aa != 0 then (
  M.fail)
  else (
  M.bind (zcC s_Sections s_Marks s_Reaches) fun r2 =>
  M.grd (decide ((0 : Int) <= (r2.length : Int)) && decide ((8 : Int) * (r2.length : Int) <= 281474976710656) && decide ((r2.length : Int) <= (9223372036854775807 : Int))) <|
  M.bind (M.iter (zb5 s_Sections s_Marks s_Reaches r2) (List.replicate (r2.length) (0 : Int))) fun (l7, l8) =>
  M.pure (l7, 0)))
theorem zcH {R : List Chunk} {bg : Cells} {ai : Value} {bh : Cells} {aj : Value} {bi : Cells} {ak : Value} (s_Sections : List Sect) (s_Marks : List Mrk) (s_Reaches : List Rch) (aS : Reads R bg) (aT : Sl bg ai s_Sections) (aU : Reads R bh) (aV : Sl bh aj s_Marks) (aW : Reads R bi) (aX : Sl bi ak s_Reaches) {r : ((List Int) × Int)} (hM : (zck s_Sections s_Marks s_Reaches).Ends r) (w : World) (H : St w w [] R) : Ret Tryz.prog 10 #[.agg #[ai, aj, ak]] w fun v w' => ∃ (y0 : List Int) (y1 : Int) (u0 : Value), (y0, y1) = r /\ v = .tuple #[u0, I y1] /\ St w w' [cOwn (α := Int) 3 u0 y0] R := by
 refine ret_of_W Tryz.func10 rfl rfl rfl ?_
 refine W.seq ?_
 refine W.region rfl ?_
 refine t_box (v := .agg #[ai, aj, ak]) (cs := [ai, aj, ak]) H rfl rfl ?_
 intro aA ck H
 refine zA (.slice none 0 0) rfl ?_
 refine zA (I 0) rfl ?_
 refine s_nil ?_
 refine W.jumpS 0 rfl ?_
 refine W.seq ?_
 refine W.region rfl ?_
 refine s_val (x_ld (p := Pq aA) (v := .agg #[ai, aj, ak]) rfl (ldb_ag (ds := [ai, aj, ak]) Ag27 Sz27 (H.bl 0) rfl rfl)) ?_
 obtain ⟨cn, bB, hM⟩ := M.e_bind hM
 refine s_call cf49 [.agg #[ai, aj, ak]] rfl (zaK s_Sections s_Marks s_Reaches (aS.app _) aT (aU.app _) aV (aW.app _) aX bB _ (H.gt 1)) ?_
 rintro vq co (⟨r1, bC, hvq, aB⟩ | ⟨az, al, aq, bD, hvq, aB⟩)
 ·subst bC
  subst vq
  try dsimp only at hM
  replace H := H.bk aB
  clear aB
  refine zM (.tuple #[.pointer none, I r1]) rfl ?_
  refine zX [.pointer none, I r1] (.pointer none) rfl rfl ?_
  refine zX [.pointer none, I r1] (I r1) rfl rfl ?_
  refine zA (.pointer none) rfl ?_
  refine zA (I r1) rfl ?_
  refine s_nil ?_
  refine W.seq ?_
  refine W.seq ?_
  refine W.region rfl ?_
  refine zM (I r1) rfl ?_
  refine zC r1 0 (r1 != 0) rfl rfl rfl ?_
  refine s_nil ?_
  refine W.cond (r1 != 0) rfl (fun aQ => ?_) (fun aQ => ?_)
  ·replace hM := M.e_t hM aQ
   simp only [qy1, qy2, qy3, qy4, qy5, qy6, ne_eq, qy7] at aQ
   refine W.seq ?_
   refine W.region rfl ?_
   refine zM (I r1) rfl ?_
   refine zA (.slice none 0 0) rfl ?_
   refine zA (I r1) rfl ?_
   refine s_nil ?_
   refine W.ret ?_
   have aL := M.e_pure hM
   replace H := H.nilOwn (α := Int) 3
   exact ⟨_, resE_tmp2 rfl, ⟨([]), r1, (.slice none 0 0), aL, rfl, (H.pk [0])⟩⟩
  replace hM := M.e_f hM aQ
  exact (M.e_fail hM).elim
 subst bD
 subst vq
 try dsimp only at hM
 replace H := H.bk aB
 clear aB
 refine zM (.tuple #[Pq al, I az]) rfl ?_
 refine zX [Pq al, I az] (Pq al) rfl rfl ?_
 refine zX [Pq al, I az] (I az) rfl rfl ?_
 refine zA (Pq al) rfl ?_
 refine zA (I az) rfl ?_
 refine s_nil ?_
 refine W.seq ?_
 refine W.seq ?_
 refine W.region rfl ?_
 refine zM (I az) rfl ?_
 refine zC az 0 (az != 0) rfl rfl rfl ?_
 refine s_nil ?_
 refine W.cond (az != 0) rfl (fun aR => ?_) (fun aR => ?_)
 ·replace hM := M.e_t hM aR
  exact (M.e_fail hM).elim
 replace hM := M.e_f hM aR
 simp only [qy1, qy2, qy3, qy4, qy5, qy6, ne_eq, qy7] at aR
 refine W.skip ?_
 refine W.seq ?_
 refine W.region rfl ?_
 refine zM (Pq al) rfl ?_
 obtain ⟨cp, bE, hM⟩ := M.e_bind hM
 refine s_call cf50 [Pq al] rfl (zcT s_Sections s_Marks s_Reaches (aS.app _) aT (aU.app _) aV (aW.app _) aX (Has.here (k := 0) rfl) bE _ (H.gt 3)) ?_
 rintro vq cq ⟨r2, ah, aD, aE, bF, hvq, aB, au⟩
 subst bF
 subst vq
 try dsimp only at hM
 replace H := H.bk aB
 clear aB
 refine zA ah rfl ?_
 refine s_nil ?_
 refine W.seq ?_
 refine W.region rfl ?_
 refine zM ah rfl ?_
 have cr := ((rowSl rfl (H.get (k := 0) rfl) (roLe _ (H.get (k := 1) rfl)) au)).len_le
 refine s_val (x_lenS T38.und rfl (rowSl rfl (H.get (k := 0) rfl) (roLe _ (H.get (k := 1) rfl)) au)) ?_
 obtain ⟨bG, hM⟩ := M.e_grd hM
 simp only [Bool.and_eq_true, decide_eq_true_eq] at bG
 refine t_mk (α := Int) T28 (0 : Int) rfl (n := (r2.length : Int)) H rfl rfl (by omega) (by omega) (by omega) ?_
 intro bj ct H
 replace H := H.nf
 refine zA bj rfl ?_
 refine s_nil ?_
 obtain ⟨bH, aY, bI⟩ := M.e_bind hM
 obtain ⟨aZ, aY⟩ := M.e_iter aY
 refine W.jumpL (fun m σ W => ∃ (l6 : List Int) (ab : Value) (ρ : Env), σ = upds ρ [(4, Pq al), (6, ah), (7, ab)] /\ M.iterN (zb5 s_Sections s_Marks s_Reaches r2) m l6 = some bH /\ St w W [cOwn (α := Int) 3 ab l6, cOwn (α := Raw 0) 28 ah aD, cRo aE, cBlk al [ai, aj, ak, .map (some aq)] 177, cMemI encSpt aq (zaa s_Sections s_Marks s_Reaches), cBlk aA [ai, aj, ak] 27] R) ?_ ?_
 ·exact ⟨_, List.replicate (r2.length) (0 : Int), bj, _, upds_of _ _ ⟨rfl, rfl, rfl, trivial⟩, aY, H⟩
 rintro cu σ cv ⟨l6, ab, ρ, rfl, bm, H⟩
 obtain ⟨bJ, bK, cw, hM, bn⟩ := M.e_iterN bm
 simp only [zb5] at hM
 clear bm
 refine W.seq ?_
 refine W.seq ?_
 refine W.region rfl ?_
 refine zM ah rfl ?_
 have cx := ((rowSl rfl (H.get (k := 1) rfl) (roLe _ (H.get (k := 2) rfl)) au)).len_le
 refine s_val (x_lenS T38.und rfl (rowSl rfl (H.get (k := 1) rfl) (roLe _ (H.get (k := 2) rfl)) au)) ?_
 refine zM (I 0) rfl ?_
 refine s_nil ?_
 refine W.block ?_
 obtain ⟨bL, a6, bo⟩ := M.e_bind hM
 obtain ⟨aZ, a6⟩ := M.e_iter a6
 refine W.loop (fun m σ W => ∃ (s3 : Nat) (ρ : Env), σ = upds ρ [(4, Pq al), (6, ah), (7, ab), (28, ah), (29, I (r2.length : Int)), (30, I (s3 : Int))] /\ M.iterN (zbM s_Sections s_Marks s_Reaches r2 l6) m s3 = some bL /\ St w W [cOwn (α := Int) 3 ab l6, cOwn (α := Raw 0) 28 ah aD, cRo aE, cBlk al [ai, aj, ak, .map (some aq)] 177, cMemI encSpt aq (zaa s_Sections s_Marks s_Reaches), cBlk aA [ai, aj, ak] 27] R) ?_ ?_
 ·exact ⟨_, 0, _, upds_of _ _ ⟨rfl, rfl, rfl, rfl, rfl, rfl, trivial⟩, a6, H⟩
 rintro cy σ cz ⟨s3, ρ, rfl, bp, H⟩
 obtain ⟨bM, bN, cA, hM, a7⟩ := M.e_iterN bp
 simp only [zbM] at hM
 clear bp
 refine W.seq ?_
 refine W.region rfl ?_
 refine zC (s3 : Int) (r2.length : Int) (decide ((s3 : Int) < (r2.length : Int))) rfl rfl rfl ?_
 refine s_nil ?_
 refine W.seq ?_
 refine W.cond (decide ((s3 : Int) < (r2.length : Int))) rfl (fun aM => ?_) (fun aM => ?_)
 ·replace hM := M.e_t hM aM
  simp only [qy1, qy2, qy3, qy4, qy5, qy6, ne_eq, qy7] at aM
  refine W.skip ?_
  refine W.seq ?_
  refine W.block ?_
  refine W.seq ?_
  refine W.region rfl ?_
  refine zM (I (s3 : Int)) rfl ?_
  obtain ⟨bO, hM⟩ := M.e_grd hM
  simp only [Bool.and_eq_true, decide_eq_true_eq] at bO
  refine s_val (x_ix (a := ah) (b := I (s3 : Int)) (v := vat ah 1 (Int.toNat (s3 : Int))) rfl rfl (Sl.ix (α := List Int) T38.und T38.size (rowSl rfl (H.get (k := 1) rfl) (roLe _ (H.get (k := 2) rfl)) au) (by omega) (by omega))) ?_
  obtain ⟨av, bP, aJ⟩ := List_at (rowSl rfl (H.get (k := 1) rfl) (roLe _ (H.get (k := 2) rfl)) au) (i := (s3 : Int)) (by omega) (by omega)
  replace aJ : Sl _ av (r2.getD s3 ([])) := aJ
  have cB := aJ.len_le
  refine s_val (x_ld (p := vat ah 1 (Int.toNat (s3 : Int))) (v := av) rfl (ld_sc Sc28 (At.mono (bP) (Cells.sup_le (H.ol 1) (roLe _ (H.get (k := 2) rfl)))))) ?_
  refine zA (I (s3 : Int)) rfl ?_
  refine zA av rfl ?_
  refine s_nil ?_
  refine W.seq ?_
  refine W.region rfl ?_
  refine zM ah rfl ?_
  have cC := ((rowSl rfl (H.get (k := 1) rfl) (roLe _ (H.get (k := 2) rfl)) au)).len_le
  refine s_val (x_lenS T38.und rfl (rowSl rfl (H.get (k := 1) rfl) (roLe _ (H.get (k := 2) rfl)) au)) ?_
  refine zM (I 0) rfl ?_
  refine s_nil ?_
  refine W.block ?_
  obtain ⟨bQ, a8, bq⟩ := M.e_bind hM
  obtain ⟨aZ, a8⟩ := M.e_iter a8
  refine W.loop (fun m σ W => ∃ (s2 : Nat) (ρ : Env), σ = upds ρ [(4, Pq al), (6, ah), (7, ab), (8, I (s3 : Int)), (9, av), (28, ah), (29, I (r2.length : Int)), (30, I (s3 : Int)), (35, ah), (36, I (r2.length : Int)), (37, I (s2 : Int))] /\ M.iterN (zcb s_Sections s_Marks s_Reaches r2 l6 s3) m s2 = some bQ /\ St w W [cOwn (α := Int) 3 ab l6, cOwn (α := Raw 0) 28 ah aD, cRo aE, cBlk al [ai, aj, ak, .map (some aq)] 177, cMemI encSpt aq (zaa s_Sections s_Marks s_Reaches), cBlk aA [ai, aj, ak] 27] R) ?_ ?_
  ·exact ⟨_, 0, _, upds_of _ _ ⟨rfl, rfl, rfl, rfl, rfl, rfl, rfl, rfl, rfl, rfl, rfl, trivial⟩, a8, H⟩
  rintro cD σ cE ⟨s2, ρ, rfl, br, H⟩
  obtain ⟨bR, bS, cF, hM, ba⟩ := M.e_iterN br
  simp only [zcb] at hM
  clear br
  refine W.seq ?_
  refine W.region rfl ?_
  refine zC (s2 : Int) (r2.length : Int) (decide ((s2 : Int) < (r2.length : Int))) rfl rfl rfl ?_
  refine s_nil ?_
  refine W.seq ?_
  refine W.cond (decide ((s2 : Int) < (r2.length : Int))) rfl (fun aN => ?_) (fun aN => ?_)
  ·replace hM := M.e_t hM aN
   simp only [qy1, qy2, qy3, qy4, qy5, qy6, ne_eq, qy7] at aN
   refine W.skip ?_
   refine W.seq ?_
   refine W.block ?_
   refine W.seq ?_
   refine W.region rfl ?_
   refine zM (I (s2 : Int)) rfl ?_
   obtain ⟨bT, hM⟩ := M.e_grd hM
   simp only [Bool.and_eq_true, decide_eq_true_eq] at bT
   refine s_val (x_ix (a := ah) (b := I (s2 : Int)) (v := vat ah 1 (Int.toNat (s2 : Int))) rfl rfl (Sl.ix (α := List Int) T38.und T38.size (rowSl rfl (H.get (k := 1) rfl) (roLe _ (H.get (k := 2) rfl)) au) (by omega) (by omega))) ?_
   obtain ⟨aw, bU, aK⟩ := List_at (rowSl rfl (H.get (k := 1) rfl) (roLe _ (H.get (k := 2) rfl)) au) (i := (s2 : Int)) (by omega) (by omega)
   replace aK : Sl _ aw (r2.getD s2 ([])) := aK
   have cG := aK.len_le
   refine s_val (x_ld (p := vat ah 1 (Int.toNat (s2 : Int))) (v := aw) rfl (ld_sc Sc28 (At.mono (bU) (Cells.sup_le (H.ol 1) (roLe _ (H.get (k := 2) rfl)))))) ?_
   refine zA (I (s2 : Int)) rfl ?_
   refine zA aw rfl ?_
   refine s_nil ?_
   refine W.seq ?_
   refine W.draw (fun W => St w W [cOwn (α := Int) 3 ab l6, cOwn (α := Raw 0) 28 ah aD, cRo aE, cBlk al [ai, aj, ak, .map (some aq)] 177, cMemI encSpt aq (zaa s_Sections s_Marks s_Reaches), cBlk aA [ai, aj, ak] 27] R) [(0, true), (1, true), (2, true), (3, true), (4, true), (5, true), (6, true), (7, true), (8, true), (9, true), (10, true), (11, true), (12, true), (13, true), (14, true), (15, true), (16, true), (17, true), (18, true), (19, true), (20, true), (21, true), (22, true), (23, true), (24, true), (25, true), (26, true), (27, true), (28, true), (29, true), (30, true), (31, true), (32, true), (33, true), (34, true), (35, true), (36, true), (37, false), (38, true)] mixed (by decide +kernel) rfl ?_
   intro cH ac
   replace H := H.ext ac
   clear ac
   refine ⟨(H.pk [0, 1, 2, 3, 4, 5]), ?_⟩
   refine d_q rfl (fun w' H => x_mv (v := I (s3 : Int)) rfl) ?_
   refine d_q rfl (fun w' H => x_mv (v := I (s2 : Int)) rfl) ?_
   refine d_q rfl (fun w' H => x_cmp (kd := .i64) (a := (s3 : Int)) (b := (s2 : Int)) (r := (s3 : Int) != (s2 : Int)) rfl rfl rfl) ?_
   refine d_q rfl (fun w' H => x_mv (v := B ((s3 : Int) != (s2 : Int))) rfl) ?_
   refine d_qg ((s3 : Int) != (s2 : Int)) rfl (gy_t rfl) (fun hg => (fun w' H => x_mv (v := ab) rfl)) ?_
   refine d_qg ((s3 : Int) != (s2 : Int)) rfl (gy_t rfl) (fun hg => (fun w' H => x_mv (v := I (s3 : Int)) rfl)) ?_
   obtain ⟨aF, hM⟩ := M.e_grd hM
   replace aF := M.imp_of aF
   simp only [Bool.and_eq_true, decide_eq_true_eq] at aF
   refine d_qg ((s3 : Int) != (s2 : Int)) rfl (gy_t rfl) (fun hg => (fun w' H => x_ix (a := ab) (b := I (s3 : Int)) (v := vat ab 1 (Int.toNat (s3 : Int))) (gd_of (c := (s3 : Int) != (s2 : Int)) hg (ab)) (gd_of (c := (s3 : Int) != (s2 : Int)) hg (I (s3 : Int))) (Sl.ix (α := Int) T28.und T28.size (H.os 0) (by have aa := aF.resolve_left (by rw [hg]; decide); first | exact aa | exact aa.1 | exact aa.2 | omega | (have ac := hg; simp at ac; omega)) (by have aa := aF.resolve_left (by rw [hg]; decide); first | exact aa | exact aa.1 | exact aa.2 | omega | (have ac := hg; simp at ac; omega))))) ?_
   refine d_qg ((s3 : Int) != (s2 : Int)) rfl (gy_t rfl) (fun hg => (fun w' H => x_ld (p := vat ab 1 (Int.toNat (s3 : Int))) (v := I (l6.getD s3 0)) (gd_of (c := (s3 : Int) != (s2 : Int)) hg (vat ab 1 (Int.toNat (s3 : Int)))) (ld_sc Sc3 (At.mono (Int_at (H.os 0) (i := (s3 : Int)) (by have aa := aF.resolve_left (by rw [hg]; decide); first | exact aa | exact aa.1 | exact aa.2 | omega | (have ac := hg; simp at ac; omega)) (by have aa := aF.resolve_left (by rw [hg]; decide); first | exact aa | exact aa.1 | exact aa.2 | omega | (have ac := hg; simp at ac; omega))) (H.ol 0))))) ?_
   refine d_qg ((s3 : Int) != (s2 : Int)) rfl (gy_t rfl) (fun hg => (fun w' H => x_mv (v := av) rfl)) ?_
   refine d_qg ((s3 : Int) != (s2 : Int)) rfl (gy_t rfl) (fun hg => (fun w' H => x_lenS T28.und (gd_of (c := (s3 : Int) != (s2 : Int)) hg (av)) aJ)) ?_
   refine d_qg ((s3 : Int) != (s2 : Int)) rfl (gy_t rfl) (fun hg => (fun w' H => x_cmp (kd := .i64) (a := l6.getD s3 0) (b := ((r2.getD s3 ([])).length : Int)) (r := decide ((l6.getD s3 0) < ((r2.getD s3 ([])).length : Int))) (gd_of (c := (s3 : Int) != (s2 : Int)) hg (I (l6.getD s3 0))) (gd_of (c := (s3 : Int) != (s2 : Int)) hg (I ((r2.getD s3 ([])).length : Int))) rfl)) ?_
   refine d_q rfl (fun w' H => x_pand (b := (s3 : Int) != (s2 : Int)) (r := decide ((l6.getD s3 0) < ((r2.getD s3 ([])).length : Int))) rfl (fun hb => gd_of (c := (s3 : Int) != (s2 : Int)) (by first | exact hb | (rw [hb]; rfl) | simp_all) (B (decide ((l6.getD s3 0) < ((r2.getD s3 ([])).length : Int))))) rfl) ?_
   refine d_q rfl (fun w' H => x_mv (v := B (((s3 : Int) != (s2 : Int)) && (decide ((l6.getD s3 0) < ((r2.getD s3 ([])).length : Int))))) rfl) ?_
   refine d_qg (((s3 : Int) != (s2 : Int)) && (decide ((l6.getD s3 0) < ((r2.getD s3 ([])).length : Int)))) rfl (gy_t rfl) (fun hg => (fun w' H => x_mv (v := ab) rfl)) ?_
   refine d_qg (((s3 : Int) != (s2 : Int)) && (decide ((l6.getD s3 0) < ((r2.getD s3 ([])).length : Int)))) rfl (gy_t rfl) (fun hg => (fun w' H => x_mv (v := I (s2 : Int)) rfl)) ?_
   obtain ⟨aG, hM⟩ := M.e_grd hM
   replace aG := M.imp_of aG
   simp only [Bool.and_eq_true, decide_eq_true_eq] at aG
   refine d_qg (((s3 : Int) != (s2 : Int)) && (decide ((l6.getD s3 0) < ((r2.getD s3 ([])).length : Int)))) rfl (gy_t rfl) (fun hg => (fun w' H => x_ix (a := ab) (b := I (s2 : Int)) (v := vat ab 1 (Int.toNat (s2 : Int))) (gd_of (c := (((s3 : Int) != (s2 : Int)) && (decide ((l6.getD s3 0) < ((r2.getD s3 ([])).length : Int))))) hg (ab)) (gd_of (c := (((s3 : Int) != (s2 : Int)) && (decide ((l6.getD s3 0) < ((r2.getD s3 ([])).length : Int))))) hg (I (s2 : Int))) (Sl.ix (α := Int) T28.und T28.size (H.os 0) (by have aa := aG.resolve_left (by rw [hg]; decide); first | exact aa | exact aa.1 | exact aa.2 | omega | (have ac := hg; simp at ac; omega)) (by have aa := aG.resolve_left (by rw [hg]; decide); first | exact aa | exact aa.1 | exact aa.2 | omega | (have ac := hg; simp at ac; omega))))) ?_
   refine d_qg (((s3 : Int) != (s2 : Int)) && (decide ((l6.getD s3 0) < ((r2.getD s3 ([])).length : Int)))) rfl (gy_t rfl) (fun hg => (fun w' H => x_ld (p := vat ab 1 (Int.toNat (s2 : Int))) (v := I (l6.getD s2 0)) (gd_of (c := (((s3 : Int) != (s2 : Int)) && (decide ((l6.getD s3 0) < ((r2.getD s3 ([])).length : Int))))) hg (vat ab 1 (Int.toNat (s2 : Int)))) (ld_sc Sc3 (At.mono (Int_at (H.os 0) (i := (s2 : Int)) (by have aa := aG.resolve_left (by rw [hg]; decide); first | exact aa | exact aa.1 | exact aa.2 | omega | (have ac := hg; simp at ac; omega)) (by have aa := aG.resolve_left (by rw [hg]; decide); first | exact aa | exact aa.1 | exact aa.2 | omega | (have ac := hg; simp at ac; omega))) (H.ol 0))))) ?_
   refine d_qg (((s3 : Int) != (s2 : Int)) && (decide ((l6.getD s3 0) < ((r2.getD s3 ([])).length : Int)))) rfl (gy_t rfl) (fun hg => (fun w' H => x_mv (v := aw) rfl)) ?_
   refine d_qg (((s3 : Int) != (s2 : Int)) && (decide ((l6.getD s3 0) < ((r2.getD s3 ([])).length : Int)))) rfl (gy_t rfl) (fun hg => (fun w' H => x_lenS T28.und (gd_of (c := (((s3 : Int) != (s2 : Int)) && (decide ((l6.getD s3 0) < ((r2.getD s3 ([])).length : Int))))) hg (aw)) aK)) ?_
   refine d_qg (((s3 : Int) != (s2 : Int)) && (decide ((l6.getD s3 0) < ((r2.getD s3 ([])).length : Int)))) rfl (gy_t rfl) (fun hg => (fun w' H => x_cmp (kd := .i64) (a := l6.getD s2 0) (b := ((r2.getD s2 ([])).length : Int)) (r := decide ((l6.getD s2 0) < ((r2.getD s2 ([])).length : Int))) (gd_of (c := (((s3 : Int) != (s2 : Int)) && (decide ((l6.getD s3 0) < ((r2.getD s3 ([])).length : Int))))) hg (I (l6.getD s2 0))) (gd_of (c := (((s3 : Int) != (s2 : Int)) && (decide ((l6.getD s3 0) < ((r2.getD s3 ([])).length : Int))))) hg (I ((r2.getD s2 ([])).length : Int))) rfl)) ?_
   refine d_q rfl (fun w' H => x_pand (b := (((s3 : Int) != (s2 : Int)) && (decide ((l6.getD s3 0) < ((r2.getD s3 ([])).length : Int))))) (r := decide ((l6.getD s2 0) < ((r2.getD s2 ([])).length : Int))) rfl (fun hb => gd_of (c := (((s3 : Int) != (s2 : Int)) && (decide ((l6.getD s3 0) < ((r2.getD s3 ([])).length : Int))))) (by first | exact hb | (rw [hb]; rfl) | simp_all) (B (decide ((l6.getD s2 0) < ((r2.getD s2 ([])).length : Int))))) rfl) ?_
   refine d_q rfl (fun w' H => x_mv (v := B ((((s3 : Int) != (s2 : Int)) && (decide ((l6.getD s3 0) < ((r2.getD s3 ([])).length : Int)))) && (decide ((l6.getD s2 0) < ((r2.getD s2 ([])).length : Int))))) rfl) ?_
   refine d_qg ((((s3 : Int) != (s2 : Int)) && (decide ((l6.getD s3 0) < ((r2.getD s3 ([])).length : Int)))) && (decide ((l6.getD s2 0) < ((r2.getD s2 ([])).length : Int)))) rfl (gy_t rfl) (fun hg => (fun w' H => x_mv (v := Pq al) rfl)) ?_
   refine d_qg ((((s3 : Int) != (s2 : Int)) && (decide ((l6.getD s3 0) < ((r2.getD s3 ([])).length : Int)))) && (decide ((l6.getD s2 0) < ((r2.getD s2 ([])).length : Int)))) rfl (gy_t rfl) (fun hg => (fun w' H => x_mv (v := av) rfl)) ?_
   refine d_qg ((((s3 : Int) != (s2 : Int)) && (decide ((l6.getD s3 0) < ((r2.getD s3 ([])).length : Int)))) && (decide ((l6.getD s2 0) < ((r2.getD s2 ([])).length : Int)))) rfl (gy_t rfl) (fun hg => (fun w' H => x_mv (v := ab) rfl)) ?_
   refine d_qg ((((s3 : Int) != (s2 : Int)) && (decide ((l6.getD s3 0) < ((r2.getD s3 ([])).length : Int)))) && (decide ((l6.getD s2 0) < ((r2.getD s2 ([])).length : Int)))) rfl (gy_t rfl) (fun hg => (fun w' H => x_mv (v := I (s3 : Int)) rfl)) ?_
   obtain ⟨am, hM⟩ := M.e_grd hM
   replace am := M.imp_of am
   simp only [Bool.and_eq_true, decide_eq_true_eq] at am
   refine d_qg ((((s3 : Int) != (s2 : Int)) && (decide ((l6.getD s3 0) < ((r2.getD s3 ([])).length : Int)))) && (decide ((l6.getD s2 0) < ((r2.getD s2 ([])).length : Int)))) rfl (gy_t rfl) (fun hg => (fun w' H => x_ix (a := ab) (b := I (s3 : Int)) (v := vat ab 1 (Int.toNat (s3 : Int))) (gd_of (c := ((((s3 : Int) != (s2 : Int)) && (decide ((l6.getD s3 0) < ((r2.getD s3 ([])).length : Int)))) && (decide ((l6.getD s2 0) < ((r2.getD s2 ([])).length : Int))))) hg (ab)) (gd_of (c := ((((s3 : Int) != (s2 : Int)) && (decide ((l6.getD s3 0) < ((r2.getD s3 ([])).length : Int)))) && (decide ((l6.getD s2 0) < ((r2.getD s2 ([])).length : Int))))) hg (I (s3 : Int))) (Sl.ix (α := Int) T28.und T28.size (H.os 0) (by have aa := am.resolve_left (by rw [hg]; decide); first | exact aa | exact aa.1 | exact aa.2 | omega | (have ac := hg; simp at ac; omega)) (by have aa := am.resolve_left (by rw [hg]; decide); first | exact aa | exact aa.1 | exact aa.2 | omega | (have ac := hg; simp at ac; omega))))) ?_
   refine d_qg ((((s3 : Int) != (s2 : Int)) && (decide ((l6.getD s3 0) < ((r2.getD s3 ([])).length : Int)))) && (decide ((l6.getD s2 0) < ((r2.getD s2 ([])).length : Int)))) rfl (gy_t rfl) (fun hg => (fun w' H => x_ld (p := vat ab 1 (Int.toNat (s3 : Int))) (v := I (l6.getD s3 0)) (gd_of (c := ((((s3 : Int) != (s2 : Int)) && (decide ((l6.getD s3 0) < ((r2.getD s3 ([])).length : Int)))) && (decide ((l6.getD s2 0) < ((r2.getD s2 ([])).length : Int))))) hg (vat ab 1 (Int.toNat (s3 : Int)))) (ld_sc Sc3 (At.mono (Int_at (H.os 0) (i := (s3 : Int)) (by have aa := am.resolve_left (by rw [hg]; decide); first | exact aa | exact aa.1 | exact aa.2 | omega | (have ac := hg; simp at ac; omega)) (by have aa := am.resolve_left (by rw [hg]; decide); first | exact aa | exact aa.1 | exact aa.2 | omega | (have ac := hg; simp at ac; omega))) (H.ol 0))))) ?_
   obtain ⟨ao, hM⟩ := M.e_grd hM
   replace ao := M.imp_of ao
   simp only [Bool.and_eq_true, decide_eq_true_eq] at ao
   refine d_qg ((((s3 : Int) != (s2 : Int)) && (decide ((l6.getD s3 0) < ((r2.getD s3 ([])).length : Int)))) && (decide ((l6.getD s2 0) < ((r2.getD s2 ([])).length : Int)))) rfl (gy_t rfl) (fun hg => (fun w' H => x_ix (a := av) (b := I (l6.getD s3 0)) (v := vat av 1 (Int.toNat (l6.getD s3 0))) (gd_of (c := ((((s3 : Int) != (s2 : Int)) && (decide ((l6.getD s3 0) < ((r2.getD s3 ([])).length : Int)))) && (decide ((l6.getD s2 0) < ((r2.getD s2 ([])).length : Int))))) hg (av)) (gd_of (c := ((((s3 : Int) != (s2 : Int)) && (decide ((l6.getD s3 0) < ((r2.getD s3 ([])).length : Int)))) && (decide ((l6.getD s2 0) < ((r2.getD s2 ([])).length : Int))))) hg (I (l6.getD s3 0))) (Sl.ix (α := Int) T28.und T28.size aJ (by have aa := am.resolve_left (by rw [hg]; decide); have ae := ao.resolve_left (by rw [hg]; decide); first | exact aa | exact aa.1 | exact aa.2 | exact ae | exact ae.1 | exact ae.2 | omega | (have ac := hg; simp at ac; omega)) (by have aa := am.resolve_left (by rw [hg]; decide); have ae := ao.resolve_left (by rw [hg]; decide); first | exact aa | exact aa.1 | exact aa.2 | exact ae | exact ae.1 | exact ae.2 | omega | (have ac := hg; simp at ac; omega))))) ?_
   refine d_qg ((((s3 : Int) != (s2 : Int)) && (decide ((l6.getD s3 0) < ((r2.getD s3 ([])).length : Int)))) && (decide ((l6.getD s2 0) < ((r2.getD s2 ([])).length : Int)))) rfl (gy_t rfl) (fun hg => (fun w' H => x_ld (p := vat av 1 (Int.toNat (l6.getD s3 0))) (v := I ((r2.getD s3 ([])).getD (Int.toNat (l6.getD s3 0)) 0)) (gd_of (c := ((((s3 : Int) != (s2 : Int)) && (decide ((l6.getD s3 0) < ((r2.getD s3 ([])).length : Int)))) && (decide ((l6.getD s2 0) < ((r2.getD s2 ([])).length : Int))))) hg (vat av 1 (Int.toNat (l6.getD s3 0)))) (ld_sc Sc3 (At.mono (Int_at aJ (i := l6.getD s3 0) (by have aa := am.resolve_left (by rw [hg]; decide); have ae := ao.resolve_left (by rw [hg]; decide); first | exact aa | exact aa.1 | exact aa.2 | exact ae | exact ae.1 | exact ae.2 | omega | (have ac := hg; simp at ac; omega)) (by have aa := am.resolve_left (by rw [hg]; decide); have ae := ao.resolve_left (by rw [hg]; decide); first | exact aa | exact aa.1 | exact aa.2 | exact ae | exact ae.1 | exact ae.2 | omega | (have ac := hg; simp at ac; omega))) (Cells.sup_le (H.ol 1) (roLe _ (H.get (k := 2) rfl))))))) ?_
   refine d_qg ((((s3 : Int) != (s2 : Int)) && (decide ((l6.getD s3 0) < ((r2.getD s3 ([])).length : Int)))) && (decide ((l6.getD s2 0) < ((r2.getD s2 ([])).length : Int)))) rfl (gy_t rfl) (fun hg => (fun w' H => x_mv (v := aw) rfl)) ?_
   refine d_qg ((((s3 : Int) != (s2 : Int)) && (decide ((l6.getD s3 0) < ((r2.getD s3 ([])).length : Int)))) && (decide ((l6.getD s2 0) < ((r2.getD s2 ([])).length : Int)))) rfl (gy_t rfl) (fun hg => (fun w' H => x_mv (v := ab) rfl)) ?_
   refine d_qg ((((s3 : Int) != (s2 : Int)) && (decide ((l6.getD s3 0) < ((r2.getD s3 ([])).length : Int)))) && (decide ((l6.getD s2 0) < ((r2.getD s2 ([])).length : Int)))) rfl (gy_t rfl) (fun hg => (fun w' H => x_mv (v := I (s2 : Int)) rfl)) ?_
   obtain ⟨ax, hM⟩ := M.e_grd hM
   replace ax := M.imp_of ax
   simp only [Bool.and_eq_true, decide_eq_true_eq] at ax
   refine d_qg ((((s3 : Int) != (s2 : Int)) && (decide ((l6.getD s3 0) < ((r2.getD s3 ([])).length : Int)))) && (decide ((l6.getD s2 0) < ((r2.getD s2 ([])).length : Int)))) rfl (gy_t rfl) (fun hg => (fun w' H => x_ix (a := ab) (b := I (s2 : Int)) (v := vat ab 1 (Int.toNat (s2 : Int))) (gd_of (c := ((((s3 : Int) != (s2 : Int)) && (decide ((l6.getD s3 0) < ((r2.getD s3 ([])).length : Int)))) && (decide ((l6.getD s2 0) < ((r2.getD s2 ([])).length : Int))))) hg (ab)) (gd_of (c := ((((s3 : Int) != (s2 : Int)) && (decide ((l6.getD s3 0) < ((r2.getD s3 ([])).length : Int)))) && (decide ((l6.getD s2 0) < ((r2.getD s2 ([])).length : Int))))) hg (I (s2 : Int))) (Sl.ix (α := Int) T28.und T28.size (H.os 0) (by have aa := am.resolve_left (by rw [hg]; decide); have ae := ao.resolve_left (by rw [hg]; decide); have ag := ax.resolve_left (by rw [hg]; decide); first | exact aa | exact aa.1 | exact aa.2 | exact ae | exact ae.1 | exact ae.2 | exact ag | exact ag.1 | exact ag.2 | omega | (have ac := hg; simp at ac; omega)) (by have aa := am.resolve_left (by rw [hg]; decide); have ae := ao.resolve_left (by rw [hg]; decide); have ag := ax.resolve_left (by rw [hg]; decide); first | exact aa | exact aa.1 | exact aa.2 | exact ae | exact ae.1 | exact ae.2 | exact ag | exact ag.1 | exact ag.2 | omega | (have ac := hg; simp at ac; omega))))) ?_
   refine d_qg ((((s3 : Int) != (s2 : Int)) && (decide ((l6.getD s3 0) < ((r2.getD s3 ([])).length : Int)))) && (decide ((l6.getD s2 0) < ((r2.getD s2 ([])).length : Int)))) rfl (gy_t rfl) (fun hg => (fun w' H => x_ld (p := vat ab 1 (Int.toNat (s2 : Int))) (v := I (l6.getD s2 0)) (gd_of (c := ((((s3 : Int) != (s2 : Int)) && (decide ((l6.getD s3 0) < ((r2.getD s3 ([])).length : Int)))) && (decide ((l6.getD s2 0) < ((r2.getD s2 ([])).length : Int))))) hg (vat ab 1 (Int.toNat (s2 : Int)))) (ld_sc Sc3 (At.mono (Int_at (H.os 0) (i := (s2 : Int)) (by have aa := am.resolve_left (by rw [hg]; decide); have ae := ao.resolve_left (by rw [hg]; decide); have ag := ax.resolve_left (by rw [hg]; decide); first | exact aa | exact aa.1 | exact aa.2 | exact ae | exact ae.1 | exact ae.2 | exact ag | exact ag.1 | exact ag.2 | omega | (have ac := hg; simp at ac; omega)) (by have aa := am.resolve_left (by rw [hg]; decide); have ae := ao.resolve_left (by rw [hg]; decide); have ag := ax.resolve_left (by rw [hg]; decide); first | exact aa | exact aa.1 | exact aa.2 | exact ae | exact ae.1 | exact ae.2 | exact ag | exact ag.1 | exact ag.2 | omega | (have ac := hg; simp at ac; omega))) (H.ol 0))))) ?_
   obtain ⟨aH, hM⟩ := M.e_grd hM
   replace aH := M.imp_of aH
   simp only [Bool.and_eq_true, decide_eq_true_eq] at aH
   refine d_qg ((((s3 : Int) != (s2 : Int)) && (decide ((l6.getD s3 0) < ((r2.getD s3 ([])).length : Int)))) && (decide ((l6.getD s2 0) < ((r2.getD s2 ([])).length : Int)))) rfl (gy_t rfl) (fun hg => (fun w' H => x_ix (a := aw) (b := I (l6.getD s2 0)) (v := vat aw 1 (Int.toNat (l6.getD s2 0))) (gd_of (c := ((((s3 : Int) != (s2 : Int)) && (decide ((l6.getD s3 0) < ((r2.getD s3 ([])).length : Int)))) && (decide ((l6.getD s2 0) < ((r2.getD s2 ([])).length : Int))))) hg (aw)) (gd_of (c := ((((s3 : Int) != (s2 : Int)) && (decide ((l6.getD s3 0) < ((r2.getD s3 ([])).length : Int)))) && (decide ((l6.getD s2 0) < ((r2.getD s2 ([])).length : Int))))) hg (I (l6.getD s2 0))) (Sl.ix (α := Int) T28.und T28.size aK (by have aa := am.resolve_left (by rw [hg]; decide); have ae := ao.resolve_left (by rw [hg]; decide); have ag := ax.resolve_left (by rw [hg]; decide); have ap := aH.resolve_left (by rw [hg]; decide); first | exact aa | exact aa.1 | exact aa.2 | exact ae | exact ae.1 | exact ae.2 | exact ag | exact ag.1 | exact ag.2 | exact ap | exact ap.1 | exact ap.2 | omega | (have ac := hg; simp at ac; omega)) (by have aa := am.resolve_left (by rw [hg]; decide); have ae := ao.resolve_left (by rw [hg]; decide); have ag := ax.resolve_left (by rw [hg]; decide); have ap := aH.resolve_left (by rw [hg]; decide); first | exact aa | exact aa.1 | exact aa.2 | exact ae | exact ae.1 | exact ae.2 | exact ag | exact ag.1 | exact ag.2 | exact ap | exact ap.1 | exact ap.2 | omega | (have ac := hg; simp at ac; omega))))) ?_
   refine d_qg ((((s3 : Int) != (s2 : Int)) && (decide ((l6.getD s3 0) < ((r2.getD s3 ([])).length : Int)))) && (decide ((l6.getD s2 0) < ((r2.getD s2 ([])).length : Int)))) rfl (gy_t rfl) (fun hg => (fun w' H => x_ld (p := vat aw 1 (Int.toNat (l6.getD s2 0))) (v := I ((r2.getD s2 ([])).getD (Int.toNat (l6.getD s2 0)) 0)) (gd_of (c := ((((s3 : Int) != (s2 : Int)) && (decide ((l6.getD s3 0) < ((r2.getD s3 ([])).length : Int)))) && (decide ((l6.getD s2 0) < ((r2.getD s2 ([])).length : Int))))) hg (vat aw 1 (Int.toNat (l6.getD s2 0)))) (ld_sc Sc3 (At.mono (Int_at aK (i := l6.getD s2 0) (by have aa := am.resolve_left (by rw [hg]; decide); have ae := ao.resolve_left (by rw [hg]; decide); have ag := ax.resolve_left (by rw [hg]; decide); have ap := aH.resolve_left (by rw [hg]; decide); first | exact aa | exact aa.1 | exact aa.2 | exact ae | exact ae.1 | exact ae.2 | exact ag | exact ag.1 | exact ag.2 | exact ap | exact ap.1 | exact ap.2 | omega | (have ac := hg; simp at ac; omega)) (by have aa := am.resolve_left (by rw [hg]; decide); have ae := ao.resolve_left (by rw [hg]; decide); have ag := ax.resolve_left (by rw [hg]; decide); have ap := aH.resolve_left (by rw [hg]; decide); first | exact aa | exact aa.1 | exact aa.2 | exact ae | exact ae.1 | exact ae.2 | exact ag | exact ag.1 | exact ag.2 | exact ap | exact ap.1 | exact ap.2 | omega | (have ac := hg; simp at ac; omega))) (Cells.sup_le (H.ol 1) (roLe _ (H.get (k := 2) rfl))))))) ?_
   refine d_l rfl ?_
   obtain ⟨r3, bV, hM⟩ := M.e_bind hM
   refine t_gcall ((((s3 : Int) != (s2 : Int)) && (decide ((l6.getD s3 0) < ((r2.getD s3 ([])).length : Int)))) && (decide ((l6.getD s2 0) < ((r2.getD s2 ([])).length : Int)))) (gy_t rfl) cf51 (B r3) (fun _ => [Pq al, I ((r2.getD s3 ([])).getD (Int.toNat (l6.getD s3 0)) 0), I ((r2.getD s2 ([])).getD (Int.toNat (l6.getD s2 0)) 0)]) (fun hg => lst3 (gd_of (c := ((((s3 : Int) != (s2 : Int)) && (decide ((l6.getD s3 0) < ((r2.getD s3 ([])).length : Int)))) && (decide ((l6.getD s2 0) < ((r2.getD s2 ([])).length : Int))))) hg (Pq al)) (gd_of (c := ((((s3 : Int) != (s2 : Int)) && (decide ((l6.getD s3 0) < ((r2.getD s3 ([])).length : Int)))) && (decide ((l6.getD s2 0) < ((r2.getD s2 ([])).length : Int))))) hg (I ((r2.getD s3 ([])).getD (Int.toNat (l6.getD s3 0)) 0))) (gd_of (c := ((((s3 : Int) != (s2 : Int)) && (decide ((l6.getD s3 0) < ((r2.getD s3 ([])).length : Int)))) && (decide ((l6.getD s2 0) < ((r2.getD s2 ([])).length : Int))))) hg (I ((r2.getD s2 ([])).getD (Int.toNat (l6.getD s2 0)) 0)))) H (fun hg => (zaq s_Sections s_Marks s_Reaches ((r2.getD s3 ([])).getD (Int.toNat (l6.getD s3 0)) 0) ((r2.getD s2 ([])).getD (Int.toNat (l6.getD s2 0)) 0) (aS.app _) aT (aU.app _) aV (aW.app _) aX (Has.here (k := 3) rfl) (M.e_opt bV hg) _ (H.give (A := []) rfl)).mono fun v_ w_ ⟨y_, aL, bW, H_⟩ => by subst aL; exact ⟨bW, H.via H_⟩) ?_
   intro cI H
   refine s_nil ⟨(H.pk [0, 1, 2, 3, 4, 5]), ?_⟩
   refine d_q rfl (fun w' H => x_pand (b := ((((s3 : Int) != (s2 : Int)) && (decide ((l6.getD s3 0) < ((r2.getD s3 ([])).length : Int)))) && (decide ((l6.getD s2 0) < ((r2.getD s2 ([])).length : Int))))) (r := r3) rfl (fun hb => gd_of (c := ((((s3 : Int) != (s2 : Int)) && (decide ((l6.getD s3 0) < ((r2.getD s3 ([])).length : Int)))) && (decide ((l6.getD s2 0) < ((r2.getD s2 ([])).length : Int))))) (by first | exact hb | (rw [hb]; rfl) | simp_all) (B r3)) rfl) ?_
   refine d_nil ?_
   refine W.cond (((((s3 : Int) != (s2 : Int)) && (decide ((l6.getD s3 0) < ((r2.getD s3 ([])).length : Int)))) && (decide ((l6.getD s2 0) < ((r2.getD s2 ([])).length : Int)))) && r3) rfl (fun bb => ?_) (fun bb => ?_)
   ·replace hM := M.e_t hM bb
    refine W.seq ?_
    refine W.region rfl ?_
    refine zM ab rfl ?_
    refine zM (I (s3 : Int)) rfl ?_
    obtain ⟨bX, hM⟩ := M.e_grd hM
    simp only [Bool.and_eq_true, decide_eq_true_eq] at bX
    refine s_val (x_ix (a := ab) (b := I (s3 : Int)) (v := vat ab 1 (Int.toNat (s3 : Int))) rfl rfl (Sl.ix (α := Int) T28.und T28.size (H.os 0) (by omega) (by omega))) ?_
    refine s_val (x_ld (p := vat ab 1 (Int.toNat (s3 : Int))) (v := I (l6.getD s3 0)) rfl (ld_sc Sc3 (At.mono (Int_at (H.os 0) (i := (s3 : Int)) (by omega) (by omega)) (H.ol 0)))) ?_
    obtain ⟨bY, hM⟩ := M.e_grd hM
    simp only [Bool.and_eq_true, decide_eq_true_eq] at bY
    refine zR (l6.getD s3 0) 1 ((l6.getD s3 0) + 1) rfl rfl rfl (by omega) ?_
    refine s_val (x_ix (a := ab) (b := I (s3 : Int)) (v := vat ab 1 (Int.toNat (s3 : Int))) rfl rfl (Sl.ix (α := Int) T28.und T28.size (H.os 0) (by omega) (by omega))) ?_
    refine t_ost (k := 0) (i := (s3 : Int)) (l := l6) (l' := l6.set s3 ((l6.getD s3 0) + 1 : Int)) (val := I ((l6.getD s3 0) + 1)) (L' := [cOwn (α := Int) 3 ab (l6.set s3 ((l6.getD s3 0) + 1 : Int)), cOwn (α := Raw 0) 28 ah aD, cRo aE, cBlk al [ai, aj, ak, .map (some aq)] 177, cMemI encSpt aq (zaa s_Sections s_Marks s_Reaches), cBlk aA [ai, aj, ak] 27]) H rfl Sz3 (by omega) (by omega) ((l6.getD s3 0) + 1 : Int) rfl rfl rfl rfl rfl ?_
    intro cJ H
    refine s_nil ?_
    refine W.goto ?_
    have bZ := M.e_inr hM ba
    subst bZ
    replace hM := bq
    try dsimp only at hM
    have b3 := M.e_inr hM a7
    subst b3
    replace hM := bo
    try dsimp only at hM
    exact ⟨rfl, bJ, bK, l6.set s3 ((l6.getD s3 0) + 1 : Int), ab, _, upds_of _ _ ⟨rfl, rfl, rfl, trivial⟩, M.e_inl hM bn, H⟩
   replace hM := M.e_f hM bb
   refine W.skip ?_
   refine W.region rfl ?_
   refine zR (s2 : Int) 1 ((s2 : Int) + 1) rfl rfl rfl (by omega) ?_
   refine zM (I ((s2 : Int) + 1)) rfl ?_
   refine s_nil ?_
   exact ⟨bR, bS, s2 + 1, _, upds_of _ _ ⟨rfl, rfl, rfl, rfl, rfl, rfl, rfl, rfl, rfl, rfl, rfl, trivial⟩, M.e_inl hM ba, H⟩
  replace hM := M.e_f hM aN
  simp only [qy1, qy2, qy3, qy4, qy5, qy6, ne_eq, qy7] at aN
  refine W.exit ?_
  have b4 := M.e_inr hM ba
  subst b4
  replace hM := bq
  try dsimp only at hM
  refine W.region rfl ?_
  refine zR (s3 : Int) 1 ((s3 : Int) + 1) rfl rfl rfl (by omega) ?_
  refine zM (I ((s3 : Int) + 1)) rfl ?_
  refine s_nil ?_
  exact ⟨bM, bN, s3 + 1, _, upds_of _ _ ⟨rfl, rfl, rfl, rfl, rfl, rfl, trivial⟩, M.e_inl hM a7, H⟩
 replace hM := M.e_f hM aM
 simp only [qy1, qy2, qy3, qy4, qy5, qy6, ne_eq, qy7] at aM
 refine W.exit ?_
 have b5 := M.e_inr hM a7
 subst b5
 replace hM := bo
 try dsimp only at hM
 refine W.seq ?_
 refine W.region rfl ?_
 refine zA (.slice none 0 0) rfl ?_
 refine s_nil ?_
 refine W.seq ?_
 refine W.seq ?_
 refine W.region rfl ?_
 refine zM ah rfl ?_
 have cK := ((rowSl rfl (H.get (k := 1) rfl) (roLe _ (H.get (k := 2) rfl)) au)).len_le
 refine s_val (x_lenS T38.und rfl (rowSl rfl (H.get (k := 1) rfl) (roLe _ (H.get (k := 2) rfl)) au)) ?_
 refine zM (I 0) rfl ?_
 refine s_nil ?_
 refine W.block ?_
 replace H := H.nilOwn (α := Int) 3
 obtain ⟨b6, bc, b7⟩ := M.e_bind hM
 obtain ⟨aZ, bc⟩ := M.e_iter bc
 refine W.loop (fun m σ W => ∃ (s4 : Nat) (l3 : List Int) (ay : Value) (ρ : Env), σ = upds ρ [(7, ab), (12, ay), (89, ah), (90, I (r2.length : Int)), (91, I (s4 : Int))] /\ M.iterN (zbP r2 l6) m (s4, l3) = some b6 /\ St w W [cOwn (α := Int) 3 ay l3, cOwn (α := Int) 3 ab l6, cOwn (α := Raw 0) 28 ah aD, cRo aE, cBlk al [ai, aj, ak, .map (some aq)] 177, cMemI encSpt aq (zaa s_Sections s_Marks s_Reaches), cBlk aA [ai, aj, ak] 27] R) ?_ ?_
 ·exact ⟨_, 0, [], (.slice none 0 0), _, upds_of _ _ ⟨rfl, rfl, rfl, rfl, rfl, trivial⟩, bc, H⟩
 rintro cL σ cM ⟨s4, l3, ay, ρ, rfl, bt, H⟩
 obtain ⟨bu, bv, cN, hM, bf⟩ := M.e_iterN bt
 simp only [zbP] at hM
 clear bt
 refine W.seq ?_
 refine W.region rfl ?_
 refine zC (s4 : Int) (r2.length : Int) (decide ((s4 : Int) < (r2.length : Int))) rfl rfl rfl ?_
 refine s_nil ?_
 refine W.seq ?_
 refine W.cond (decide ((s4 : Int) < (r2.length : Int))) rfl (fun aO => ?_) (fun aO => ?_)
 ·replace hM := M.e_t hM aO
  simp only [qy1, qy2, qy3, qy4, qy5, qy6, ne_eq, qy7] at aO
  refine W.skip ?_
  refine W.seq ?_
  refine W.block ?_
  refine W.seq ?_
  refine W.region rfl ?_
  refine zM (I (s4 : Int)) rfl ?_
  obtain ⟨b8, hM⟩ := M.e_grd hM
  simp only [Bool.and_eq_true, decide_eq_true_eq] at b8
  refine s_val (x_ix (a := ah) (b := I (s4 : Int)) (v := vat ah 1 (Int.toNat (s4 : Int))) rfl rfl (Sl.ix (α := List Int) T38.und T38.size (rowSl rfl (H.get (k := 2) rfl) (roLe _ (H.get (k := 3) rfl)) au) (by omega) (by omega))) ?_
  obtain ⟨aC, b9, aI⟩ := List_at (rowSl rfl (H.get (k := 2) rfl) (roLe _ (H.get (k := 3) rfl)) au) (i := (s4 : Int)) (by omega) (by omega)
  replace aI : Sl _ aC (r2.getD s4 ([])) := aI
  have cO := aI.len_le
  refine s_val (x_ld (p := vat ah 1 (Int.toNat (s4 : Int))) (v := aC) rfl (ld_sc Sc28 (At.mono (b9) (Cells.sup_le (H.ol 2) (roLe _ (H.get (k := 3) rfl)))))) ?_
  refine zA (I (s4 : Int)) rfl ?_
  refine zA aC rfl ?_
  refine s_nil ?_
  refine W.seq ?_
  refine W.region rfl ?_
  refine zM ab rfl ?_
  refine zM (I (s4 : Int)) rfl ?_
  obtain ⟨cc, hM⟩ := M.e_grd hM
  simp only [Bool.and_eq_true, decide_eq_true_eq] at cc
  refine s_val (x_ix (a := ab) (b := I (s4 : Int)) (v := vat ab 1 (Int.toNat (s4 : Int))) rfl rfl (Sl.ix (α := Int) T28.und T28.size (H.os 1) (by omega) (by omega))) ?_
  refine s_val (x_ld (p := vat ab 1 (Int.toNat (s4 : Int))) (v := I (l6.getD s4 0)) rfl (ld_sc Sc3 (At.mono (Int_at (H.os 1) (i := (s4 : Int)) (by omega) (by omega)) (H.ol 1)))) ?_
  refine zM aC rfl ?_
  have cP := (aI).len_le
  refine s_val (x_lenS T28.und rfl aI) ?_
  refine zC (l6.getD s4 0) ((r2.getD s4 ([])).length : Int) (decide ((l6.getD s4 0) < ((r2.getD s4 ([])).length : Int))) rfl rfl rfl ?_
  refine s_nil ?_
  refine W.cond (decide ((l6.getD s4 0) < ((r2.getD s4 ([])).length : Int))) rfl (fun aP => ?_) (fun aP => ?_)
  ·replace hM := M.e_t hM aP
   simp only [qy1, qy2, qy3, qy4, qy5, qy6, ne_eq, qy7] at aP
   refine W.region rfl ?_
   refine zM ay rfl ?_
   refine zM aC rfl ?_
   refine zM ab rfl ?_
   refine zM (I (s4 : Int)) rfl ?_
   refine s_val (x_ix (a := ab) (b := I (s4 : Int)) (v := vat ab 1 (Int.toNat (s4 : Int))) rfl rfl (Sl.ix (α := Int) T28.und T28.size (H.os 1) (by omega) (by omega))) ?_
   refine s_val (x_ld (p := vat ab 1 (Int.toNat (s4 : Int))) (v := I (l6.getD s4 0)) rfl (ld_sc Sc3 (At.mono (Int_at (H.os 1) (i := (s4 : Int)) (by omega) (by omega)) (H.ol 1)))) ?_
   obtain ⟨cd, hM⟩ := M.e_grd hM
   simp only [Bool.and_eq_true, decide_eq_true_eq] at cd
   refine s_val (x_ix (a := aC) (b := I (l6.getD s4 0)) (v := vat aC 1 (Int.toNat (l6.getD s4 0))) rfl rfl (Sl.ix (α := Int) T28.und T28.size aI (by omega) (by omega))) ?_
   refine s_val (x_ld (p := vat aC 1 (Int.toNat (l6.getD s4 0))) (v := I ((r2.getD s4 ([])).getD (Int.toNat (l6.getD s4 0)) 0)) rfl (ld_sc Sc3 (At.mono (Int_at aI (i := l6.getD s4 0) (by omega) (by omega)) (Cells.sup_le (H.ol 2) (roLe _ (H.get (k := 3) rfl)))))) ?_
   refine t_bs (α := Int) T28 [I ((r2.getD s4 ([])).getD (Int.toNat (l6.getD s4 0)) 0)] [((r2.getD s4 ([])).getD (Int.toNat (l6.getD s4 0)) 0 : Int)] H rfl (.cons rfl (Flat.rep_enc _ ((r2.getD s4 ([])).getD (Int.toNat (l6.getD s4 0)) 0 : Int)) <| .nil) rfl rfl rfl ?_
   intro ce cQ H
   obtain ⟨cf, hM⟩ := M.e_grd hM
   simp only [Bool.and_eq_true, decide_eq_true_eq] at cf
   refine t_app (α := Int) (k := 1) (l := l3) (l2 := [((r2.getD s4 ([])).getD (Int.toNat (l6.getD s4 0)) 0 : Int)]) (l' := l3 ++ ([((r2.getD s4 ([])).getD (Int.toNat (l6.getD s4 0)) 0 : Int)])) (vy := ce) T28 rfl H rfl rfl rfl (H.os 0) (H.ol 0) (rfl) (by first | omega | (simp only [List.length_nil] at *; omega)) ?_
   intro bw cR H
   replace H := H.nf
   refine zA bw rfl ?_
   refine s_nil ?_
   refine W.region rfl ?_
   refine zR (s4 : Int) 1 ((s4 : Int) + 1) rfl rfl rfl (by omega) ?_
   refine zM (I ((s4 : Int) + 1)) rfl ?_
   refine s_nil ?_
   exact ⟨bu, bv, s4 + 1, l3 ++ ([((r2.getD s4 ([])).getD (Int.toNat (l6.getD s4 0)) 0 : Int)]), bw, _, upds_of _ _ ⟨rfl, rfl, rfl, rfl, rfl, trivial⟩, M.e_inl hM bf, (H.pk [1, 2, 3, 4, 5, 6, 7])⟩
  replace hM := M.e_f hM aP
  simp only [qy1, qy2, qy3, qy4, qy5, qy6, ne_eq, qy7] at aP
  refine W.skip ?_
  refine W.region rfl ?_
  refine zR (s4 : Int) 1 ((s4 : Int) + 1) rfl rfl rfl (by omega) ?_
  refine zM (I ((s4 : Int) + 1)) rfl ?_
  refine s_nil ?_
  exact ⟨bu, bv, s4 + 1, l3, ay, _, upds_of _ _ ⟨rfl, rfl, rfl, rfl, rfl, trivial⟩, M.e_inl hM bf, H⟩
 replace hM := M.e_f hM aO
 simp only [qy1, qy2, qy3, qy4, qy5, qy6, ne_eq, qy7] at aO
 refine W.exit ?_
 have cg := M.e_inr hM bf
 subst cg
 replace hM := b7
 try dsimp only at hM
 refine W.seq ?_
 refine W.region rfl ?_
 refine zM ay rfl ?_
 obtain ⟨ch, hM⟩ := M.e_grd hM
 simp only [Bool.and_eq_true, decide_eq_true_eq] at ch
 refine s_call cf52 [ay] rfl (sort_any (H.get (k := 0) rfl) (by omega)) ?_
 rintro _ ci ⟨rfl, bx, bz, bA⟩
 replace H : St w ci [cOwn (α := Int) 3 ay (isort l3), cOwn (α := Int) 3 ab l6, cOwn (α := Raw 0) 28 ah aD, cRo aE, cBlk al [ai, aj, ak, .map (some aq)] 177, cMemI encSpt aq (zaa s_Sections s_Marks s_Reaches), cBlk aA [ai, aj, ak] 27] R := H.sorted (k := 0) rfl bx bz bA rfl
 clear bx bz bA
 refine s_nil ?_
 refine W.seq ?_
 refine W.region rfl ?_
 refine zM ay rfl ?_
 refine zA ay rfl ?_
 refine zA (I 0) rfl ?_
 refine s_nil ?_
 refine W.ret ?_
 have cj := M.e_inr hM bn
 subst cj
 replace hM := bI
 try dsimp only at hM
 have aL := M.e_pure hM
 exact ⟨_, resE_tmp2 rfl, ⟨(isort l3), 0, ay, aL, rfl, (H.pk [0])⟩⟩

def zca (i : Int) (ab : List Sect) (aa : List Mrk) (ac : List Rch) : M Bool :=
  M.bind (zac i 0 ((aa.length : Int) - 1)) fun r2 =>
  M.pure r2
theorem zc0 {R : List Chunk} {ac : Nat} {aa : Nat} {ag : Cells} {ah : Value} {ai : Cells} {ae : Value} {aj : Cells} {ak : Value} {aq : Nat} (i : Int) (al : List Sect) (ab : List Mrk) (am : List Rch) (az : Reads R ag) (aA : Sl ag ah al) (aB : Reads R ai) (ao : Sl ai ae ab) (aC : Reads R aj) (aD : Sl aj ak am) (au : Has R (cBlk aa [ah, ae, ak, .map (some aq)] 177)) (av : Has R (cBlk ac [Pq aa] 112)) {r : Bool} (hM : (zca i al ab am).Ends r) (w : World) (H : St w w [] R) : Ret Tryz.prog 100 #[I i, Pq ac] w fun v w' => ∃ (y0 : Bool), y0 = r /\ v = B y0 /\ St w w' [] R := by
 refine ret_of_W Tryz.func100 rfl rfl rfl ?_
 refine W.seq ?_
 refine W.region rfl ?_
 refine zA (B false) rfl ?_
 refine s_nil ?_
 refine W.seq ?_
 refine W.region rfl ?_
 refine zM (I i) rfl ?_
 refine s_val (x_ld (p := Pq ac) (v := Pq aa) rfl (ldb_sc Sc112 (av.blk H) rfl)) ?_
 refine s_val (x_nc (a := ⟨aa, 0, none⟩) rfl) ?_
 refine s_val (x_fa (a := Pq aa) (v := Pq aa) rfl (fa_blk (o := 0) Fd177_0 Sz27)) ?_
 refine s_val (x_fa (a := Pq aa) (v := Oq aa 1) rfl (fa_blk (o := 0) Fd27_1 Sz24)) ?_
 refine s_val (x_ld (p := Oq aa 1) (v := ae) rfl (ldb_sc Sc24 (au.blk H) rfl)) ?_
 have aE := (ao).len_le
 refine s_val (x_lenS T24.und rfl ao) ?_
 refine zR (ab.length : Int) 1 ((ab.length : Int) - 1) rfl rfl rfl (by omega) ?_
 obtain ⟨aF, aw, hM⟩ := M.e_bind hM
 refine s_call cf70 [I i, I 0, I ((ab.length : Int) - 1)] rfl (zae i 0 ((ab.length : Int) - 1) aw _ (H.gt 0)) ?_
 rintro vq aG ⟨r2, ax, hvq, ap⟩
 subst ax
 subst vq
 try dsimp only at hM
 replace H := H.bk ap
 clear ap
 refine zA (B r2) rfl ?_
 refine s_nil ?_
 refine W.ret ?_
 have ay := M.e_pure hM
 exact ⟨_, resE_tmp rfl, ⟨r2, ay, rfl, H⟩⟩

def zbY (j : Int) (aa : List Sect) (ab : List Mrk) (ac : List Rch) (ae : Int) : M Bool :=
  M.bind (zai aa ab ac ae j) fun r2 =>
  M.bind (M.opt (!r2) (zai aa ab ac j ae) false) fun r3 =>
  M.pure (r2 || r3)
theorem zcQ {R : List Chunk} {ac : Nat} {ab : Nat} {ak : Cells} {al : Value} {am : Cells} {ao : Value} {ap : Cells} {aq : Value} {aE : Nat} {ae : Nat} (j : Int) (ag : List Sect) (ah : List Mrk) (ai : List Rch) (aa : Int) (au : Reads R ak) (av : Sl ak al ag) (aw : Reads R am) (ax : Sl am ao ah) (ay : Reads R ap) (az : Sl ap aq ai) (aA : Has R (cBlk ab [al, ao, aq, .map (some aE)] 177)) (aB : Has R (cBlk ac [Pq ab] 112)) (aC : Has R (cBlk ae [I aa] 3)) {r : Bool} (hM : (zbY j ag ah ai aa).Ends r) (w : World) (H : St w w [] R) : Ret Tryz.prog 101 #[I j, Pq ac, Pq ae] w fun v w' => ∃ (y0 : Bool), y0 = r /\ v = B y0 /\ St w w' [] R := by
 refine ret_of_W Tryz.func101 rfl rfl rfl ?_
 refine W.seq ?_
 refine W.region rfl ?_
 refine zA (B false) rfl ?_
 refine s_nil ?_
 refine W.seq ?_
 refine W.region rfl ?_
 refine s_val (x_ld (p := Pq ac) (v := Pq ab) rfl (ldb_sc Sc112 (aB.blk H) rfl)) ?_
 refine s_val (x_ld (p := Pq ae) (v := I aa) rfl (ldb_sc Sc3 (aC.blk H) rfl)) ?_
 refine zM (I j) rfl ?_
 obtain ⟨aJ, aF, hM⟩ := M.e_bind hM
 refine s_call cf51 [Pq ab, I aa, I j] rfl (zaq ag ah ai aa j (au.app _) av (aw.app _) ax (ay.app _) az (aA.app _) aF _ (H.gt 0)) ?_
 rintro vq aK ⟨r2, aG, hvq, aD⟩
 subst aG
 subst vq
 try dsimp only at hM
 replace H := H.bk aD
 clear aD
 refine zM (B r2) rfl ?_
 refine g_val (!r2) (gy_f rfl) (fun hg => x_ld (p := Pq ac) (v := Pq ab) rfl (ldb_sc Sc112 (aB.blk H) rfl)) ?_
 refine g_val (!r2) (gy_f rfl) (fun hg => x_mv (v := I j) rfl) ?_
 refine g_val (!r2) (gy_f rfl) (fun hg => x_ld (p := Pq ae) (v := I aa) rfl (ldb_sc Sc3 (aC.blk H) rfl)) ?_
 obtain ⟨r3, aH, hM⟩ := M.e_bind hM
 refine t_gcall (!r2) (gy_f rfl) cf51 (B r3) (fun _ => [Pq ab, I j, I aa]) (fun hg => lst3 (gd_of (c := !r2) hg (Pq ab)) (gd_of (c := !r2) hg (I j)) (gd_of (c := !r2) hg (I aa))) H (fun hg => (zaq ag ah ai j aa (au.app _) av (aw.app _) ax (ay.app _) az (aA.app _) (M.e_opt aH hg) _ (H.give (A := []) rfl)).mono fun v_ w_ ⟨y_, aj, aI, H_⟩ => by subst aj; exact ⟨aI, H.via H_⟩) ?_
 intro aL H
 refine s_val (x_por (b := r2) (r := r3) rfl rfl (fun hb => gd_of (c := !r2) (by first | exact hb | (rw [hb]; rfl) | simp_all) (B r3))) ?_
 refine zA (B (r2 || r3)) rfl ?_
 refine s_nil ?_
 refine W.ret ?_
 have aj := M.e_pure hM
 exact ⟨_, resE_tmp rfl, ⟨(r2 || r3), aj, rfl, H⟩⟩

def zbL (aa : List Sect) (ab : List Mrk) (ac : List Rch) (row : List Int) : ((List Bool) × Bool × Nat) -> M (((List Bool) × Bool × Nat) ⊕ (Bool × (List Bool))) := fun (ar, out, s) =>
  bif decide ((s : Int) < (row.length : Int)) then (
  M.grd (decide ((s : Int) < (row.length : Int))) <|
  M.grd (decide ((0 : Int) <= (row.getD s 0)) && decide ((row.getD s 0) < (16 : Int))) <|
  M.bind (M.opt out (zav (row.take s) (fun ae => zbY ae aa ab ac (row.getD s 0))) false) fun r3 =>
  M.pure (.inl (ar.set (Int.toNat (row.getD s 0)) true, (out && r3), s + 1)))
  else (
  M.pure (.inr (out, ar)))
def zcv (aa : List Sect) (ab : List Mrk) (ac : List Rch) (row : List Int) (met : List Bool) : M (Bool × (List Bool)) :=
  M.bind (M.opt (!((row.length : Int) == 0)) (zav row (fun ae => zca ae aa ab ac)) false) fun r2 =>
  bif (((row.length : Int) == 0) || (!r2)) then (
  M.fail)
  else (
  M.bind (M.iter (zbL aa ab ac row) (met, true, 0)) fun (out2, ag) =>
  M.pure (out2, ag))
theorem zcY {R : List Chunk} {ag : Nat} {aI : Cells} {aJ : Value} {aK : Cells} {aL : Value} {aM : Cells} {aN : Value} {aY : Nat} {aO : Cells} {aa : Value} {ac : Nat} (ah : List Sect) (ai : List Mrk) (aj : List Rch) (row : List Int) (met : List Bool) (aP : Reads R aI) (aQ : Sl aI aJ ah) (aR : Reads R aK) (aS : Sl aK aL ai) (aT : Reads R aM) (aU : Sl aM aN aj) (aV : Has R (cBlk ag [aJ, aL, aN, .map (some aY)] 177)) (av : Reads R aO) (ae : Sl aO aa row) (aZ : met.length = 16) {r : (Bool × (List Bool))} (hM : (zcv ah ai aj row met).Ends r) (w : World) (H : St w w [cBlk ac (encB met) 121] R) : Ret Tryz.prog 54 #[Pq ag, aa, Pq ac] w fun v w' => ∃ (y0 : Bool) (y1 : List Bool), (y0, y1) = r /\ v = B y0 /\ St w w' [cBlk ac (encB y1) 121] R /\ y1.length = 16 := by
 refine ret_of_W Tryz.func54 rfl rfl rfl ?_
 refine W.seq ?_
 refine W.region rfl ?_
 refine t_box (v := Pq ag) (cs := [Pq ag]) H rfl rfl ?_
 intro ab br H
 refine zA (B false) rfl ?_
 refine s_nil ?_
 refine W.seq ?_
 refine W.seq ?_
 refine W.region rfl ?_
 refine zM aa rfl ?_
 have bt := (ae).len_le
 refine s_val (x_lenS T28.und rfl ae) ?_
 refine zC (row.length : Int) 0 ((row.length : Int) == 0) rfl rfl rfl ?_
 refine zM (B ((row.length : Int) == 0)) rfl ?_
 refine g_val (!((row.length : Int) == 0)) (gy_f rfl) (fun hg => x_mv (v := aa) rfl) ?_
 refine g_val (!((row.length : Int) == 0)) (gy_f rfl) (fun hg => x_mf (fs := []) (cs := [Pq ab]) rfl rfl) ?_
 obtain ⟨r2, a6, hM⟩ := M.e_bind hM
 refine t_gcall (!((row.length : Int) == 0)) (gy_f rfl) cf99 (B r2) (fun _ => [aa, .func (.func 100) #[] #[Pq ab]]) (fun hg => lst2 (gd_of (c := !((row.length : Int) == 0)) hg (aa)) (gd_of (c := !((row.length : Int) == 0)) hg (.func (.func 100) #[] #[Pq ab]))) H (fun hg => (zbp row (fun ak => zca ak ah ai aj) (av.app _) ae ⟨100, [Pq ab], rfl, cf100, fun ao a7 a8 aw ak ba ax bb ay az => by obtain rfl := Arg.int ay; exact (zc0 ak ah ai aj (Reads.app (aP.app _) _) aQ (Reads.app (aR.app _) _) aS (Reads.app (aT.app _) _) aU (Has.app (aV.app _) _) (Has.app (Has.here (k := 0) rfl) _) az ao (St.refl ax)).mono fun aw ao ⟨bc, aA, aB, aC⟩ => by subst aA; exact ⟨aB, aC⟩⟩ (M.e_opt a6 hg) _ (H.give (A := []) rfl)).mono fun v_ w_ ⟨y_, ap, aD, H_⟩ => by subst ap; exact ⟨aD, H.via H_⟩) ?_
 intro bu H
 refine g_val (!((row.length : Int) == 0)) (gy_f rfl) (fun hg => x_not (b := r2) (gd_of (c := !((row.length : Int) == 0)) hg (B r2))) ?_
 refine s_val (x_por (b := (row.length : Int) == 0) (r := !r2) rfl rfl (fun hb => gd_of (c := !((row.length : Int) == 0)) (by first | exact hb | (rw [hb]; rfl) | simp_all) (B (!r2)))) ?_
 refine s_nil ?_
 refine W.cond (((row.length : Int) == 0) || (!r2)) rfl (fun aE => ?_) (fun aE => ?_)
 ·replace hM := M.e_t hM aE
  refine W.region rfl ?_
  exact (M.e_fail hM).elim
 replace hM := M.e_f hM aE
 refine W.skip ?_
 refine W.seq ?_
 refine W.region rfl ?_
 refine zA (B true) rfl ?_
 refine s_nil ?_
 refine W.seq ?_
 refine W.seq ?_
 refine W.region rfl ?_
 refine zM aa rfl ?_
 have bv := (ae).len_le
 refine s_val (x_lenS T28.und rfl ae) ?_
 refine zM (I 0) rfl ?_
 refine s_nil ?_
 refine W.block ?_
 obtain ⟨bf, aF, bg⟩ := M.e_bind hM
 obtain ⟨bw, aF⟩ := M.e_iter aF
 refine W.loop (fun m σ W => ∃ (ar : List Bool) (out : Bool) (s : Nat) (ρ : Env), σ = upds ρ [(1, aa), (2, Pq ac), (3, Pq ab), (7, B out), (21, aa), (22, I (row.length : Int)), (23, I (s : Int))] /\ M.iterN (zbL ah ai aj row) m (ar, out, s) = some bf /\ St w W [cBlk ab [Pq ag] 112, cBlk ac (encB ar) 121] R /\ ar.length = 16) ?_ ?_
 ·exact ⟨_, met, true, 0, _, upds_of _ _ ⟨rfl, rfl, rfl, rfl, rfl, rfl, rfl, trivial⟩, aF, H, aZ⟩
 rintro bx σ bz ⟨ar, out, s, ρ, rfl, aW, H, aG⟩
 obtain ⟨bh, bi, bA, hM, aX⟩ := M.e_iterN aW
 simp only [zbL] at hM
 clear aW
 refine W.seq ?_
 refine W.region rfl ?_
 refine zC (s : Int) (row.length : Int) (decide ((s : Int) < (row.length : Int))) rfl rfl rfl ?_
 refine s_nil ?_
 refine W.seq ?_
 refine W.cond (decide ((s : Int) < (row.length : Int))) rfl (fun aq => ?_) (fun aq => ?_)
 ·replace hM := M.e_t hM aq
  simp only [qy1, qy2, qy3, qy4, qy5, qy6, ne_eq, qy7] at aq
  refine W.skip ?_
  refine W.seq ?_
  refine W.block ?_
  refine W.seq ?_
  refine W.region rfl ?_
  refine zM (I (s : Int)) rfl ?_
  obtain ⟨bj, hM⟩ := M.e_grd hM
  simp only [Bool.and_eq_true, decide_eq_true_eq] at bj
  refine s_val (x_ix (a := aa) (b := I (s : Int)) (v := vat aa 1 (Int.toNat (s : Int))) rfl rfl (Sl.ix (α := Int) T28.und T28.size ae (by omega) (by omega))) ?_
  refine s_val (x_ld (p := vat aa 1 (Int.toNat (s : Int))) (v := I (row.getD s 0)) rfl (ld_sc Sc3 (At.mono (Int_at ae (i := (s : Int)) (by omega) (by omega)) (av.at H)))) ?_
  refine t_alloc (cs := [I 0]) H Al3 rfl ?_
  intro al bB H
  refine zA (I (s : Int)) rfl ?_
  refine t_sw 0 0 [I (row.getD s 0)] (I (row.getD s 0)) H rfl rfl Sz3 rfl rfl rfl rfl ?_
  intro bC H
  refine s_nil ?_
  refine W.seq ?_
  refine W.draw (fun W => St w W [cBlk al [I (row.getD s 0)] 3, cBlk ab [Pq ag] 112] R) [(0, true), (1, true), (2, true), (3, true), (4, false)] mixed (by decide +kernel) rfl ?_
  intro bD am
  replace H := H.ext am
  clear am
  refine ⟨(H.pk [0, 1]), ?_⟩
  refine d_q rfl (fun w' H => x_mv (v := Pq ac) rfl) ?_
  refine d_q rfl (fun w' H => x_ld (p := Pq al) (v := I (row.getD s 0)) rfl (ldb_sc Sc3 (H.bl 0) rfl)) ?_
  refine d_q rfl (fun w' H => x_nc (a := ⟨ac, 0, none⟩) rfl) ?_
  obtain ⟨bm, hM⟩ := M.e_grd hM
  simp only [Bool.and_eq_true, decide_eq_true_eq] at bm
  refine d_q rfl (fun w' H => x_ix (a := Pq ac) (b := I (row.getD s 0)) (v := .pointer (some ⟨ac, 0 + Int.toNat (row.getD s 0), none⟩)) rfl rfl (run_indexArr Tryz.underlying121 Sz4 (by omega) (by omega))) ?_
  refine d_l rfl ?_
  refine t_stArr (k := 2) (b := ac) (l := ar) (l' := ar.set (Int.toNat (row.getD s 0)) true) (i := row.getD s 0) (v := true) (L' := [cBlk al [I (row.getD s 0)] 3, cBlk ab [Pq ag] 112, cBlk ac (encB (ar.set (Int.toNat (row.getD s 0)) true)) 121]) H rfl rfl rfl Sz4 (by omega) (by have bE := aG; omega) rfl rfl ?_
  intro bF H
  have bn : (ar.set (Int.toNat (row.getD s 0)) true).length = 16 := List.length_set.trans aG
  refine s_nil ⟨(H.pk [0, 1]), ?_⟩
  refine d_nil ?_
  refine W.region rfl ?_
  refine zM (B out) rfl ?_
  refine zM (B out) rfl ?_
  refine g_val out (gy_t rfl) (fun hg => x_mv (v := aa) rfl) ?_
  refine g_val out (gy_t rfl) (fun hg => x_mv (v := I (s : Int)) rfl) ?_
  obtain ⟨au, bo, aH⟩ := gd_ex (c := out) fun hg => sl_hi T28.und T28.size ae (j := (s : Int)) (by first | omega | (have am := hg; simp at am; omega)) (by first | omega | (have am := hg; simp at am; omega))
  replace aH : out = true -> Sl _ au (row.take s) := aH
  refine g_val out (gy_t rfl) (fun hg => x_sl (v := aa) (u := au) (lo' := none) (hi' := some (I (s : Int))) (mx' := none) (gd_of (c := out) hg (aa)) rfl (congrArg some (gd_of (c := out) hg (I (s : Int)))) rfl (bo hg _)) ?_
  refine g_val out (gy_t rfl) (fun hg => x_mf (fs := []) (cs := [Pq ab, Pq al]) rfl rfl) ?_
  obtain ⟨r3, bp, hM⟩ := M.e_bind hM
  refine t_gcall out (gy_t rfl) cf99 (B r3) (fun _ => [au, .func (.func 101) #[] #[Pq ab, Pq al]]) (fun hg => lst2 (gd_of (c := out) hg (au)) (gd_of (c := out) hg (.func (.func 101) #[] #[Pq ab, Pq al]))) H (fun hg => (zbp (row.take s) (fun ak => zbY ak ah ai aj (row.getD s 0)) (av.app _) (aH hg) ⟨101, [Pq ab, Pq al], rfl, cf101, fun ao a7 a8 aw ak ba ax bb ay az => by obtain rfl := Arg.int ay; exact (zcQ ak ah ai aj (row.getD s 0) (Reads.app (aP.app _) _) aQ (Reads.app (aR.app _) _) aS (Reads.app (aT.app _) _) aU (Has.app (aV.app _) _) (Has.app (Has.here (k := 1) rfl) _) (Has.app (Has.here (k := 0) rfl) _) az ao (St.refl ax)).mono fun aw ao ⟨bc, aA, aB, aC⟩ => by subst aA; exact ⟨aB, aC⟩⟩ (M.e_opt bp hg) _ (H.give (A := []) rfl)).mono fun v_ w_ ⟨y_, ap, aD, H_⟩ => by subst ap; exact ⟨aD, H.via H_⟩) ?_
  intro bG H
  refine s_val (x_pand (b := out) (r := r3) rfl (fun hb => gd_of (c := out) (by first | exact hb | (rw [hb]; rfl) | simp_all) (B r3)) rfl) ?_
  refine zA (B (out && r3)) rfl ?_
  refine s_nil ?_
  refine W.region rfl ?_
  refine zR (s : Int) 1 ((s : Int) + 1) rfl rfl rfl (by omega) ?_
  refine zM (I ((s : Int) + 1)) rfl ?_
  refine s_nil ?_
  exact ⟨bh, bi, ar.set (Int.toNat (row.getD s 0)) true, (out && r3), s + 1, _, upds_of _ _ ⟨rfl, rfl, rfl, rfl, rfl, rfl, rfl, trivial⟩, M.e_inl hM aX, (H.pk [1, 2]), bn⟩
 replace hM := M.e_f hM aq
 simp only [qy1, qy2, qy3, qy4, qy5, qy6, ne_eq, qy7] at aq
 refine W.exit ?_
 have bq := M.e_inr hM aX
 subst bq
 replace hM := bg
 try dsimp only at hM
 refine W.seq ?_
 refine W.region rfl ?_
 refine zM (B out) rfl ?_
 refine zA (B out) rfl ?_
 refine s_nil ?_
 refine W.ret ?_
 have ap := M.e_pure hM
 exact ⟨_, resE_tmp rfl, ⟨out, ar, ap, rfl, (H.pk [1]), aG⟩⟩

def zbD (s : List Bool) (f : Bool -> M Bool) : Nat -> M (Nat ⊕ (Int ⊕ Unit)) := fun s2 =>
  bif decide ((s2 : Int) < (s.length : Int)) then (
  M.grd (decide ((s2 : Int) < (s.length : Int))) <|
  M.bind (f (s.getD s2 false)) fun r2 =>
  bif r2 then (
  M.pure (.inr (.inl (s2 : Int))))
  else (
  M.pure (.inl (s2 + 1))))
  else (
  M.pure (.inr (.inr ())))
def zcl (s : List Bool) (f : Bool -> M Bool) : M Int :=
  M.bind (M.iter (zbD s f) 0) fun x_ => match x_ with
  | (.inl s3) => (
  M.pure s3)
  | (.inr (_ : Unit)) => (
  M.pure (-1))
theorem zcD {R : List Chunk} {ak : Cells} {aa : Value} {ac : Value} (s : List Bool) (f : Bool -> M Bool) (ao : Reads R ak) (ae : Sl ak aa s) (ap : FnM Tryz.prog R ac f) {r : Int} (hM : (zcl s f).Ends r) (w : World) (H : St w w [] R) : Ret Tryz.prog 134 #[aa, ac] w fun v w' => ∃ (y0 : Int), y0 = r /\ v = I y0 /\ St w w' [] R := by
 refine ret_of_W Tryz.func134 rfl rfl rfl ?_
 refine W.seq ?_
 refine W.region rfl ?_
 refine zA (I 0) rfl ?_
 refine s_nil ?_
 refine W.seq ?_
 refine W.seq ?_
 refine W.region rfl ?_
 refine zM aa rfl ?_
 have aA := (ae).len_le
 refine s_val (x_lenS T59.und rfl ae) ?_
 refine zM (I 0) rfl ?_
 refine s_nil ?_
 refine W.block ?_
 obtain ⟨aq, ag, al⟩ := M.e_bind hM
 obtain ⟨aB, ag⟩ := M.e_iter ag
 refine W.loop (fun m σ W => ∃ (s2 : Nat) (ρ : Env), σ = upds ρ [(0, aa), (1, ac), (7, I (s.length : Int)), (8, I (s2 : Int))] /\ M.iterN (zbD s f) m s2 = some aq /\ St w W [] R) ?_ ?_
 ·exact ⟨_, 0, _, upds_of _ _ ⟨rfl, rfl, rfl, rfl, trivial⟩, ag, H⟩
 rintro aC σ aD ⟨s2, ρ, rfl, am, H⟩
 obtain ⟨au, av, aE, hM, ah⟩ := M.e_iterN am
 simp only [zbD] at hM
 clear am
 refine W.seq ?_
 refine W.region rfl ?_
 refine zC (s2 : Int) (s.length : Int) (decide ((s2 : Int) < (s.length : Int))) rfl rfl rfl ?_
 refine s_nil ?_
 refine W.seq ?_
 refine W.cond (decide ((s2 : Int) < (s.length : Int))) rfl (fun ab => ?_) (fun ab => ?_)
 ·replace hM := M.e_t hM ab
  simp only [qy1, qy2, qy3, qy4, qy5, qy6, ne_eq, qy7] at ab
  refine W.skip ?_
  refine W.seq ?_
  refine W.block ?_
  refine W.seq ?_
  refine W.region rfl ?_
  refine zM (I (s2 : Int)) rfl ?_
  refine zA (I (s2 : Int)) rfl ?_
  refine s_nil ?_
  refine W.seq ?_
  refine W.region rfl ?_
  refine zM ac rfl ?_
  refine zM aa rfl ?_
  refine zM (I (s2 : Int)) rfl ?_
  obtain ⟨aw, hM⟩ := M.e_grd hM
  simp only [Bool.and_eq_true, decide_eq_true_eq] at aw
  refine s_val (x_ix (a := aa) (b := I (s2 : Int)) (v := vat aa 1 (Int.toNat (s2 : Int))) rfl rfl (Sl.ix (α := Bool) T59.und T59.size ae (by omega) (by omega))) ?_
  refine s_val (x_ld (p := vat aa 1 (Int.toNat (s2 : Int))) (v := B (s.getD s2 false)) rfl (ld_sc Sc4 (At.mono (Bool_at ae (i := (s2 : Int)) (by omega) (by omega)) (ao.at H)))) ?_
  obtain ⟨r2, ax, hM⟩ := M.e_bind hM
  refine t_callM H ap rfl rfl (s.getD s2 false) Reads.none (show Arg (fun _ => none) (B (s.getD s2 false)) (s.getD s2 false) from ⟨[B (s.getD s2 false)], rfl, rfl⟩) ax ?_
  intro aF H
  refine s_nil ?_
  refine W.cond r2 rfl (fun ai => ?_) (fun ai => ?_)
  ·replace hM := M.e_t hM ai
   refine W.seq ?_
   refine W.region rfl ?_
   refine zM (I (s2 : Int)) rfl ?_
   refine zA (I (s2 : Int)) rfl ?_
   refine s_nil ?_
   refine W.ret ?_
   have ay := M.e_inr hM ah
   subst ay
   replace hM := al
   try dsimp only at hM
   have aj := M.e_pure hM
   exact ⟨_, resE_tmp rfl, ⟨(s2 : Int), aj, rfl, H⟩⟩
  replace hM := M.e_f hM ai
  refine W.skip ?_
  refine W.region rfl ?_
  refine zR (s2 : Int) 1 ((s2 : Int) + 1) rfl rfl rfl (by omega) ?_
  refine zM (I ((s2 : Int) + 1)) rfl ?_
  refine s_nil ?_
  exact ⟨au, av, s2 + 1, _, upds_of _ _ ⟨rfl, rfl, rfl, rfl, trivial⟩, M.e_inl hM ah, H⟩
 replace hM := M.e_f hM ab
 simp only [qy1, qy2, qy3, qy4, qy5, qy6, ne_eq, qy7] at ab
 refine W.exit ?_
 have az := M.e_inr hM ah
 subst az
 replace hM := al
 try dsimp only at hM
 refine W.seq ?_
 refine W.region rfl ?_
 refine zA (I (-1)) rfl ?_
 refine s_nil ?_
 refine W.ret ?_
 have aj := M.e_pure hM
 exact ⟨_, resE_tmp rfl, ⟨(-1), aj, rfl, H⟩⟩

def zcz (s : List Bool) (f : Bool -> M Bool) : M Bool :=
  M.bind (zcl s f) fun r2 =>
  M.pure (decide (0 <= r2))
theorem zcK {R : List Chunk} {ac : Cells} {aa : Value} {ab : Value} (s : List Bool) (f : Bool -> M Bool) (ag : Reads R ac) (ah : Sl ac aa s) (ai : FnM Tryz.prog R ab f) {r : Bool} (hM : (zcz s f).Ends r) (w : World) (H : St w w [] R) : Ret Tryz.prog 102 #[aa, ab] w fun v w' => ∃ (y0 : Bool), y0 = r /\ v = B y0 /\ St w w' [] R := by
 refine ret_of_W Tryz.func102 rfl rfl rfl ?_
 refine W.seq ?_
 refine W.region rfl ?_
 refine zA (B false) rfl ?_
 refine s_nil ?_
 refine W.seq ?_
 refine W.region rfl ?_
 refine zM aa rfl ?_
 refine zM ab rfl ?_
 obtain ⟨am, aj, hM⟩ := M.e_bind hM
 refine s_call cf134 [aa, ab] rfl (zcD s f (ag.app _) ah (ai.app _) aj _ (H.gt 0)) ?_
 rintro vq ao ⟨r2, ak, hvq, ae⟩
 subst ak
 subst vq
 try dsimp only at hM
 replace H := H.bk ae
 clear ae
 refine zC r2 0 (decide (0 <= r2)) rfl rfl rfl ?_
 refine zA (B (decide (0 <= r2))) rfl ?_
 refine s_nil ?_
 refine W.ret ?_
 have al := M.e_pure hM
 exact ⟨_, resE_tmp rfl, ⟨(decide (0 <= r2)), al, rfl, H⟩⟩

def zb7 (x : Bool) (aa : Bool -> M Bool) : M Bool :=
  M.bind (aa x) fun r2 =>
  M.pure (!r2)
theorem zc1 {R : List Chunk} {aa : Nat} {ab : Value} (x : Bool) (ac : Bool -> M Bool) (ae : FnM Tryz.prog R ab ac) (ag : Has R (cBlk aa [ab] 125)) {r : Bool} (hM : (zb7 x ac).Ends r) (w : World) (H : St w w [] R) : Ret Tryz.prog 103 #[B x, Pq aa] w fun v w' => ∃ (y0 : Bool), y0 = r /\ v = B y0 /\ St w w' [] R := by
 refine ret_of_W Tryz.func103 rfl rfl rfl ?_
 refine W.seq ?_
 refine W.region rfl ?_
 refine zA (B false) rfl ?_
 refine s_nil ?_
 refine W.seq ?_
 refine W.region rfl ?_
 refine s_val (x_ld (p := Pq aa) (v := ab) rfl (ldb_sc Sc125 (ag.blk H) rfl)) ?_
 refine zM (B x) rfl ?_
 obtain ⟨r2, ah, hM⟩ := M.e_bind hM
 refine t_callM H ae rfl rfl x Reads.none (show Arg (fun _ => none) (B x) x from ⟨[B x], rfl, rfl⟩) ah ?_
 intro aj H
 refine s_val (x_not (b := r2) rfl) ?_
 refine zA (B (!r2)) rfl ?_
 refine s_nil ?_
 refine W.ret ?_
 have ai := M.e_pure hM
 exact ⟨_, resE_tmp rfl, ⟨(!r2), ai, rfl, H⟩⟩

def zcg (l : List Bool) (so : Bool -> M Bool) : M Bool :=
  M.bind (zcz l (fun aa => zb7 aa so)) fun r2 =>
  M.pure (!r2)
theorem zdm {R : List Chunk} {ag : Cells} {aa : Value} {ab : Value} (l : List Bool) (so : Bool -> M Bool) (ak : Reads R ag) (al : Sl ag aa l) (ah : FnM Tryz.prog R ab so) {r : Bool} (hM : (zcg l so).Ends r) (w : World) (H : St w w [] R) : Ret Tryz.prog 55 #[aa, ab] w fun v w' => ∃ (y0 : Bool), y0 = r /\ v = B y0 /\ St w w' [] R := by
 refine ret_of_W Tryz.func55 rfl rfl rfl ?_
 refine W.seq ?_
 refine W.region rfl ?_
 refine t_box (v := ab) (cs := [ab]) H rfl (FnM.cells ah) ?_
 intro ac aA H
 refine zA (B false) rfl ?_
 refine s_nil ?_
 refine W.seq ?_
 refine W.region rfl ?_
 refine zM aa rfl ?_
 refine s_val (x_mf (fs := []) (cs := [Pq ac]) rfl rfl) ?_
 obtain ⟨aB, am, hM⟩ := M.e_bind hM
 refine s_call cf102 [aa, .func (.func 103) #[] #[Pq ac]] rfl (zcK l (fun ae => zb7 ae so) (ak.app _) al ⟨103, [Pq ac], rfl, cf103, fun ai aC aD ao ae aE ap aF aq au => by obtain ⟨_, rfl, rfl⟩ := aq; exact (zc1 ae so (FnM.app (ah.app _) _) (Has.app (Has.here (k := 0) rfl) _) au ai (St.refl ap)).mono fun ao ai ⟨aG, av, aw, ax⟩ => by subst av; exact ⟨aw, ax⟩⟩ am _ (H.gt 1)) ?_
 rintro vq aH ⟨r2, ay, hvq, aj⟩
 subst ay
 subst vq
 try dsimp only at hM
 replace H := H.bk aj
 clear aj
 refine s_val (x_not (b := r2) rfl) ?_
 refine zA (B (!r2)) rfl ?_
 refine s_nil ?_
 refine W.ret ?_
 have az := M.e_pure hM
 exact ⟨_, resE_tmp rfl, ⟨(!r2), az, rfl, (H.pk [])⟩⟩

def zce (x : Bool) : M Bool :=
  M.pure x
theorem zdo {R : List Chunk}  (x : Bool)  {r : Bool} (hM : (zce x).Ends r) (w : World) (H : St w w [] R) : Ret Tryz.prog 56 #[B x] w fun v w' => ∃ (y0 : Bool), y0 = r /\ v = B y0 /\ St w w' [] R := by
 refine ret_of_W Tryz.func56 rfl rfl rfl ?_
 refine W.seq ?_
 refine W.region rfl ?_
 refine zA (B false) rfl ?_
 refine s_nil ?_
 refine W.seq ?_
 refine W.region rfl ?_
 refine zM (B x) rfl ?_
 refine zA (B x) rfl ?_
 refine s_nil ?_
 refine W.ret ?_
 have aa := M.e_pure hM
 exact ⟨_, resE_tmp rfl, ⟨x, aa, rfl, H⟩⟩

def zbG (s_Sections : List Sect) (s_Marks : List Mrk) (s_Reaches : List Rch) (rows : List (List Int)) : (Bool × (List Bool) × Nat) -> M ((Bool × (List Bool) × Nat) ⊕ (Bool × (List Bool))) := fun (s2, ar, s3) =>
  bif decide ((s3 : Int) < (rows.length : Int)) then (
  M.grd (decide ((s3 : Int) < (rows.length : Int))) <|
  M.bind (zcv s_Sections s_Marks s_Reaches (rows.getD s3 ([])) ar) fun (r2, aa) =>
  bif !r2 then (
  M.pure (.inl (false, aa, s3 + 1)))
  else (
  M.pure (.inl (s2, aa, s3 + 1))))
  else (
  M.pure (.inr (s2, ar)))
def zcn (s_Sections : List Sect) (s_Marks : List Mrk) (s_Reaches : List Rch) (many : Int) (rows : List (List Int)) : M (Bool × Int) :=
  M.bind (zao s_Sections s_Marks s_Reaches) fun x_ => match x_ with
  | (.inl r1) => (
  bif r1 != 0 then (
  M.pure (false, r1))
  else (
  M.fail))
  | (.inr aa) => (
  bif aa != 0 then (
  M.fail)
  else (
  bif decide (16 < (rows.length : Int)) then (
  M.pure (false, 3))
  else (
  M.bind (M.iter (zbG s_Sections s_Marks s_Reaches rows) (decide ((rows.length : Int) <= many), List.replicate 16 false, 0)) fun (s4, ab) =>
  M.grd ((!s4 || (decide ((0 : Int) <= (s_Marks.length : Int)) && decide ((s_Marks.length : Int) <= (16 : Int))))) <|
  M.bind (M.opt s4 (zcg (ab.take (Int.toNat (s_Marks.length : Int))) (fun ac => zce ac)) false) fun r3 =>
  M.pure ((s4 && r3), 0))))
theorem zcV {R : List Chunk} {aH : Cells} {ae : Value} {aI : Cells} {ab : Value} {aJ : Cells} {ag : Value} {aK : Cells} {aj : Value} (s_Sections : List Sect) (s_Marks : List Mrk) (s_Reaches : List Rch) (many : Int) (rows : List (List Int)) (aL : Reads R aH) (aM : Sl aH ae s_Sections) (aN : Reads R aI) (az : Sl aI ab s_Marks) (aO : Reads R aJ) (aP : Sl aJ ag s_Reaches) (aQ : Reads R aK) (am : Sl aK aj rows) {r : (Bool × Int)} (hM : (zcn s_Sections s_Marks s_Reaches many rows).Ends r) (w : World) (H : St w w [] R) : Ret Tryz.prog 12 #[.agg #[ae, ab, ag], I many, aj] w fun v w' => ∃ (y0 : Bool) (y1 : Int), (y0, y1) = r /\ v = .tuple #[B y0, I y1] /\ St w w' [] R := by
 refine ret_of_WB Tryz.func12 rfl rfl rfl ?_
 refine WB.seq ?_
 refine W.region rfl ?_
 refine t_box (v := .agg #[ae, ab, ag]) (cs := [ae, ab, ag]) H rfl rfl ?_
 intro ao bI H
 refine t_alloc (cs := [B false]) H Al4 rfl ?_
 intro au bJ H
 refine t_alloc (cs := [I 0]) H Al35 rfl ?_
 intro ah bK H
 refine s_nil ?_
 refine WB.seq ?_
 refine W.region rfl ?_
 refine s_val (x_ld (p := Pq ao) (v := .agg #[ae, ab, ag]) rfl (ldb_ag (ds := [ae, ab, ag]) Ag27 Sz27 (H.bl 2) rfl rfl)) ?_
 obtain ⟨bL, aZ, hM⟩ := M.e_bind hM
 refine s_call cf49 [.agg #[ae, ab, ag]] rfl (zaK s_Sections s_Marks s_Reaches (aL.app _) aM (aN.app _) az (aO.app _) aP aZ _ (H.gt 3)) ?_
 rintro vq bM (⟨r1, a6, hvq, ap⟩ | ⟨ac, ak, aR, a7, hvq, ap⟩)
 ·subst a6
  subst vq
  try dsimp only at hM
  replace H := H.bk ap
  clear ap
  refine zM (.tuple #[.pointer none, I r1]) rfl ?_
  refine zX [.pointer none, I r1] (.pointer none) rfl rfl ?_
  refine zX [.pointer none, I r1] (I r1) rfl rfl ?_
  refine zA (.pointer none) rfl ?_
  refine t_sw 0 0 [I r1] (I r1) H rfl rfl Sz35 rfl rfl rfl rfl ?_
  intro bN H
  refine s_nil ?_
  refine WB.seq ?_
  refine W.block ?_
  refine W.seq ?_
  refine W.region rfl ?_
  refine s_val (x_ld (p := Pq ah) (v := I r1) rfl (ldb_sc Sc35 (H.bl 0) rfl)) ?_
  refine zC r1 0 (r1 != 0) rfl rfl rfl ?_
  refine zA (B (r1 != 0)) rfl ?_
  refine s_nil ?_
  refine W.cond (r1 != 0) rfl (fun aA => ?_) (fun aA => ?_)
  ·replace hM := M.e_t hM aA
   simp only [qy1, qy2, qy3, qy4, qy5, qy6, ne_eq, qy7] at aA
   refine W.seq ?_
   refine W.drawT (fun W => St w W [cBlk ao [ae, ab, ag] 27] R) (.l2 0 (.l 1 (.l 2 .nil)) 1 (.l 0 (.l 2 .nil))) mixed (by decide +kernel) rfl ?_
   intro bO ai
   replace H := H.ext ai
   clear ai
   refine ⟨(H.pk [2]), ?_⟩
   refine t_l2 rfl rfl ?_ ?_
   ·skip
    refine s_val (x_ld (p := Pq ah) (v := I r1) rfl (ldb_sc Sc35 (H.bl 0) rfl)) ?_
    refine s_nil ⟨(H.pk [2]), ?_⟩
    refine t_l rfl ?_
    refine t_sw 1 0 [B false] (B false) H rfl rfl Sz4 rfl rfl rfl rfl ?_
    intro bP H
    refine s_nil ⟨(H.pk [2]), ?_⟩
    refine t_l rfl ?_
    refine t_sw 0 0 [I r1] (I r1) H rfl rfl Sz35 rfl rfl rfl rfl ?_
    intro bQ H
    refine s_nil ⟨(H.pk [2]), ?_⟩
    refine t_nil ?_
    refine W.ret ?_
    have a8 := (H.bl 1)
    have ba := (H.bl 0)
    have al := M.e_pure hM
    exact ⟨_, (resE_ofn (vs := [B false, I r1]) rfl rfl (.cell (v := B false) rfl (run_loadVar_sc Sc4 a8 rfl) <| .cell (v := I r1) rfl (run_loadVar_sc Sc35 ba rfl) <| .nil)), ⟨false, r1, al, rfl, (H.pk [])⟩⟩
   skip
   refine t_sw 1 0 [B false] (B false) H rfl rfl Sz4 rfl rfl rfl rfl ?_
   intro bR H
   refine s_nil ⟨(H.pk [2]), ?_⟩
   refine t_l rfl ?_
   refine s_val (x_ld (p := Pq ah) (v := I r1) rfl (ldb_sc Sc35 (H.bl 0) rfl)) ?_
   refine s_nil ⟨(H.pk [2]), ?_⟩
   refine t_l rfl ?_
   refine t_sw 0 0 [I r1] (I r1) H rfl rfl Sz35 rfl rfl rfl rfl ?_
   intro bS H
   refine s_nil ⟨(H.pk [2]), ?_⟩
   refine t_nil ?_
   refine W.ret ?_
   have bb := (H.bl 1)
   have bc := (H.bl 0)
   have al := M.e_pure hM
   exact ⟨_, (resE_ofn (vs := [B false, I r1]) rfl rfl (.cell (v := B false) rfl (run_loadVar_sc Sc4 bb rfl) <| .cell (v := I r1) rfl (run_loadVar_sc Sc35 bc rfl) <| .nil)), ⟨false, r1, al, rfl, (H.pk [])⟩⟩
  replace hM := M.e_f hM aA
  exact (M.e_fail hM).elim
 subst a7
 subst vq
 try dsimp only at hM
 replace H := H.bk ap
 clear ap
 refine zM (.tuple #[Pq ak, I ac]) rfl ?_
 refine zX [Pq ak, I ac] (Pq ak) rfl rfl ?_
 refine zX [Pq ak, I ac] (I ac) rfl rfl ?_
 refine zA (Pq ak) rfl ?_
 refine t_sw 2 0 [I ac] (I ac) H rfl rfl Sz35 rfl rfl rfl rfl ?_
 intro bT H
 refine s_nil ?_
 refine WB.seq ?_
 refine W.block ?_
 refine W.seq ?_
 refine W.region rfl ?_
 refine s_val (x_ld (p := Pq ah) (v := I ac) rfl (ldb_sc Sc35 (H.bl 2) rfl)) ?_
 refine zC ac 0 (ac != 0) rfl rfl rfl ?_
 refine zA (B (ac != 0)) rfl ?_
 refine s_nil ?_
 refine W.cond (ac != 0) rfl (fun aB => ?_) (fun aB => ?_)
 ·replace hM := M.e_t hM aB
  exact (M.e_fail hM).elim
 replace hM := M.e_f hM aB
 simp only [qy1, qy2, qy3, qy4, qy5, qy6, ne_eq, qy7] at aB
 refine W.seq ?_
 refine W.region rfl ?_
 refine zM aj rfl ?_
 have bU := (am).len_le
 refine s_val (x_lenS T38.und rfl am) ?_
 refine zC (rows.length : Int) 16 (decide (16 < (rows.length : Int))) rfl rfl rfl ?_
 refine zA (B (decide (16 < (rows.length : Int)))) rfl ?_
 refine s_nil ?_
 refine W.cond (decide (16 < (rows.length : Int))) rfl (fun aw => ?_) (fun aw => ?_)
 ·replace hM := M.e_t hM aw
  simp only [qy1, qy2, qy3, qy4, qy5, qy6, ne_eq, qy7] at aw
  refine W.seq ?_
  refine W.region rfl ?_
  refine t_sw 3 0 [B false] (B false) H rfl rfl Sz4 rfl rfl rfl rfl ?_
  intro bV H
  refine t_sw 2 0 [I 3] (I 3) H rfl rfl Sz35 rfl rfl rfl rfl ?_
  intro bW H
  refine s_nil ?_
  replace H := H.pk [2, 3]
  refine W.ret ?_
  have bf := (H.bl 1)
  have bg := (H.bl 0)
  have al := M.e_pure hM
  exact ⟨_, (resE_ofn (vs := [B false, I 3]) rfl rfl (.cell (v := B false) rfl (run_loadVar_sc Sc4 bf rfl) <| .cell (v := I 3) rfl (run_loadVar_sc Sc35 bg rfl) <| .nil)), ⟨false, 3, al, rfl, (H.pk [])⟩⟩
 replace hM := M.e_f hM aw
 simp only [qy1, qy2, qy3, qy4, qy5, qy6, ne_eq, qy7] at aw
 refine W.skip ?_
 refine WB.defer (d := 25) (v := .func (.func 53) #[] #[Pq au, Pq ah]) (fv := .func 53) (cap := #[Pq au, Pq ah]) (f := 53) (args := #[Pq au, Pq ah]) rfl rfl rfl rfl rfl (fun _ => x_mf (fs := []) (cs := [Pq au, Pq ah]) rfl rfl) (x_defer rfl) (x_invoke cf53) (fun w_ => catch_idle _ _ w_) ?_
 refine W.seq ?_
 refine W.region rfl ?_
 refine t_alloc (cs := encB (List.replicate 16 false)) H Al121 rfl ?_
 intro aq bX H
 have bh : (List.replicate 16 false).length = 16 := by simp
 refine s_nil ?_
 refine W.seq ?_
 refine W.region rfl ?_
 refine zM aj rfl ?_
 have bY := (am).len_le
 refine s_val (x_lenS T38.und rfl am) ?_
 refine zM (I many) rfl ?_
 refine zC (rows.length : Int) many (decide ((rows.length : Int) <= many)) rfl rfl rfl ?_
 refine t_sw 4 0 [B (decide ((rows.length : Int) <= many))] (B (decide ((rows.length : Int) <= many))) H rfl rfl Sz4 rfl rfl rfl rfl ?_
 intro bZ H
 refine s_nil ?_
 refine W.seq ?_
 refine W.seq ?_
 refine W.region rfl ?_
 refine zM aj rfl ?_
 have b3 := (am).len_le
 refine s_val (x_lenS T38.und rfl am) ?_
 refine zM (I 0) rfl ?_
 refine s_nil ?_
 refine W.block ?_
 obtain ⟨bi, aD, bj⟩ := M.e_bind hM
 obtain ⟨b4, aD⟩ := M.e_iter aD
 refine W.loop (fun m σ W => ∃ (s2 : Bool) (ar : List Bool) (s3 : Nat) (ρ : Env), σ = upds ρ [(3, Pq ao), (6, Pq au), (7, Pq ah), (8, Pq ak), (9, Pq aq), (30, aj), (31, I (rows.length : Int)), (32, I (s3 : Int))] /\ M.iterN (zbG s_Sections s_Marks s_Reaches rows) m (s2, ar, s3) = some bi /\ St w W [cBlk aq (encB ar) 121, cBlk ak [ae, ab, ag, .map (some aR)] 177, cMemI encSpt aR (zaa s_Sections s_Marks s_Reaches), cBlk ah [I ac] 35, cBlk au [B s2] 4, cBlk ao [ae, ab, ag] 27] R /\ ar.length = 16) ?_ ?_
 ·exact ⟨_, decide ((rows.length : Int) <= many), List.replicate 16 false, 0, _, upds_of _ _ ⟨rfl, rfl, rfl, rfl, rfl, rfl, rfl, rfl, trivial⟩, aD, H, bh⟩
 rintro b5 σ b6 ⟨s2, ar, s3, ρ, rfl, aS, H, aT⟩
 obtain ⟨aU, aV, b7, hM, aE⟩ := M.e_iterN aS
 simp only [zbG] at hM
 clear aS
 refine W.seq ?_
 refine W.region rfl ?_
 refine zC (s3 : Int) (rows.length : Int) (decide ((s3 : Int) < (rows.length : Int))) rfl rfl rfl ?_
 refine s_nil ?_
 refine W.seq ?_
 refine W.cond (decide ((s3 : Int) < (rows.length : Int))) rfl (fun ax => ?_) (fun ax => ?_)
 ·replace hM := M.e_t hM ax
  simp only [qy1, qy2, qy3, qy4, qy5, qy6, ne_eq, qy7] at ax
  refine W.skip ?_
  refine W.seq ?_
  refine W.block ?_
  refine W.seq ?_
  refine W.region rfl ?_
  obtain ⟨bm, hM⟩ := M.e_grd hM
  simp only [Bool.and_eq_true, decide_eq_true_eq] at bm
  refine s_val (x_ix (a := aj) (b := I (s3 : Int)) (v := vat aj 1 (Int.toNat (s3 : Int))) rfl rfl (Sl.ix (α := List Int) T38.und T38.size am (by omega) (by omega))) ?_
  obtain ⟨ay, bn, aC⟩ := List_at am (i := (s3 : Int)) (by omega) (by omega)
  replace aC : Sl _ ay (rows.getD s3 ([])) := aC
  have b8 := aC.len_le
  refine s_val (x_ld (p := vat aj 1 (Int.toNat (s3 : Int))) (v := ay) rfl (ld_sc Sc28 (At.mono (bn) (aQ.at H)))) ?_
  refine zA ay rfl ?_
  refine s_nil ?_
  refine W.seq ?_
  refine W.region rfl ?_
  refine zM (Pq ak) rfl ?_
  refine zM ay rfl ?_
  obtain ⟨b9, bo, hM⟩ := M.e_bind hM
  refine s_call cf54 [Pq ak, ay, Pq aq] rfl (zcY s_Sections s_Marks s_Reaches (rows.getD s3 ([])) ar (aL.app _) aM (aN.app _) az (aO.app _) aP (Has.here (k := 0) rfl) (aQ.app _) aC aT bo _ (H.gt 5)) ?_
  rintro vq cc ⟨r2, aW, bp, hvq, ap, aX⟩
  subst bp
  subst vq
  try dsimp only at hM
  replace H := H.bk ap
  clear ap
  refine s_val (x_not (b := r2) rfl) ?_
  refine s_nil ?_
  refine W.cond (!r2) rfl (fun aF => ?_) (fun aF => ?_)
  ·replace hM := M.e_t hM aF
   refine W.region rfl ?_
   refine t_sw 4 0 [B false] (B false) H rfl rfl Sz4 rfl rfl rfl rfl ?_
   intro cd H
   refine s_nil ?_
   refine W.region rfl ?_
   refine zR (s3 : Int) 1 ((s3 : Int) + 1) rfl rfl rfl (by omega) ?_
   refine zM (I ((s3 : Int) + 1)) rfl ?_
   refine s_nil ?_
   exact ⟨aU, aV, false, aW, s3 + 1, _, upds_of _ _ ⟨rfl, rfl, rfl, rfl, rfl, rfl, rfl, rfl, trivial⟩, M.e_inl hM aE, H, aX⟩
  replace hM := M.e_f hM aF
  refine W.skip ?_
  refine W.region rfl ?_
  refine zR (s3 : Int) 1 ((s3 : Int) + 1) rfl rfl rfl (by omega) ?_
  refine zM (I ((s3 : Int) + 1)) rfl ?_
  refine s_nil ?_
  exact ⟨aU, aV, s2, aW, s3 + 1, _, upds_of _ _ ⟨rfl, rfl, rfl, rfl, rfl, rfl, rfl, rfl, trivial⟩, M.e_inl hM aE, H, aX⟩
 replace hM := M.e_f hM ax
 simp only [qy1, qy2, qy3, qy4, qy5, qy6, ne_eq, qy7] at ax
 refine W.exit ?_
 have bq := M.e_inr hM aE
 subst bq
 replace hM := bj
 try dsimp only at hM
 replace H := H.pk [0, 3, 4, 5]
 refine W.seq ?_
 refine W.region rfl ?_
 refine s_val (x_ld (p := Pq au) (v := B s2) rfl (ldb_sc Sc4 (H.bl 2) rfl)) ?_
 refine zM (B s2) rfl ?_
 refine g_val s2 (gy_t rfl) (fun hg => x_fa (a := Pq ao) (v := Oq ao 1) rfl (fa_blk (o := 0) Fd27_1 Sz24)) ?_
 refine g_val s2 (gy_t rfl) (fun hg => x_ld (p := Oq ao 1) (v := ab) (gd_of (c := s2) hg (Oq ao 1)) (ldb_sc Sc24 (H.bl 3) rfl)) ?_
 have ce := (az).len_le
 refine g_val s2 (gy_t rfl) (fun hg => x_lenS T24.und (gd_of (c := s2) hg (ab)) az) ?_
 obtain ⟨av, hM⟩ := M.e_grd hM
 replace av := M.imp_of av
 simp only [Bool.and_eq_true, decide_eq_true_eq] at av
 obtain ⟨br, H, bt⟩ := St.freezeB H (k := 0) (n := 16) rfl (by have h_ := aT; omega) (by omega)
 replace H := H.nf
 have bu : s2 = true -> Sl br.cells (.slice (some ⟨aq, 0, none⟩) (Int.toNat (s_Marks.length : Int)) 16) (ar.take (Int.toNat (s_Marks.length : Int))) := fun hg => bt (s_Marks.length : Int) (by have aa := av.resolve_left (by rw [hg]; decide); first | exact aa | exact aa.1 | exact aa.2 | omega | (have ai := hg; simp at ai; omega)) (by have aa := av.resolve_left (by rw [hg]; decide); first | exact aa | exact aa.1 | exact aa.2 | omega | (have ai := hg; simp at ai; omega))
 refine g_val s2 (gy_t rfl) (fun hg => x_sl (v := Pq aq) (u := (.slice (some ⟨aq, 0, none⟩) (Int.toNat (s_Marks.length : Int)) 16)) (lo' := none) (hi' := some (I (s_Marks.length : Int))) (mx' := none) rfl rfl (congrArg some (gd_of (c := s2) hg (I (s_Marks.length : Int)))) rfl (run_sliceB Tryz.underlying121 Sz4 (by have aa := av.resolve_left (by rw [hg]; decide); first | exact aa | exact aa.1 | exact aa.2 | omega | (have ai := hg; simp at ai; omega)) (by have aa := av.resolve_left (by rw [hg]; decide); first | exact aa | exact aa.1 | exact aa.2 | omega | (have ai := hg; simp at ai; omega)))) ?_
 obtain ⟨r3, bv, hM⟩ := M.e_bind hM
 refine t_gcall s2 (gy_t rfl) cf55 (B r3) (fun _ => [(.slice (some ⟨aq, 0, none⟩) (Int.toNat (s_Marks.length : Int)) 16), .func (.func 56) #[] #[]]) (fun hg => lst2 (gd_of (c := s2) hg ((.slice (some ⟨aq, 0, none⟩) (Int.toNat (s_Marks.length : Int)) 16))) rfl) H (fun hg => (zdm (ar.take (Int.toNat (s_Marks.length : Int))) (fun aG => zce aG) (Reads.of (k := 0) rfl roLe) (bu hg) ⟨56, [], rfl, cf56, fun aY cf cg bw aG ch bx ci bz bA => by obtain ⟨_, rfl, rfl⟩ := bz; exact (zdo aG bA aY (St.refl bx)).mono fun bw aY ⟨cj, bB, bC, bD⟩ => by subst bB; exact ⟨bC, bD⟩⟩ (M.e_opt bv hg) _ (H.give (A := []) rfl)).mono fun v_ w_ ⟨y_, al, bE, H_⟩ => by subst al; exact ⟨bE, H.via H_⟩) ?_
 intro ck H
 refine s_val (x_pand (b := s2) (r := r3) rfl (fun hb => gd_of (c := s2) (by first | exact hb | (rw [hb]; rfl) | simp_all) (B r3)) rfl) ?_
 refine t_sw 2 0 [B (s2 && r3)] (B (s2 && r3)) H rfl rfl Sz4 rfl rfl rfl rfl ?_
 intro cn H
 refine t_sw 1 0 [I 0] (I 0) H rfl rfl Sz35 rfl rfl rfl rfl ?_
 intro co H
 refine s_nil ?_
 replace H := H.pk [1, 2]
 refine W.ret ?_
 intro cp bF
 replace H := bF _ _ _ H
 replace H := H.nf
 have bG := (H.bl 1)
 have bH := (H.bl 0)
 have al := M.e_pure hM
 exact ⟨_, (resE_ofn (vs := [B (s2 && r3), I 0]) rfl rfl (.cell (v := B (s2 && r3)) rfl (run_loadVar_sc Sc4 bG rfl) <| .cell (v := I 0) rfl (run_loadVar_sc Sc35 bH rfl) <| .nil)), ⟨(s2 && r3), 0, al, rfl, (H.pk [])⟩⟩

end Go.Proofs.YtlemgioaakecpaaGreat
end
section
set_option maxRecDepth 100000
set_option maxHeartbeats 16000000
namespace Go.Proofs.YtlemgioaakecpaaGreat
open Go Go.Nm
def zaO (bytes : List UInt8) : M (Int × Int) :=
  M.pure (0, 0)
theorem zcy {R : List Chunk} {ab : Cells} {aa : Value} (bytes : List UInt8) (ai : Reads R ab) (ag : Sl ab aa bytes) {r : (Int × Int)} (hM : (zaO bytes).Ends r) (w : World) (H : St w w [] R) : Ret Tryz.prog 9 #[aa] w fun v w' => ∃ (y0 : Int) (y1 : Int) (ac : Nat), (y0, y1) = r /\ v = Pq ac /\ St w w' [cBlk ac [aa, I y0, I y1] 111] R := by
 refine ret_of_W Tryz.func9 rfl rfl rfl ?_
 refine W.seq ?_
 refine W.region rfl ?_
 refine zA (.pointer none) rfl ?_
 refine s_nil ?_
 refine W.seq ?_
 refine W.region rfl ?_
 refine zM aa rfl ?_
 refine s_val (x_bld (ps := [(0, aa)]) (zs := [.slice none 0 0, I 0, I 0]) (L' := [aa, I 0, I 0]) rfl Tryz.underlying111 Al111 rfl (Bd111 Tryz.underlying111) (.cons (cs := [aa]) (Sl.cells ag) rfl rfl rfl rfl <| .nil)) ?_
 refine t_box (v := .agg #[aa, I 0, I 0]) (cs := [aa, I 0, I 0]) H rfl rfl ?_
 intro ae aj H
 refine zA (Pq ae) rfl ?_
 refine s_nil ?_
 refine W.ret ?_
 have ah := M.e_pure hM
 exact ⟨_, resE_tmp rfl, ⟨0, 0, ae, ah, rfl, H⟩⟩

def zbo (v : Int) (n : Int) : M Int :=
  bif decide (n < 1) then (
  M.pure 0)
  else (
  M.grd (decide ((0 : Int) < n)) <|
  bif decide ((Int.tmod v n) < 0) then (
  M.grd (decide ((-9223372036854775808 : Int) <= ((Int.tmod v n) + n)) && decide (((Int.tmod v n) + n) <= (9223372036854775807 : Int))) <|
  M.pure ((Int.tmod v n) + n))
  else (
  M.pure (Int.tmod v n)))
theorem zdc {R : List Chunk}  (v : Int) (n : Int)  {r : Int} (hM : (zbo v n).Ends r) (w : World) (H : St w w [] R) : Ret Tryz.prog 19 #[I v, I n] w fun v w' => ∃ (y0 : Int), y0 = r /\ v = I y0 /\ St w w' [] R := by
 refine ret_of_W Tryz.func19 rfl rfl rfl ?_
 refine W.seq ?_
 refine W.region rfl ?_
 refine zA (I 0) rfl ?_
 refine s_nil ?_
 refine W.seq ?_
 refine W.seq ?_
 refine W.region rfl ?_
 refine zM (I n) rfl ?_
 refine zC n 1 (decide (n < 1)) rfl rfl rfl ?_
 refine s_nil ?_
 refine W.cond (decide (n < 1)) rfl (fun aa => ?_) (fun aa => ?_)
 ·replace hM := M.e_t hM aa
  simp only [qy1, qy2, qy3, qy4, qy5, qy6, ne_eq, qy7] at aa
  refine W.seq ?_
  refine W.region rfl ?_
  refine zA (I 0) rfl ?_
  refine s_nil ?_
  refine W.ret ?_
  have ab := M.e_pure hM
  exact ⟨_, resE_tmp rfl, ⟨0, ab, rfl, H⟩⟩
 replace hM := M.e_f hM aa
 simp only [qy1, qy2, qy3, qy4, qy5, qy6, ne_eq, qy7] at aa
 refine W.skip ?_
 refine W.seq ?_
 refine W.region rfl ?_
 refine zM (I v) rfl ?_
 refine zM (I n) rfl ?_
 obtain ⟨ae, hM⟩ := M.e_grd hM
 simp only [Bool.and_eq_true, decide_eq_true_eq] at ae
 refine s_val (x_rem (a := v) (b := n) rfl rfl (by omega)) ?_
 refine zA (I (Int.tmod v n)) rfl ?_
 refine s_nil ?_
 refine W.seq ?_
 refine W.seq ?_
 refine W.region rfl ?_
 refine zM (I (Int.tmod v n)) rfl ?_
 refine zC (Int.tmod v n) 0 (decide ((Int.tmod v n) < 0)) rfl rfl rfl ?_
 refine s_nil ?_
 refine W.cond (decide ((Int.tmod v n) < 0)) rfl (fun ac => ?_) (fun ac => ?_)
 ·replace hM := M.e_t hM ac
  simp only [qy1, qy2, qy3, qy4, qy5, qy6, ne_eq, qy7] at ac
  refine W.region rfl ?_
  refine zM (I (Int.tmod v n)) rfl ?_
  refine zM (I n) rfl ?_
  obtain ⟨ag, hM⟩ := M.e_grd hM
  simp only [Bool.and_eq_true, decide_eq_true_eq] at ag
  refine zR (Int.tmod v n) n ((Int.tmod v n) + n) rfl rfl rfl (by omega) ?_
  refine zA (I ((Int.tmod v n) + n)) rfl ?_
  refine s_nil ?_
  refine W.seq ?_
  refine W.region rfl ?_
  refine zM (I ((Int.tmod v n) + n)) rfl ?_
  refine zA (I ((Int.tmod v n) + n)) rfl ?_
  refine s_nil ?_
  refine W.ret ?_
  have ab := M.e_pure hM
  exact ⟨_, resE_tmp rfl, ⟨((Int.tmod v n) + n), ab, rfl, H⟩⟩
 replace hM := M.e_f hM ac
 simp only [qy1, qy2, qy3, qy4, qy5, qy6, ne_eq, qy7] at ac
 refine W.skip ?_
 refine W.seq ?_
 refine W.region rfl ?_
 refine zM (I (Int.tmod v n)) rfl ?_
 refine zA (I (Int.tmod v n)) rfl ?_
 refine s_nil ?_
 refine W.ret ?_
 have ab := M.e_pure hM
 exact ⟨_, resE_tmp rfl, ⟨(Int.tmod v n), ab, rfl, H⟩⟩

def zbB (s_used : Int) (s_mix : Int) (n : Int) (b : Int) : M (Int × Int × Int) :=
  M.grd (decide ((-9223372036854775808 : Int) <= (5 * s_mix)) && decide ((5 * s_mix) <= (9223372036854775807 : Int))) <|
  M.grd (decide ((-9223372036854775808 : Int) <= ((5 * s_mix) + b)) && decide (((5 * s_mix) + b) <= (9223372036854775807 : Int))) <|
  M.grd (decide ((-9223372036854775808 : Int) <= (((5 * s_mix) + b) + 1)) && decide ((((5 * s_mix) + b) + 1) <= (9223372036854775807 : Int))) <|
  M.grd (decide ((0 : Int) <= (((5 * s_mix) + b) + 1)) && decide ((0 : Int) < 251)) <|
  M.grd (decide ((-9223372036854775808 : Int) <= (s_used + 1)) && decide ((s_used + 1) <= (9223372036854775807 : Int))) <|
  bif decide (256 < n) then (
  M.grd (decide ((-9223372036854775808 : Int) <= (256 * b)) && decide ((256 * b) <= (9223372036854775807 : Int))) <|
  M.grd (decide ((-9223372036854775808 : Int) <= ((256 * b) + ((((5 * s_mix) + b) + 1) % 251))) && decide (((256 * b) + ((((5 * s_mix) + b) + 1) % 251)) <= (9223372036854775807 : Int))) <|
  M.grd (decide ((0 : Int) <= ((256 * b) + ((((5 * s_mix) + b) + 1) % 251))) && decide ((0 : Int) < n)) <|
  M.pure ((((256 * b) + ((((5 * s_mix) + b) + 1) % 251)) % n), (s_used + 1), ((((5 * s_mix) + b) + 1) % 251)))
  else (
  M.grd (decide ((0 : Int) <= b) && decide ((0 : Int) < n)) <|
  M.pure ((b % n), (s_used + 1), ((((5 * s_mix) + b) + 1) % 251)))
def zab (s_bytes : List UInt8) (s_used : Int) (s_mix : Int) (n : Int) : M (Int × Int × Int) :=
  bif ((decide (n < 2)) || ((s_bytes.length : Int) == 0)) then (
  M.pure (0, s_used, s_mix))
  else (
  M.grd (decide ((0 : Int) <= s_used) && decide ((0 : Int) < (s_bytes.length : Int))) <|
  M.grd (decide ((0 : Int) <= (s_used % (s_bytes.length : Int))) && decide ((s_used % (s_bytes.length : Int)) < (s_bytes.length : Int))) <|
  M.grd (decide ((0 : Int) <= ((s_bytes.getD (Int.toNat (s_used % (s_bytes.length : Int))) 0).toNat : Int)) && decide (((s_bytes.getD (Int.toNat (s_used % (s_bytes.length : Int))) 0).toNat : Int) < (256 : Int))) <|
  bif decide ((s_bytes.length : Int) <= s_used) then (
  M.grd (decide ((-9223372036854775808 : Int) <= (11 * s_mix)) && decide ((11 * s_mix) <= (9223372036854775807 : Int))) <|
  M.grd (decide (0 <= s_used) && decide (s_used <= (9223372036854775807 : Int)) && decide ((0 : Int) < (s_bytes.length : Int))) <|
  M.grd (decide ((-9223372036854775808 : Int) <= ((11 * s_mix) + (s_used / (s_bytes.length : Int)))) && decide (((11 * s_mix) + (s_used / (s_bytes.length : Int))) <= (9223372036854775807 : Int))) <|
  M.grd (decide ((-9223372036854775808 : Int) <= (((s_bytes.getD (Int.toNat (s_used % (s_bytes.length : Int))) 0).toNat : Int) + ((11 * s_mix) + (s_used / (s_bytes.length : Int))))) && decide ((((s_bytes.getD (Int.toNat (s_used % (s_bytes.length : Int))) 0).toNat : Int) + ((11 * s_mix) + (s_used / (s_bytes.length : Int)))) <= (9223372036854775807 : Int))) <|
  zbB s_used s_mix n (((s_bytes.getD (Int.toNat (s_used % (s_bytes.length : Int))) 0).toNat : Int) + ((11 * s_mix) + (s_used / (s_bytes.length : Int)))))
  else (
  zbB s_used s_mix n ((s_bytes.getD (Int.toNat (s_used % (s_bytes.length : Int))) 0).toNat : Int)))
theorem zad {R : List Chunk} {aa : Nat} {ak : Cells} {ab : Value} (s_bytes : List UInt8) (s_used : Int) (s_mix : Int) (n : Int) (al : Reads R ak) (ac : Sl ak ab s_bytes) {r : (Int × Int × Int)} (hM : (zab s_bytes s_used s_mix n).Ends r) (w : World) (H : St w w [cBlk aa [ab, I s_used, I s_mix] 111] R) : Ret Tryz.prog 14 #[Pq aa, I n] w fun v w' => ∃ (y0 : Int) (y1 : Int) (y2 : Int), (y0, y1, y2) = r /\ v = I y0 /\ St w w' [cBlk aa [ab, I y1, I y2] 111] R := by
 refine ret_of_W Tryz.func14 rfl rfl rfl ?_
 refine W.seq ?_
 refine W.region rfl ?_
 refine zA (I 0) rfl ?_
 refine s_nil ?_
 refine W.seq ?_
 refine W.seq ?_
 refine W.region rfl ?_
 refine zM (I n) rfl ?_
 refine zC n 2 (decide (n < 2)) rfl rfl rfl ?_
 refine zM (B (decide (n < 2))) rfl ?_
 refine g_val (!(decide (n < 2))) (gy_f rfl) (fun hg => x_mv (v := Pq aa) rfl) ?_
 refine g_val (!(decide (n < 2))) (gy_f rfl) (fun hg => x_nc (a := ⟨aa, 0, none⟩) (gd_of (c := !(decide (n < 2))) hg (Pq aa))) ?_
 refine g_val (!(decide (n < 2))) (gy_f rfl) (fun hg => x_fa (a := Pq aa) (v := Pq aa) (gd_of (c := !(decide (n < 2))) hg (Pq aa)) (fa_blk (o := 0) Fd111_0 Sz22)) ?_
 refine g_val (!(decide (n < 2))) (gy_f rfl) (fun hg => x_ld (p := Pq aa) (v := ab) (gd_of (c := !(decide (n < 2))) hg (Pq aa)) (ldb_sc Sc22 (H.bl 0) rfl)) ?_
 have aG := (ac).len_le
 refine g_val (!(decide (n < 2))) (gy_f rfl) (fun hg => x_lenS T22.und (gd_of (c := !(decide (n < 2))) hg (ab)) ac) ?_
 refine g_val (!(decide (n < 2))) (gy_f rfl) (fun hg => x_cmp (kd := .i64) (a := (s_bytes.length : Int)) (b := 0) (r := (s_bytes.length : Int) == 0) (gd_of (c := !(decide (n < 2))) hg (I (s_bytes.length : Int))) rfl rfl) ?_
 refine s_val (x_por (b := decide (n < 2)) (r := (s_bytes.length : Int) == 0) rfl rfl (fun hb => gd_of (c := !(decide (n < 2))) (by first | exact hb | (rw [hb]; rfl) | simp_all) (B ((s_bytes.length : Int) == 0)))) ?_
 refine s_nil ?_
 refine W.cond ((decide (n < 2)) || ((s_bytes.length : Int) == 0)) rfl (fun aj => ?_) (fun aj => ?_)
 ·replace hM := M.e_t hM aj
  refine W.seq ?_
  refine W.region rfl ?_
  refine zA (I 0) rfl ?_
  refine s_nil ?_
  refine W.ret ?_
  have ag := M.e_pure hM
  exact ⟨_, resE_tmp rfl, ⟨0, s_used, s_mix, ag, rfl, H⟩⟩
 replace hM := M.e_f hM aj
 refine W.skip ?_
 refine W.seq ?_
 refine W.draw (fun W => St w W [cBlk aa [ab, I s_used, I s_mix] 111] R) [(0, true), (1, true), (2, true), (3, true), (4, true), (5, true), (6, true), (7, true), (8, true), (9, true), (10, true), (11, true), (12, true), (13, true), (14, true), (15, true), (16, true), (17, true)] mixed (by decide +kernel) rfl ?_
 intro aH ae
 replace H := H.ext ae
 clear ae
 refine ⟨(H.pk [0]), ?_⟩
 refine d_q rfl (fun w' H => x_mv (v := Pq aa) rfl) ?_
 refine d_q rfl (fun w' H => x_nc (a := ⟨aa, 0, none⟩) rfl) ?_
 refine d_q rfl (fun w' H => x_fa (a := Pq aa) (v := Pq aa) rfl (fa_blk (o := 0) Fd111_0 Sz22)) ?_
 refine d_q rfl (fun w' H => x_ld (p := Pq aa) (v := ab) rfl (ldb_sc Sc22 (H.bl 0) rfl)) ?_
 refine d_q rfl (fun w' H => x_mv (v := Pq aa) rfl) ?_
 refine d_q rfl (fun w' H => x_nc (a := ⟨aa, 0, none⟩) rfl) ?_
 refine d_q rfl (fun w' H => x_fa (a := Pq aa) (v := Oq aa 1) rfl (fa_blk (o := 0) Fd111_1 Sz3)) ?_
 refine d_q rfl (fun w' H => x_ld (p := Oq aa 1) (v := I s_used) rfl (ldb_sc Sc3 (H.bl 0) rfl)) ?_
 refine d_q rfl (fun w' H => x_mv (v := Pq aa) rfl) ?_
 refine d_q rfl (fun w' H => x_nc (a := ⟨aa, 0, none⟩) rfl) ?_
 refine d_q rfl (fun w' H => x_fa (a := Pq aa) (v := Pq aa) rfl (fa_blk (o := 0) Fd111_0 Sz22)) ?_
 refine d_q rfl (fun w' H => x_ld (p := Pq aa) (v := ab) rfl (ldb_sc Sc22 (H.bl 0) rfl)) ?_
 have aI := (ac).len_le
 refine d_q rfl (fun w' H => x_lenS T22.und rfl ac) ?_
 obtain ⟨am, hM⟩ := M.e_grd hM
 simp only [Bool.and_eq_true, decide_eq_true_eq] at am
 refine d_q rfl (fun w' H => x_rem' (a := s_used) (b := (s_bytes.length : Int)) rfl rfl (by omega)) ?_
 obtain ⟨ao, hM⟩ := M.e_grd hM
 simp only [Bool.and_eq_true, decide_eq_true_eq] at ao
 refine d_q rfl (fun w' H => x_ix (a := ab) (b := I (s_used % (s_bytes.length : Int))) (v := vat ab 1 (Int.toNat (s_used % (s_bytes.length : Int)))) rfl rfl (Sl.ix (α := UInt8) T22.und T22.size ac (by omega) (by omega))) ?_
 refine d_q rfl (fun w' H => x_ld (p := vat ab 1 (Int.toNat (s_used % (s_bytes.length : Int)))) (v := .int .u8 (((s_bytes.getD (Int.toNat (s_used % (s_bytes.length : Int))) 0).toNat : Int))) rfl (ld_sc Sc5 (At.mono (UInt8_at ac (i := s_used % (s_bytes.length : Int)) (by omega) (by omega)) (al.at H)))) ?_
 obtain ⟨ap, hM⟩ := M.e_grd hM
 simp only [Bool.and_eq_true, decide_eq_true_eq] at ap
 refine d_q rfl (fun w' H => x_conv64 (kd := .u8) (a := ((s_bytes.getD (Int.toNat (s_used % (s_bytes.length : Int))) 0).toNat : Int)) Tryz.underlying5 Tryz.underlying3 rfl (by omega)) ?_
 refine d_q rfl (fun w' H => x_as (v := I ((s_bytes.getD (Int.toNat (s_used % (s_bytes.length : Int))) 0).toNat : Int)) rfl) ?_
 refine d_nil ?_
 refine W.seqJ (fun σ W => ∃ (b : Int) (ρ : Env), σ = upds ρ [(0, Pq aa), (1, I n), (5, I b)] /\ (zbB s_used s_mix n b).Ends r /\ St w W [cBlk aa [ab, I s_used, I s_mix] 111] R) ?_ ?_
 ·skip
  refine W.seq ?_
  refine W.draw (fun W => St w W [cBlk aa [ab, I s_used, I s_mix] 111] R) [(0, true), (1, true), (2, true), (3, true), (4, true), (5, true), (6, true), (7, true), (8, true), (9, true)] mixed (by decide +kernel) rfl ?_
  intro aJ ae
  replace H := H.ext ae
  clear ae
  refine ⟨(H.pk [0]), ?_⟩
  refine d_q rfl (fun w' H => x_mv (v := Pq aa) rfl) ?_
  refine d_q rfl (fun w' H => x_nc (a := ⟨aa, 0, none⟩) rfl) ?_
  refine d_q rfl (fun w' H => x_fa (a := Pq aa) (v := Oq aa 1) rfl (fa_blk (o := 0) Fd111_1 Sz3)) ?_
  refine d_q rfl (fun w' H => x_ld (p := Oq aa 1) (v := I s_used) rfl (ldb_sc Sc3 (H.bl 0) rfl)) ?_
  refine d_q rfl (fun w' H => x_mv (v := Pq aa) rfl) ?_
  refine d_q rfl (fun w' H => x_nc (a := ⟨aa, 0, none⟩) rfl) ?_
  refine d_q rfl (fun w' H => x_fa (a := Pq aa) (v := Pq aa) rfl (fa_blk (o := 0) Fd111_0 Sz22)) ?_
  refine d_q rfl (fun w' H => x_ld (p := Pq aa) (v := ab) rfl (ldb_sc Sc22 (H.bl 0) rfl)) ?_
  have aK := (ac).len_le
  refine d_q rfl (fun w' H => x_lenS T22.und rfl ac) ?_
  refine d_q rfl (fun w' H => x_cmp (kd := .i64) (a := s_used) (b := (s_bytes.length : Int)) (r := decide ((s_bytes.length : Int) <= s_used)) rfl rfl rfl) ?_
  refine d_nil ?_
  refine W.cond (decide ((s_bytes.length : Int) <= s_used)) rfl (fun ah => ?_) (fun ah => ?_)
  ·replace hM := M.e_t hM ah
   simp only [qy1, qy2, qy3, qy4, qy5, qy6, ne_eq, qy7] at ah
   refine W.draw (fun W => St w W [cBlk aa [ab, I s_used, I s_mix] 111] R) [(0, true), (1, true), (2, true), (3, true), (4, true), (5, true), (6, true), (7, true), (8, true), (9, true), (10, true), (11, true), (12, true), (13, true), (14, true), (15, true), (16, true), (17, true), (18, true)] mixed (by decide +kernel) rfl ?_
   intro aL ae
   replace H := H.ext ae
   clear ae
   refine ⟨(H.pk [0]), ?_⟩
   refine d_q rfl (fun w' H => x_mv (v := I ((s_bytes.getD (Int.toNat (s_used % (s_bytes.length : Int))) 0).toNat : Int)) rfl) ?_
   refine d_q rfl (fun w' H => x_mv (v := Pq aa) rfl) ?_
   refine d_q rfl (fun w' H => x_nc (a := ⟨aa, 0, none⟩) rfl) ?_
   refine d_q rfl (fun w' H => x_fa (a := Pq aa) (v := Oq aa 2) rfl (fa_blk (o := 0) Fd111_2 Sz3)) ?_
   refine d_q rfl (fun w' H => x_ld (p := Oq aa 2) (v := I s_mix) rfl (ldb_sc Sc3 (H.bl 0) rfl)) ?_
   obtain ⟨aq, hM⟩ := M.e_grd hM
   simp only [Bool.and_eq_true, decide_eq_true_eq] at aq
   refine d_q rfl (fun w' H => x_ari (a := 11) (b := s_mix) (r := 11 * s_mix) rfl rfl rfl (by omega)) ?_
   refine d_q rfl (fun w' H => x_mv (v := Pq aa) rfl) ?_
   refine d_q rfl (fun w' H => x_nc (a := ⟨aa, 0, none⟩) rfl) ?_
   refine d_q rfl (fun w' H => x_fa (a := Pq aa) (v := Oq aa 1) rfl (fa_blk (o := 0) Fd111_1 Sz3)) ?_
   refine d_q rfl (fun w' H => x_ld (p := Oq aa 1) (v := I s_used) rfl (ldb_sc Sc3 (H.bl 0) rfl)) ?_
   refine d_q rfl (fun w' H => x_mv (v := Pq aa) rfl) ?_
   refine d_q rfl (fun w' H => x_nc (a := ⟨aa, 0, none⟩) rfl) ?_
   refine d_q rfl (fun w' H => x_fa (a := Pq aa) (v := Pq aa) rfl (fa_blk (o := 0) Fd111_0 Sz22)) ?_
   refine d_q rfl (fun w' H => x_ld (p := Pq aa) (v := ab) rfl (ldb_sc Sc22 (H.bl 0) rfl)) ?_
   have aM := (ac).len_le
   refine d_q rfl (fun w' H => x_lenS T22.und rfl ac) ?_
   obtain ⟨au, hM⟩ := M.e_grd hM
   simp only [Bool.and_eq_true, decide_eq_true_eq] at au
   refine d_q rfl (fun w' H => x_quo (a := s_used) (b := (s_bytes.length : Int)) rfl rfl (by omega)) ?_
   obtain ⟨av, hM⟩ := M.e_grd hM
   simp only [Bool.and_eq_true, decide_eq_true_eq] at av
   refine d_q rfl (fun w' H => x_ari (a := 11 * s_mix) (b := s_used / (s_bytes.length : Int)) (r := (11 * s_mix) + (s_used / (s_bytes.length : Int))) rfl rfl rfl (by omega)) ?_
   obtain ⟨aw, hM⟩ := M.e_grd hM
   simp only [Bool.and_eq_true, decide_eq_true_eq] at aw
   refine d_q rfl (fun w' H => x_ari (a := ((s_bytes.getD (Int.toNat (s_used % (s_bytes.length : Int))) 0).toNat : Int)) (b := (11 * s_mix) + (s_used / (s_bytes.length : Int))) (r := ((s_bytes.getD (Int.toNat (s_used % (s_bytes.length : Int))) 0).toNat : Int) + ((11 * s_mix) + (s_used / (s_bytes.length : Int)))) rfl rfl rfl (by omega)) ?_
   refine d_q rfl (fun w' H => x_as (v := I (((s_bytes.getD (Int.toNat (s_used % (s_bytes.length : Int))) 0).toNat : Int) + ((11 * s_mix) + (s_used / (s_bytes.length : Int))))) rfl) ?_
   refine d_nil ?_
   exact ⟨((s_bytes.getD (Int.toNat (s_used % (s_bytes.length : Int))) 0).toNat : Int) + ((11 * s_mix) + (s_used / (s_bytes.length : Int))), _, upds_of _ _ ⟨rfl, rfl, rfl, trivial⟩, hM, H⟩
  replace hM := M.e_f hM ah
  simp only [qy1, qy2, qy3, qy4, qy5, qy6, ne_eq, qy7] at ah
  refine W.skip ?_
  exact ⟨((s_bytes.getD (Int.toNat (s_used % (s_bytes.length : Int))) 0).toNat : Int), _, upds_of _ _ ⟨rfl, rfl, rfl, trivial⟩, hM, H⟩
 rintro _ aN ⟨b, ρ, rfl, hM, H⟩
 unfold zbB at hM
 refine W.seq ?_
 refine W.region rfl ?_
 refine zM (Pq aa) rfl ?_
 refine zM (Pq aa) rfl ?_
 refine s_val (x_nc (a := ⟨aa, 0, none⟩) rfl) ?_
 refine s_val (x_fa (a := Pq aa) (v := Oq aa 2) rfl (fa_blk (o := 0) Fd111_2 Sz3)) ?_
 refine s_val (x_ld (p := Oq aa 2) (v := I s_mix) rfl (ldb_sc Sc3 (H.bl 0) rfl)) ?_
 obtain ⟨ax, hM⟩ := M.e_grd hM
 simp only [Bool.and_eq_true, decide_eq_true_eq] at ax
 refine zR 5 s_mix (5 * s_mix) rfl rfl rfl (by omega) ?_
 refine zM (I b) rfl ?_
 obtain ⟨ay, hM⟩ := M.e_grd hM
 simp only [Bool.and_eq_true, decide_eq_true_eq] at ay
 refine zR (5 * s_mix) b ((5 * s_mix) + b) rfl rfl rfl (by omega) ?_
 obtain ⟨az, hM⟩ := M.e_grd hM
 simp only [Bool.and_eq_true, decide_eq_true_eq] at az
 refine zR ((5 * s_mix) + b) 1 (((5 * s_mix) + b) + 1) rfl rfl rfl (by omega) ?_
 obtain ⟨aA, hM⟩ := M.e_grd hM
 simp only [Bool.and_eq_true, decide_eq_true_eq] at aA
 refine s_val (x_rem' (a := ((5 * s_mix) + b) + 1) (b := 251) rfl rfl (by omega)) ?_
 refine s_val (x_nc (a := ⟨aa, 0, none⟩) rfl) ?_
 refine s_val (x_fa (a := Pq aa) (v := Oq aa 2) rfl (fa_blk (o := 0) Fd111_2 Sz3)) ?_
 refine t_sw 0 2 [I ((((5 * s_mix) + b) + 1) % 251)] (I ((((5 * s_mix) + b) + 1) % 251)) H rfl rfl Sz3 rfl rfl rfl rfl ?_
 intro aO H
 refine s_nil ?_
 refine W.seq ?_
 refine W.region rfl ?_
 refine zM (Pq aa) rfl ?_
 refine s_val (x_nc (a := ⟨aa, 0, none⟩) rfl) ?_
 refine s_val (x_fa (a := Pq aa) (v := Oq aa 1) rfl (fa_blk (o := 0) Fd111_1 Sz3)) ?_
 refine s_val (x_ld (p := Oq aa 1) (v := I s_used) rfl (ldb_sc Sc3 (H.bl 0) rfl)) ?_
 obtain ⟨aB, hM⟩ := M.e_grd hM
 simp only [Bool.and_eq_true, decide_eq_true_eq] at aB
 refine zR s_used 1 (s_used + 1) rfl rfl rfl (by omega) ?_
 refine s_val (x_nc (a := ⟨aa, 0, none⟩) rfl) ?_
 refine s_val (x_fa (a := Pq aa) (v := Oq aa 1) rfl (fa_blk (o := 0) Fd111_1 Sz3)) ?_
 refine t_sw 0 1 [I (s_used + 1)] (I (s_used + 1)) H rfl rfl Sz3 rfl rfl rfl rfl ?_
 intro aP H
 refine s_nil ?_
 refine W.seq ?_
 refine W.seq ?_
 refine W.region rfl ?_
 refine zM (I n) rfl ?_
 refine zC n 256 (decide (256 < n)) rfl rfl rfl ?_
 refine s_nil ?_
 refine W.cond (decide (256 < n)) rfl (fun ai => ?_) (fun ai => ?_)
 ·replace hM := M.e_t hM ai
  simp only [qy1, qy2, qy3, qy4, qy5, qy6, ne_eq, qy7] at ai
  refine W.region rfl ?_
  refine zM (I b) rfl ?_
  obtain ⟨aC, hM⟩ := M.e_grd hM
  simp only [Bool.and_eq_true, decide_eq_true_eq] at aC
  refine zR 256 b (256 * b) rfl rfl rfl (by omega) ?_
  refine zM (Pq aa) rfl ?_
  refine s_val (x_nc (a := ⟨aa, 0, none⟩) rfl) ?_
  refine s_val (x_fa (a := Pq aa) (v := Oq aa 2) rfl (fa_blk (o := 0) Fd111_2 Sz3)) ?_
  refine s_val (x_ld (p := Oq aa 2) (v := I ((((5 * s_mix) + b) + 1) % 251)) rfl (ldb_sc Sc3 (H.bl 0) rfl)) ?_
  obtain ⟨aD, hM⟩ := M.e_grd hM
  simp only [Bool.and_eq_true, decide_eq_true_eq] at aD
  refine zR (256 * b) ((((5 * s_mix) + b) + 1) % 251) ((256 * b) + ((((5 * s_mix) + b) + 1) % 251)) rfl rfl rfl (by omega) ?_
  refine zA (I ((256 * b) + ((((5 * s_mix) + b) + 1) % 251))) rfl ?_
  refine s_nil ?_
  refine W.seq ?_
  refine W.region rfl ?_
  refine zM (I ((256 * b) + ((((5 * s_mix) + b) + 1) % 251))) rfl ?_
  refine zM (I n) rfl ?_
  obtain ⟨aE, hM⟩ := M.e_grd hM
  simp only [Bool.and_eq_true, decide_eq_true_eq] at aE
  refine s_val (x_rem' (a := (256 * b) + ((((5 * s_mix) + b) + 1) % 251)) (b := n) rfl rfl (by omega)) ?_
  refine zA (I (((256 * b) + ((((5 * s_mix) + b) + 1) % 251)) % n)) rfl ?_
  refine s_nil ?_
  refine W.ret ?_
  have ag := M.e_pure hM
  exact ⟨_, resE_tmp rfl, ⟨(((256 * b) + ((((5 * s_mix) + b) + 1) % 251)) % n), (s_used + 1), ((((5 * s_mix) + b) + 1) % 251), ag, rfl, H⟩⟩
 replace hM := M.e_f hM ai
 simp only [qy1, qy2, qy3, qy4, qy5, qy6, ne_eq, qy7] at ai
 refine W.skip ?_
 refine W.seq ?_
 refine W.region rfl ?_
 refine zM (I b) rfl ?_
 refine zM (I n) rfl ?_
 obtain ⟨aF, hM⟩ := M.e_grd hM
 simp only [Bool.and_eq_true, decide_eq_true_eq] at aF
 refine s_val (x_rem' (a := b) (b := n) rfl rfl (by omega)) ?_
 refine zA (I (b % n)) rfl ?_
 refine s_nil ?_
 refine W.ret ?_
 have ag := M.e_pure hM
 exact ⟨_, resE_tmp rfl, ⟨(b % n), (s_used + 1), ((((5 * s_mix) + b) + 1) % 251), ag, rfl, H⟩⟩

def zaf (s_bytes : List UInt8) (s_used : Int) (s_mix : Int) (lo : Int) (hi : Int) : M (Int × Int × Int) :=
  M.grd (decide ((-9223372036854775808 : Int) <= (hi - lo)) && decide ((hi - lo) <= (9223372036854775807 : Int))) <|
  M.grd (decide ((-9223372036854775808 : Int) <= ((hi - lo) + 1)) && decide (((hi - lo) + 1) <= (9223372036854775807 : Int))) <|
  M.bind (zab s_bytes s_used s_mix ((hi - lo) + 1)) fun (r2, q1, q2) =>
  M.grd (decide ((-9223372036854775808 : Int) <= (lo + r2)) && decide ((lo + r2) <= (9223372036854775807 : Int))) <|
  M.pure ((lo + r2), q1, q2)
theorem zah {R : List Chunk} {aa : Nat} {ac : Cells} {ab : Value} (s_bytes : List UInt8) (s_used : Int) (s_mix : Int) (lo : Int) (hi : Int) (ag : Reads R ac) (ah : Sl ac ab s_bytes) {r : (Int × Int × Int)} (hM : (zaf s_bytes s_used s_mix lo hi).Ends r) (w : World) (H : St w w [cBlk aa [ab, I s_used, I s_mix] 111] R) : Ret Tryz.prog 48 #[Pq aa, I lo, I hi] w fun v w' => ∃ (y0 : Int) (y1 : Int) (y2 : Int), (y0, y1, y2) = r /\ v = I y0 /\ St w w' [cBlk aa [ab, I y1, I y2] 111] R := by
 refine ret_of_W Tryz.func48 rfl rfl rfl ?_
 refine W.seq ?_
 refine W.region rfl ?_
 refine zA (I 0) rfl ?_
 refine s_nil ?_
 refine W.seq ?_
 refine W.region rfl ?_
 refine zM (I lo) rfl ?_
 refine zM (Pq aa) rfl ?_
 refine zM (I hi) rfl ?_
 refine zM (I lo) rfl ?_
 obtain ⟨ai, hM⟩ := M.e_grd hM
 simp only [Bool.and_eq_true, decide_eq_true_eq] at ai
 refine zR hi lo (hi - lo) rfl rfl rfl (by omega) ?_
 obtain ⟨aj, hM⟩ := M.e_grd hM
 simp only [Bool.and_eq_true, decide_eq_true_eq] at aj
 refine zR (hi - lo) 1 ((hi - lo) + 1) rfl rfl rfl (by omega) ?_
 obtain ⟨ap, ak, hM⟩ := M.e_bind hM
 refine s_call cf14 [Pq aa, I ((hi - lo) + 1)] rfl (zad s_bytes s_used s_mix ((hi - lo) + 1) (ag.app _) ah ak _ (H.gt 0)) ?_
 rintro vq aq ⟨r2, q1, q2, al, hvq, ae⟩
 subst al
 subst vq
 try dsimp only at hM
 replace H := H.bk ae
 clear ae
 obtain ⟨am, hM⟩ := M.e_grd hM
 simp only [Bool.and_eq_true, decide_eq_true_eq] at am
 refine zR lo r2 (lo + r2) rfl rfl rfl (by omega) ?_
 refine zA (I (lo + r2)) rfl ?_
 refine s_nil ?_
 refine W.ret ?_
 have ao := M.e_pure hM
 exact ⟨_, resE_tmp rfl, ⟨(lo + r2), q1, q2, ao, rfl, H⟩⟩

end Go.Proofs.YtlemgioaakecpaaGreat
end
section
set_option maxRecDepth 100000
set_option maxHeartbeats 16000000
namespace Go.Proofs.YtlemgioaakecpaaGreat
open Go Go.Nm
def za5 (s_bytes : List UInt8) : (Int × Int × Int × Int × Int × (List FRow)) -> M ((Int × Int × Int × Int × Int × (List FRow)) ⊕ (Int × Int × (List FRow) × (List FRow))) := fun (s2, s3, s4, carry, k, l) =>
  bif decide (0 < k) then (
  M.grd (decide ((l.length + ([(⟨(s4 : Int), (carry : Int)⟩ : FRow)]).length) * 16 <= 140737488355328)) <|
  M.bind (zaf s_bytes s2 s3 1 200) fun (r8, aa, ab) =>
  M.grd (decide ((-9223372036854775808 : Int) <= (s4 + r8)) && decide ((s4 + r8) <= (9223372036854775807 : Int))) <|
  M.bind (zab s_bytes aa ab 2000) fun (r9, ac, ae) =>
  M.grd (decide ((-9223372036854775808 : Int) <= (carry + r9)) && decide ((carry + r9) <= (9223372036854775807 : Int))) <|
  M.grd (decide ((-9223372036854775808 : Int) <= (k - 1)) && decide ((k - 1) <= (9223372036854775807 : Int))) <|
  M.pure (.inl (ac, ae, s4 + r8, carry + r9, k - 1, l ++ ([(⟨(s4 : Int), (carry : Int)⟩ : FRow)]))))
  else (
  M.pure (.inr (s2, s3, l, l)))
def zaH (s_bytes : List UInt8) (marks : Int) (lies : Bool) (place : Int) (stage : Int) : (Int × Int × Int × (List Mrk)) -> M ((Int × Int × Int × (List Mrk)) ⊕ (Int × Int × (List Mrk) × (List Mrk))) := fun (ai, aj, k2, l7) =>
  bif ((decide (0 < k2)) && (decide ((l7.length : Int) < marks))) then (
  M.bind (zab s_bytes ai aj 2) fun (aa, ap, aq) =>
  M.bind (zab s_bytes ap aq 20) fun (ab, au, av) =>
  M.grd (decide ((-9223372036854775808 : Int) <= (aa * ab)) && decide ((aa * ab) <= (9223372036854775807 : Int))) <|
  M.grd (decide ((-9223372036854775808 : Int) <= (place + (aa * ab))) && decide ((place + (aa * ab)) <= (9223372036854775807 : Int))) <|
  M.bind (zab s_bytes au av 9) fun (ac, aw, ax) =>
  M.grd (decide ((-9223372036854775808 : Int) <= (stage - ac)) && decide ((stage - ac) <= (9223372036854775807 : Int))) <|
  M.bind (zab s_bytes aw ax 9) fun (ae, ak, al) =>
  M.grd (decide ((-9223372036854775808 : Int) <= (stage + ae)) && decide ((stage + ae) <= (9223372036854775807 : Int))) <|
  bif lies then (
  M.bind (zab s_bytes ak al 3) fun (ay, am, ao) =>
  bif (lies && (ay == 0)) then (
  M.bind (zaf s_bytes am ao 50 420) fun (ag, az, aA) =>
  M.bind (zab s_bytes az aA 9) fun (ah, aB, aC) =>
  M.grd (decide ((-9223372036854775808 : Int) <= (ag + ah)) && decide ((ag + ah) <= (9223372036854775807 : Int))) <|
  M.grd (decide ((l7.length + ([(⟨(place + (aa * ab) : Int), (ag : Int), (ag + ah : Int)⟩ : Mrk)]).length) * 24 <= 140737488355328)) <|
  M.grd (decide ((-9223372036854775808 : Int) <= (k2 - 1)) && decide ((k2 - 1) <= (9223372036854775807 : Int))) <|
  M.pure (.inl (aB, aC, k2 - 1, l7 ++ ([(⟨(place + (aa * ab) : Int), (ag : Int), (ag + ah : Int)⟩ : Mrk)]))))
  else (
  M.grd (decide ((l7.length + ([(⟨(place + (aa * ab) : Int), (max 0 (stage - ac) : Int), (stage + ae : Int)⟩ : Mrk)]).length) * 24 <= 140737488355328)) <|
  M.grd (decide ((-9223372036854775808 : Int) <= (k2 - 1)) && decide ((k2 - 1) <= (9223372036854775807 : Int))) <|
  M.pure (.inl (am, ao, k2 - 1, l7 ++ ([(⟨(place + (aa * ab) : Int), (max 0 (stage - ac) : Int), (stage + ae : Int)⟩ : Mrk)])))))
  else (
  M.grd (decide ((l7.length + ([(⟨(place + (aa * ab) : Int), (max 0 (stage - ac) : Int), (stage + ae : Int)⟩ : Mrk)]).length) * 24 <= 140737488355328)) <|
  M.grd (decide ((-9223372036854775808 : Int) <= (k2 - 1)) && decide ((k2 - 1) <= (9223372036854775807 : Int))) <|
  M.pure (.inl (ak, al, k2 - 1, l7 ++ ([(⟨(place + (aa * ab) : Int), (max 0 (stage - ac) : Int), (stage + ae : Int)⟩ : Mrk)])))))
  else (
  M.pure (.inr (ai, aj, l7, l7)))
def zby (s_bytes : List UInt8) (marks : Int) (lies : Bool) (place : Int) (stage : Int) (n : Int) (l9 : List Sect) (ac : List Mrk) (ae : List Int) (ag : List Int) (l3 : List FRow) (ah : Int) (ai : Int) (aj : Int) : M ((Int × Int × Int × Int × Int × (List Sect) × (List Mrk) × (List Int) × (List Int)) ⊕ (Int × Int × (List Sect) × (List Mrk) × (List Int) × (List Int) × (List Int) × (List Int) × (List Mrk) × (List Sect))) :=
  M.bind (zab s_bytes ai aj 3) fun (ak, al, am) =>
  M.bind (M.iter (zaH s_bytes marks lies place stage) (al, am, ak, ac)) fun (ao, ap, l5, l8) =>
  M.bind (zaf s_bytes ao ap 21 200) fun (aa, aq, au) =>
  M.grd (decide ((-9223372036854775808 : Int) <= (place + aa)) && decide ((place + aa) <= (9223372036854775807 : Int))) <|
  M.bind (zab s_bytes aq au 20) fun (ab, av, aw) =>
  M.grd (decide ((-9223372036854775808 : Int) <= (stage - ab)) && decide ((stage - ab) <= (9223372036854775807 : Int))) <|
  M.grd (decide ((-9223372036854775808 : Int) <= (n - 1)) && decide ((n - 1) <= (9223372036854775807 : Int))) <|
  M.pure (.inl (av, aw, place + aa, stage - ab, n - 1, l9 ++ ([(⟨(place : Int), l3⟩ : Sect)]), l8, ae ++ ([(stage : Int)]), ag ++ ([(ah : Int)])))
def zaX (s_bytes : List UInt8) (marks : Int) (lies : Bool) : (Int × Int × Int × Int × Int × (List Sect) × (List Mrk) × (List Int) × (List Int)) -> M ((Int × Int × Int × Int × Int × (List Sect) × (List Mrk) × (List Int) × (List Int)) ⊕ (Int × Int × (List Sect) × (List Mrk) × (List Int) × (List Int) × (List Int) × (List Int) × (List Mrk) × (List Sect))) := fun (ae, ag, place, stage, n, l9, ac, aa, ab) =>
  bif decide (0 < n) then (
  M.bind (zab s_bytes ae ag 60) fun (r5, ai, aj) =>
  M.bind (zab s_bytes ai aj 50) fun (r6, ak, al) =>
  M.bind (zaf s_bytes ak al 2 4) fun (r7, am, ao) =>
  M.bind (M.iter (za5 s_bytes) (am, ao, r5, r6, r7, [])) fun (s5, s6, l2, l3) =>
  M.grd (decide ((l9.length + ([(⟨(place : Int), l3⟩ : Sect)]).length) * 32 <= 140737488355328)) <|
  M.grd (decide ((aa.length + ([(stage : Int)]).length) * 8 <= 140737488355328)) <|
  M.bind (zaf s_bytes s5 s6 30 90) fun (ah, ap, aq) =>
  M.grd (decide ((ab.length + ([(ah : Int)]).length) * 8 <= 140737488355328)) <|
  zby s_bytes marks lies place stage n l9 ac aa ab l3 ah ap aq)
  else (
  M.pure (.inr (ae, ag, l9, ac, aa, ab, ab, aa, ac, l9)))
def zaI (s_bytes : List UInt8) (ab : List Int) (ae : List Sect) : (Int × Int × Int × (List Rch)) -> M ((Int × Int × Int × (List Rch)) ⊕ ((List Rch) × (List Rch) × Int × Int)) := fun (aj, ak, n2, ag) =>
  bif decide (0 < n2) then (
  M.bind (zab s_bytes aj ak ((ae.length : Int) - 1)) fun (aa, am, ao) =>
  M.bind (zab s_bytes am ao 4) fun (al, ap, aq) =>
  M.grd (decide ((-9223372036854775808 : Int) <= (((ae.length : Int) - 1) - aa)) && decide ((((ae.length : Int) - 1) - aa) <= (9223372036854775807 : Int))) <|
  M.bind (zaf s_bytes ap aq 1 (((ae.length : Int) - 1) - aa)) fun (ac, au, av) =>
  M.grd (decide ((-9223372036854775808 : Int) <= (aa + ac)) && decide ((aa + ac) <= (9223372036854775807 : Int))) <|
  M.grd (decide ((0 : Int) <= aa) && decide (aa < (ab.length : Int))) <|
  M.grd (decide ((0 : Int) <= (aa + ac)) && decide ((aa + ac) < (ab.length : Int))) <|
  M.bind (zab s_bytes au av 8) fun (ah, aw, ax) =>
  M.grd (decide ((-9223372036854775808 : Int) <= ((min (ab.getD (Int.toNat aa) 0) (ab.getD (Int.toNat (aa + ac)) 0)) - ah)) && decide (((min (ab.getD (Int.toNat aa) 0) (ab.getD (Int.toNat (aa + ac)) 0)) - ah) <= (9223372036854775807 : Int))) <|
  M.bind (zab s_bytes aw ax 8) fun (ai, ay, az) =>
  M.grd (decide ((-9223372036854775808 : Int) <= ((max (ab.getD (Int.toNat aa) 0) (ab.getD (Int.toNat (aa + ac)) 0)) + ai)) && decide (((max (ab.getD (Int.toNat aa) 0) (ab.getD (Int.toNat (aa + ac)) 0)) + ai) <= (9223372036854775807 : Int))) <|
  M.grd (decide ((ag.length + ([(⟨(aa : Int), (aa + ac : Int), ((min (ab.getD (Int.toNat aa) 0) (ab.getD (Int.toNat (aa + ac)) 0)) - ah : Int), ((max (ab.getD (Int.toNat aa) 0) (ab.getD (Int.toNat (aa + ac)) 0)) + ai : Int), (al == 0)⟩ : Rch)]).length) * 40 <= 140737488355328)) <|
  M.grd (decide ((-9223372036854775808 : Int) <= (n2 - 1)) && decide ((n2 - 1) <= (9223372036854775807 : Int))) <|
  M.pure (.inl (ay, az, n2 - 1, ag ++ ([(⟨(aa : Int), (aa + ac : Int), ((min (ab.getD (Int.toNat aa) 0) (ab.getD (Int.toNat (aa + ac)) 0)) - ah : Int), ((max (ab.getD (Int.toNat aa) 0) (ab.getD (Int.toNat (aa + ac)) 0)) + ai : Int), (al == 0)⟩ : Rch)]))))
  else (
  M.pure (.inr (ag, ag, aj, ak)))
def zay (s_bytes : List UInt8) (ac : Int) (ae : Int) (aa : List Int) (ag : List Int) (ab : List Sect) (ah : List Mrk) : M ((List Sect) × (List Mrk) × (List Rch) × (List Int) × (List Int) × Int × Int) :=
  M.bind (zaf s_bytes ac ae 1 4) fun (ai, aj, ak) =>
  M.bind (M.iter (zaI s_bytes aa ab) (aj, ak, ai, [])) fun (ap, al, am, ao) =>
  M.pure (ab, ah, al, ag, aa, am, ao)
def zba (s_bytes : List UInt8) (s_used : Int) (s_mix : Int) (marks : Int) (lies : Bool) : M ((List Sect) × (List Mrk) × (List Rch) × (List Int) × (List Int) × Int × Int) :=
  M.bind (zab s_bytes s_used s_mix 50) fun (r2, q1, q2) =>
  M.bind (zaf s_bytes q1 q2 100 400) fun (r3, ai, aj) =>
  M.bind (zaf s_bytes ai aj 2 5) fun (r4, ak, al) =>
  M.bind (M.iter (zaX s_bytes marks lies) (ak, al, r2, r3, r4, [], [], [], [])) fun (ae, ag, am, ao, ap, aq, ah, aa, ac, ab) =>
  bif (ac.length : Int) == 0 then (
  M.grd (decide (0 < (ab.length : Int))) <|
  M.grd (decide (0 < (aa.length : Int))) <|
  M.grd (decide ((-9223372036854775808 : Int) <= ((aa.getD 0 0) - 5)) && decide (((aa.getD 0 0) - 5) <= (9223372036854775807 : Int))) <|
  M.grd (decide ((-9223372036854775808 : Int) <= ((aa.getD 0 0) + 5)) && decide (((aa.getD 0 0) + 5) <= (9223372036854775807 : Int))) <|
  M.grd (decide ((ac.length + ([(⟨((ab.getD 0 default).place : Int), ((aa.getD 0 0) - 5 : Int), ((aa.getD 0 0) + 5 : Int)⟩ : Mrk)]).length) * 24 <= 140737488355328)) <|
  zay s_bytes ae ag ah aa ab (ac ++ ([(⟨((ab.getD 0 default).place : Int), ((aa.getD 0 0) - 5 : Int), ((aa.getD 0 0) + 5 : Int)⟩ : Mrk)])))
  else (
  zay s_bytes ae ag ah aa ab ac)
theorem zc4 {R : List Chunk} {ae : Nat} {cc : Cells} {aO : Value} (s_bytes : List UInt8) (s_used : Int) (s_mix : Int) (marks : Int) (lies : Bool) (au : Reads R cc) (av : Sl cc aO s_bytes) {r : ((List Sect) × (List Mrk) × (List Rch) × (List Int) × (List Int) × Int × Int)} (hM : (zba s_bytes s_used s_mix marks lies).Ends r) (w : World) (H : St w w [cBlk ae [aO, I s_used, I s_mix] 111] R) : Ret Tryz.prog 8 #[Pq ae, I marks, B lies] w fun v w' => ∃ (y0 : List Sect) (y1 : List Mrk) (y2 : List Rch) (y3 : List Int) (y4 : List Int) (y5 : Int) (y6 : Int) (u0 : Value) (rr1 : List (Raw 1)) (cd : Base) (u3 : Value) (u4 : Value) (u5 : Value) (u6 : Value), (y0, y1, y2, y3, y4, y5, y6) = r /\ v = .tuple #[.agg #[u0, u3, u4], .agg #[u5, u6]] /\ St w w' [cOwn (α := Raw 1) 68 u0 rr1, cRo cd, cOwn (α := Mrk) 70 u3 y1, cOwn (α := Rch) 58 u4 y2, cOwn (α := Int) 3 u5 y3, cOwn (α := Int) 3 u6 y4, cBlk ae [aO, I y5, I y6] 111] R /\ RepR (α := Sect) cd.cells rr1 y0 := by
 refine ret_of_W Tryz.func8 rfl rfl rfl ?_
 refine W.seq ?_
 refine W.region rfl ?_
 refine t_alloc (cs := [.slice none 0 0, .slice none 0 0, .slice none 0 0]) H Al27 rfl ?_
 intro aE gr H
 refine t_alloc (cs := [.slice none 0 0, .slice none 0 0]) H Al30 rfl ?_
 intro aF gu H
 refine s_nil ?_
 refine W.seq ?_
 refine W.region rfl ?_
 refine t_alloc (cs := [.slice none 0 0, .slice none 0 0, .slice none 0 0]) H Al27 rfl ?_
 intro ag gv H
 refine s_nil ?_
 refine W.seq ?_
 refine W.region rfl ?_
 refine t_alloc (cs := [.slice none 0 0, .slice none 0 0]) H Al30 rfl ?_
 intro aj gw H
 refine s_nil ?_
 refine W.seq ?_
 refine W.region rfl ?_
 refine zM (Pq ae) rfl ?_
 obtain ⟨gx, cL, hM⟩ := M.e_bind hM
 refine s_call cf14 [Pq ae, I 50] rfl (zad s_bytes s_used s_mix 50 (au.app _) av cL _ ((H.pk [4, 0, 1, 2, 3]).gt 4)) ?_
 rintro vq gy ⟨r2, q1, q2, cM, hvq, ac⟩
 subst cM
 subst vq
 try dsimp only at hM
 replace H := H.pk [4, 0, 1, 2, 3] |>.bk ac
 clear ac
 refine zM (Pq ae) rfl ?_
 obtain ⟨gz, cN, hM⟩ := M.e_bind hM
 refine s_call cf48 [Pq ae, I 100, I 400] rfl (zah s_bytes q1 q2 100 400 (au.app _) av cN _ (H.gt 4)) ?_
 rintro vq gA ⟨r3, cO, cP, cQ, hvq, ac⟩
 subst cQ
 subst vq
 try dsimp only at hM
 replace H := H.bk ac
 clear ac
 refine zA (I r2) rfl ?_
 refine zA (I r3) rfl ?_
 refine s_nil ?_
 refine W.seq ?_
 refine W.seq ?_
 refine W.region rfl ?_
 refine zM (Pq ae) rfl ?_
 obtain ⟨gB, cR, hM⟩ := M.e_bind hM
 refine s_call cf48 [Pq ae, I 2, I 5] rfl (zah s_bytes cO cP 2 5 (au.app _) av cR _ (H.gt 4)) ?_
 rintro vq gC ⟨r4, cS, cT, cU, hvq, ac⟩
 subst cU
 subst vq
 try dsimp only at hM
 replace H := H.bk ac
 clear ac
 refine zA (I r4) rfl ?_
 refine s_nil ?_
 refine W.block ?_
 obtain ⟨ce, H⟩ := H.emptyE
 replace H := H.nilOwn (α := Raw 1) 68
 have cV : RepR (α := Sect) (n := 1) ce.cells [] [] := .nil
 replace H := H.nilOwn (α := Mrk) 70
 replace H := H.nilOwn (α := Int) 3
 replace H := H.nilOwn (α := Int) 3
 obtain ⟨cW, bF, cX⟩ := M.e_bind hM
 obtain ⟨bG, bF⟩ := M.e_iter bF
 refine W.loop (fun m σ W => ∃ (aY : Int) (aZ : Int) (place : Int) (stage : Int) (n : Int) (l9 : List Sect) (aI : List Mrk) (ai : List Int) (ab : List Int) (ak : Value) (aM : Value) (al : Value) (am : Value) (aA : List (Raw 1)) (B_l9 : Base) (ρ : Env), σ = upds ρ [(0, Pq ae), (1, I marks), (2, B lies), (6, Pq aE), (7, Pq aF), (8, Pq ag), (9, Pq aj), (10, I place), (11, I stage), (12, I n)] /\ M.iterN (zaX s_bytes marks lies) m (aY, aZ, place, stage, n, l9, aI, ai, ab) = some cW /\ St w W [cOwn (α := Int) 3 am ab, cOwn (α := Int) 3 al ai, cOwn (α := Mrk) 70 aM aI, cOwn (α := Raw 1) 68 ak aA, cRo B_l9, cBlk ae [aO, I aY, I aZ] 111, cBlk aj [al, am] 30, cBlk ag [ak, aM, .slice none 0 0] 27, cBlk aF [.slice none 0 0, .slice none 0 0] 30, cBlk aE [.slice none 0 0, .slice none 0 0, .slice none 0 0] 27] R /\ RepR (α := Sect) B_l9.cells aA l9) ?_ ?_
 ·exact ⟨_, cS, cT, r2, r3, r4, [], [], [], [], (.slice none 0 0), (.slice none 0 0), (.slice none 0 0), (.slice none 0 0), [], ce, _, upds_of _ _ ⟨rfl, rfl, rfl, rfl, rfl, rfl, rfl, rfl, rfl, rfl, trivial⟩, bF, H, cV⟩
 rintro gD σ gE ⟨aY, aZ, place, stage, n, l9, aI, ai, ab, ak, aM, al, am, aA, B_l9, ρ, rfl, cf, H, az⟩
 obtain ⟨cY, cZ, c9, hM, cg⟩ := M.e_iterN cf
 simp only [zaX] at hM
 clear cf
 refine W.seq ?_
 refine W.seq ?_
 refine W.region rfl ?_
 refine zM (I n) rfl ?_
 refine zC n 0 (decide (0 < n)) rfl rfl rfl ?_
 refine s_nil ?_
 refine W.cond (decide (0 < n)) rfl (fun bj => ?_) (fun bj => ?_)
 ·replace hM := M.e_t hM bj
  simp only [qy1, qy2, qy3, qy4, qy5, qy6, ne_eq, qy7] at bj
  refine W.skip ?_
  refine W.seq ?_
  refine W.block ?_
  refine W.seq ?_
  refine W.region rfl ?_
  refine zM (I place) rfl ?_
  refine s_val (x_bld (ps := [(0, I place)]) (zs := [I 0, .slice none 0 0]) (L' := [I place, .slice none 0 0]) rfl Tryz.underlying68 Al68 rfl (Bd68 Tryz.underlying68) (.cons (cs := [I place]) rfl rfl rfl rfl rfl <| .nil)) ?_
  refine t_alloc (cs := [I 0, .slice none 0 0]) H Al68 rfl ?_
  intro aT gF H
  refine t_sw 0 0 [I place, .slice none 0 0] (.agg #[I place, .slice none 0 0]) H rfl rfl Sz68 rfl rfl rfl rfl ?_
  intro gG H
  refine s_nil ?_
  refine W.seq ?_
  refine W.region rfl ?_
  refine zM (Pq ae) rfl ?_
  obtain ⟨gH, da, hM⟩ := M.e_bind hM
  refine s_call cf14 [Pq ae, I 60] rfl (zad s_bytes aY aZ 60 (au.app _) av da _ ((H.pk [6, 0, 1, 2, 3, 4, 5, 7, 8, 9, 10]).gt 10)) ?_
  rintro vq gI ⟨r5, db, dc, dd, hvq, ac⟩
  subst dd
  subst vq
  try dsimp only at hM
  replace H := H.pk [6, 0, 1, 2, 3, 4, 5, 7, 8, 9, 10] |>.bk ac
  clear ac
  refine zM (Pq ae) rfl ?_
  obtain ⟨gJ, de, hM⟩ := M.e_bind hM
  refine s_call cf14 [Pq ae, I 50] rfl (zad s_bytes db dc 50 (au.app _) av de _ (H.gt 10)) ?_
  rintro vq gK ⟨r6, dg, dh, di, hvq, ac⟩
  subst di
  subst vq
  try dsimp only at hM
  replace H := H.bk ac
  clear ac
  refine zA (I r5) rfl ?_
  refine zA (I r6) rfl ?_
  refine s_nil ?_
  refine W.seq ?_
  refine W.seq ?_
  refine W.region rfl ?_
  refine zM (Pq ae) rfl ?_
  obtain ⟨gL, dj, hM⟩ := M.e_bind hM
  refine s_call cf48 [Pq ae, I 2, I 4] rfl (zah s_bytes dg dh 2 4 (au.app _) av dj _ (H.gt 10)) ?_
  rintro vq gM ⟨r7, dk, dm, dp, hvq, ac⟩
  subst dp
  subst vq
  try dsimp only at hM
  replace H := H.bk ac
  clear ac
  refine zA (I r7) rfl ?_
  refine s_nil ?_
  refine W.block ?_
  replace H := H.nilOwn (α := FRow) 109
  obtain ⟨dq, bH, dr⟩ := M.e_bind hM
  obtain ⟨bG, bH⟩ := M.e_iter bH
  refine W.loop (fun m σ W => ∃ (s2 : Int) (s3 : Int) (s4 : Int) (carry : Int) (k : Int) (l : List FRow) (aN : Value) (ρ : Env), σ = upds ρ [(0, Pq ae), (1, I marks), (2, B lies), (6, Pq aE), (7, Pq aF), (8, Pq ag), (9, Pq aj), (10, I place), (11, I stage), (12, I n), (13, Pq aT), (14, I s4), (15, I carry), (16, I k)] /\ M.iterN (za5 s_bytes) m (s2, s3, s4, carry, k, l) = some dq /\ St w W [cOwn (α := FRow) 109 aN l, cBlk ae [aO, I s2, I s3] 111, cBlk aT [I place, aN] 68, cOwn (α := Int) 3 am ab, cOwn (α := Int) 3 al ai, cOwn (α := Mrk) 70 aM aI, cOwn (α := Raw 1) 68 ak aA, cRo B_l9, cBlk aj [al, am] 30, cBlk ag [ak, aM, .slice none 0 0] 27, cBlk aF [.slice none 0 0, .slice none 0 0] 30, cBlk aE [.slice none 0 0, .slice none 0 0, .slice none 0 0] 27] R) ?_ ?_
  ·exact ⟨_, dk, dm, r5, r6, r7, [], (.slice none 0 0), _, upds_of _ _ ⟨rfl, rfl, rfl, rfl, rfl, rfl, rfl, rfl, rfl, rfl, rfl, rfl, rfl, rfl, trivial⟩, bH, H⟩
  rintro gN σ gO ⟨s2, s3, s4, carry, k, l, aN, ρ, rfl, ch, H⟩
  obtain ⟨dt, dv, gP, hM, ci⟩ := M.e_iterN ch
  simp only [za5] at hM
  clear ch
  refine W.seq ?_
  refine W.seq ?_
  refine W.region rfl ?_
  refine zM (I k) rfl ?_
  refine zC k 0 (decide (0 < k)) rfl rfl rfl ?_
  refine s_nil ?_
  refine W.cond (decide (0 < k)) rfl (fun bm => ?_) (fun bm => ?_)
  ·replace hM := M.e_t hM bm
   simp only [qy1, qy2, qy3, qy4, qy5, qy6, ne_eq, qy7] at bm
   refine W.skip ?_
   refine W.seq ?_
   refine W.block ?_
   refine W.seq ?_
   refine W.region rfl ?_
   refine s_val (x_fa (a := Pq aT) (v := Oq aT 1) rfl (fa_blk (o := 0) Fd68_1 Sz66)) ?_
   refine s_val (x_ld (p := Oq aT 1) (v := aN) rfl (ldb_sc Sc66 (H.bl 2) rfl)) ?_
   refine zM (I s4) rfl ?_
   refine zM (I carry) rfl ?_
   refine s_val (x_bld (ps := [(0, I s4), (1, I carry)]) (zs := [I 0, I 0]) (L' := [I s4, I carry]) rfl Tryz.underlying109 Al109 rfl (Bd109 Tryz.underlying109) (.cons (cs := [I s4]) rfl rfl rfl rfl rfl <| .cons (cs := [I carry]) rfl rfl rfl rfl rfl <| .nil)) ?_
   refine t_bs (α := FRow) T66 [.agg #[I s4, I carry]] [(⟨(s4 : Int), (carry : Int)⟩ : FRow)] H rfl (.cons rfl (Flat.rep_enc _ (⟨(s4 : Int), (carry : Int)⟩ : FRow)) <| .nil) rfl rfl rfl ?_
   intro dw gQ H
   obtain ⟨dx, hM⟩ := M.e_grd hM
   simp only [Bool.and_eq_true, decide_eq_true_eq] at dx
   refine t_app (α := FRow) (k := 1) (l := l) (l2 := [(⟨(s4 : Int), (carry : Int)⟩ : FRow)]) (l' := l ++ ([(⟨(s4 : Int), (carry : Int)⟩ : FRow)])) (vy := dw) T66 rfl H rfl rfl rfl (H.os 0) (H.ol 0) (rfl) (by first | omega | (simp only [List.length_nil] at *; omega)) ?_
   intro bI gR H
   replace H := H.nf
   refine s_val (x_fa (a := Pq aT) (v := Oq aT 1) rfl (fa_blk (o := 0) Fd68_1 Sz66)) ?_
   refine t_sw 3 1 [bI] bI H rfl rfl Sz66 (Sl.cells (H.os 1)) rfl rfl (by simp only [List.all_cons, List.all_nil, Bool.true_and, Bool.and_true, Sl.oc (H.os 1)]; try rfl) ?_
   intro gS H
   refine s_nil ?_
   refine W.region rfl ?_
   refine zM (I s4) rfl ?_
   refine zM (Pq ae) rfl ?_
   obtain ⟨gT, dy, hM⟩ := M.e_bind hM
   refine s_call cf48 [Pq ae, I 1, I 200] rfl (zah s_bytes s2 s3 1 200 (au.app _) av dy _ ((H.pk [2, 0, 1, 3, 4, 5, 6, 7, 8, 9, 10, 11, 12]).gt 12)) ?_
   rintro vq gU ⟨r8, dz, dA, dB, hvq, ac⟩
   subst dB
   subst vq
   try dsimp only at hM
   replace H := H.pk [2, 0, 1, 3, 4, 5, 6, 7, 8, 9, 10, 11, 12] |>.bk ac
   clear ac
   obtain ⟨dC, hM⟩ := M.e_grd hM
   simp only [Bool.and_eq_true, decide_eq_true_eq] at dC
   refine zR s4 r8 (s4 + r8) rfl rfl rfl (by omega) ?_
   refine zM (I carry) rfl ?_
   refine zM (Pq ae) rfl ?_
   obtain ⟨gV, dD, hM⟩ := M.e_bind hM
   refine s_call cf14 [Pq ae, I 2000] rfl (zad s_bytes dz dA 2000 (au.app _) av dD _ (H.gt 12)) ?_
   rintro vq gW ⟨r9, dE, dF, dG, hvq, ac⟩
   subst dG
   subst vq
   try dsimp only at hM
   replace H := H.bk ac
   clear ac
   obtain ⟨dH, hM⟩ := M.e_grd hM
   simp only [Bool.and_eq_true, decide_eq_true_eq] at dH
   refine zR carry r9 (carry + r9) rfl rfl rfl (by omega) ?_
   refine zA (I (s4 + r8)) rfl ?_
   refine zA (I (carry + r9)) rfl ?_
   refine s_nil ?_
   refine W.region rfl ?_
   refine zM (I k) rfl ?_
   obtain ⟨dI, hM⟩ := M.e_grd hM
   simp only [Bool.and_eq_true, decide_eq_true_eq] at dI
   refine zR k 1 (k - 1) rfl rfl rfl (by omega) ?_
   refine zA (I (k - 1)) rfl ?_
   refine s_nil ?_
   exact ⟨dt, dv, dE, dF, s4 + r8, carry + r9, k - 1, l ++ ([(⟨(s4 : Int), (carry : Int)⟩ : FRow)]), bI, _, upds_of _ _ ⟨rfl, rfl, rfl, rfl, rfl, rfl, rfl, rfl, rfl, rfl, rfl, rfl, rfl, rfl, trivial⟩, M.e_inl hM ci, (H.pk [2, 0, 3, 4, 5, 6, 7, 8, 9, 10, 11, 12])⟩
  replace hM := M.e_f hM bm
  simp only [qy1, qy2, qy3, qy4, qy5, qy6, ne_eq, qy7] at bm
  refine W.exit ?_
  have dJ := M.e_inr hM ci
  subst dJ
  replace hM := dr
  try dsimp only at hM
  refine W.seqJ (fun σ W => ∃ (aq : Int) (aU : Int) (aV : Int) (cj : Value) (ck : Value) (aP : Base) (cn : Value) (bJ : List (Raw 1)) (aW : Base) (bc : Base) (bf : Base) (a6 : Value) (a7 : Value) (a8 : Value) (bg : List (Raw 1)) (ρ : Env), σ = upds ρ [(0, Pq ae), (1, I marks), (2, B lies), (6, Pq aE), (7, Pq aF), (8, Pq ag), (9, Pq aj), (10, I place), (11, I stage), (12, I n)] /\ (zby s_bytes marks lies place stage n l9 aI ai ab l aq aU aV).Ends c9 /\ St w W [cOwn (α := Int) 3 cj ([(aq : Int)]), cBlk ae [aO, I aU, I aV] 111, cOwn (α := Int) 3 ck ([(stage : Int)]), cRo aP, cOwn (α := Raw 1) 68 cn bJ, cRo aW, cRo bc, cRo bf, cBlk aT [I place, aN] 68, cOwn (α := Int) 3 a6 (ab ++ ([(aq : Int)])), cOwn (α := Int) 3 a7 (ai ++ ([(stage : Int)])), cOwn (α := Mrk) 70 aM aI, cOwn (α := Raw 1) 68 a8 bg, cRo B_l9, cBlk aj [a7, a6] 30, cBlk ag [a8, aM, .slice none 0 0] 27, cBlk aF [.slice none 0 0, .slice none 0 0] 30, cBlk aE [.slice none 0 0, .slice none 0 0, .slice none 0 0] 27] R /\ RepR (α := Sect) aW.cells bJ ([(⟨(place : Int), l⟩ : Sect)]) /\ RepR (α := Sect) aP.cells bg (l9 ++ ([(⟨(place : Int), l⟩ : Sect)]))) ?_ ?_
  ·skip
   refine W.drawTS (fun W => St w W [cBlk aT [I place, aN] 68, cOwn (α := Mrk) 70 aM aI, cRo B_l9, cBlk aj [al, am] 30, cBlk ag [ak, aM, .slice none 0 0] 27, cBlk aF [.slice none 0 0, .slice none 0 0] 30, cBlk aE [.slice none 0 0, .slice none 0 0, .slice none 0 0] 27] R) (.q 0 (.q 1 (.q 2 (.q 5 (.q 6 (.q 7 (.q 10 (.q 11 (.q 12 (.l2 3 (.l2 4 (.q 16 (.l 8 (.l 9 (.l 13 (.l 14 (.l 15 .nil)))))) 8 (.l 4 (.q 16 (.l 9 (.l 13 (.l 14 (.l 15 .nil))))))) 8 (.l 3 (.l 4 (.q 16 (.l 9 (.l 13 (.l 14 (.l 15 .nil))))))))))))))))) 17 [17, 18, 19, 20, 21] mixed (by decide +kernel) rfl ?_
   intro gX aG
   replace H := H.ext aG
   clear aG
   refine ⟨(H.pk [2, 5, 7, 8, 9, 10, 11]), ?_⟩
   refine ts_q rfl (fun w' H => x_fa (a := Pq ag) (v := Pq ag) rfl (fa_blk (o := 0) Fd27_0 Sz23)) ?_
   refine ts_q rfl (fun w' H => x_ld (p := Pq ag) (v := ak) rfl (ldb_sc Sc23 (H.bl 4) rfl)) ?_
   refine ts_q rfl (fun w' H => x_ld (p := Pq aT) (v := .agg #[I place, aN]) rfl (ldb_ag (ds := [I place, aN]) Ag68 Sz68 (H.bl 0) rfl rfl)) ?_
   refine ts_q rfl (fun w' H => x_fa (a := Pq aj) (v := Pq aj) rfl (fa_blk (o := 0) Fd30_0 Sz28)) ?_
   refine ts_q rfl (fun w' H => x_ld (p := Pq aj) (v := al) rfl (ldb_sc Sc28 (H.bl 3) rfl)) ?_
   refine ts_q rfl (fun w' H => x_mv (v := I stage) rfl) ?_
   refine ts_q rfl (fun w' H => x_fa (a := Pq aj) (v := Oq aj 1) rfl (fa_blk (o := 0) Fd30_1 Sz28)) ?_
   refine ts_q rfl (fun w' H => x_ld (p := Oq aj 1) (v := am) rfl (ldb_sc Sc28 (H.bl 3) rfl)) ?_
   refine ts_q rfl (fun w' H => x_mv (v := Pq ae) rfl) ?_
   refine ts_l2 rfl rfl ?_ ?_
   ·skip
    obtain ⟨bc, H⟩ := H.emptyE
    obtain ⟨bf, H, dK⟩ := H.freezeE (k := 1) rfl
    replace H := H.nf
    have bu := dK
    obtain ⟨aW, H, gY, dL⟩ := H.joinE (i := 0) (j := 1) rfl rfl
    replace bu := bu.mono dL
    obtain ⟨aQ, co⟩ : ∃ r : Raw 1, r.cs = [I place, aN] := ⟨Raw.of [I place, aN] rfl (by simp only [List.all_cons, List.all_nil, Bool.true_and, Bool.and_true, Sl.oc bu]; try rfl), rfl⟩
    have bv : RepR (α := Sect) aW.cells [aQ] [(⟨(place : Int), l⟩ : Sect)] := .cons (by rw [co]; exact ⟨_, rfl, bu⟩) <| .nil
    refine t_bs (α := Raw 1) T23 [.agg #[I place, aN]] [aQ] H rfl (.cons (by rw [show (Flat.enc aQ : List Value) = aQ.cs from rfl, co]; rfl) (Flat.rep_enc _ _) <| .nil) rfl rfl rfl ?_
    intro bw gZ H
    replace H := H.nf
    have g0 := Sl.cells (H.os 0)
    have hG := Sl.oc (H.os 0)
    have hO := Sl.cells (H.os 6)
    have hZ := Sl.oc (H.os 6)
    have h9 := Sl.cells (H.os 7)
    have ia := Sl.oc (H.os 7)
    have ib := Sl.cells (H.os 9)
    have ic := Sl.oc (H.os 9)
    refine s_nil ⟨(H.pk [5, 8, 10, 11, 12, 13, 14]), ?_⟩
    refine ts_l2 rfl rfl ?_ ?_
    ·skip
     obtain ⟨dM, hM⟩ := M.e_grd hM
     simp only [Bool.and_eq_true, decide_eq_true_eq] at dM
     have bx := bv
     obtain ⟨aP, H, dN, dO⟩ := H.joinE (i := 10) (j := 1) rfl rfl
     replace az := az.mono dN
     replace bx := bx.mono dO
     have bK := az.app bx
     refine t_app (α := Raw 1) (k := 10) (l := aA) (l2 := [aQ]) (l' := aA ++ ([aQ])) (vy := bw) T23 rfl H rfl rfl rfl (H.os 1) (H.ol 1) (rfl) (by have a_ := az.len; have b_ := bx.len; (try simp only [List.length_nil] at *); first | omega | (rw [a_, b_]; omega)) ?_
     intro bL ie H
     replace H := H.nf
     have ig := Sl.cells (H.os 10)
     have ii := Sl.oc (H.os 10)
     refine s_nil ⟨(H.pk [6, 9, 11, 12, 13, 14, 15]), ?_⟩
     refine ts_q rfl (fun w' H => x_fa (a := Pq ag) (v := Pq ag) rfl (fa_blk (o := 0) Fd27_0 Sz23)) ?_
     refine ts_l rfl ?_
     refine t_bs (α := Int) T28 [I stage] [(stage : Int)] H rfl (.cons rfl (Flat.rep_enc _ (stage : Int)) <| .nil) rfl rfl rfl ?_
     intro cp ij H
     have ik := Sl.cells (H.os 0)
     have il := Sl.oc (H.os 0)
     refine s_nil ⟨(H.pk [7, 10, 12, 13, 14, 15, 16]), ?_⟩
     refine ts_l rfl ?_
     obtain ⟨dP, hM⟩ := M.e_grd hM
     simp only [Bool.and_eq_true, decide_eq_true_eq] at dP
     refine t_app (α := Int) (k := 9) (l := ai) (l2 := [(stage : Int)]) (l' := ai ++ ([(stage : Int)])) (vy := cp) T28 rfl H rfl rfl rfl (H.os 0) (H.ol 0) (rfl) (by first | omega | (simp only [List.length_nil] at *; omega)) ?_
     intro bM im H
     replace H := H.nf
     have io := Sl.cells (H.os 9)
     have iq := Sl.oc (H.os 9)
     refine s_nil ⟨(H.pk [7, 10, 12, 13, 14, 15, 16]), ?_⟩
     refine ts_l rfl ?_
     obtain ⟨ir, dQ, hM⟩ := M.e_bind hM
     refine s_call cf48 [Pq ae, I 30, I 90] rfl (zah s_bytes s2 s3 30 90 (au.app _) av dQ _ ((H.pk [6, 0, 1, 2, 3, 4, 5, 7, 8, 9, 10, 11, 12, 13, 14, 15, 16]).gt 16)) ?_
     rintro vq iw ⟨aq, aU, aV, dR, hvq, ac⟩
     subst dR
     subst vq
     try dsimp only at hM
     replace H := H.pk [6, 0, 1, 2, 3, 4, 5, 7, 8, 9, 10, 11, 12, 13, 14, 15, 16] |>.bk ac
     clear ac
     refine s_nil ⟨(H.pk [7, 10, 12, 13, 14, 15, 16]), ?_⟩
     refine ts_l rfl ?_
     refine t_bs (α := Int) T28 [I aq] [(aq : Int)] H rfl (.cons rfl (Flat.rep_enc _ (aq : Int)) <| .nil) rfl rfl rfl ?_
     intro cq iy H
     have iz := Sl.cells (H.os 0)
     have iA := Sl.oc (H.os 0)
     refine s_nil ⟨(H.pk [8, 11, 13, 14, 15, 16, 17]), ?_⟩
     refine ts_l rfl ?_
     obtain ⟨dS, hM⟩ := M.e_grd hM
     simp only [Bool.and_eq_true, decide_eq_true_eq] at dS
     refine t_app (α := Int) (k := 9) (l := ab) (l2 := [(aq : Int)]) (l' := ab ++ ([(aq : Int)])) (vy := cq) T28 rfl H rfl rfl rfl (H.os 0) (H.ol 0) (rfl) (by first | omega | (simp only [List.length_nil] at *; omega)) ?_
     intro bN iB H
     replace H := H.nf
     have iC := Sl.cells (H.os 9)
     have iD := Sl.oc (H.os 9)
     refine s_nil ⟨(H.pk [8, 11, 13, 14, 15, 16, 17]), ?_⟩
     refine ts_nil ?_
     refine sr_l rfl ?_
     refine t_sw 15 0 [bL] bL H rfl rfl Sz23 (Sl.cells (rowSl rfl (H.get (k := 12) rfl) (roLe _ (H.get (k := 3) rfl)) bK)) rfl rfl (by simp only [List.all_cons, List.all_nil, Bool.true_and, Bool.and_true, Sl.oc (rowSl rfl (H.get (k := 12) rfl) (roLe _ (H.get (k := 3) rfl)) bK)]; try rfl) ?_
     intro iE H
     refine s_nil ⟨trivial, ?_⟩
     refine sr_l rfl ?_
     refine s_val (x_fa (a := Pq aj) (v := Pq aj) rfl (fa_blk (o := 0) Fd30_0 Sz28)) ?_
     refine s_nil ⟨trivial, ?_⟩
     refine sr_l rfl ?_
     refine t_sw 14 0 [bM] bM H rfl rfl Sz28 (Sl.cells (H.os 10)) rfl rfl (by simp only [List.all_cons, List.all_nil, Bool.true_and, Bool.and_true, Sl.oc (H.os 10)]; try rfl) ?_
     intro iF H
     refine s_nil ⟨trivial, ?_⟩
     refine sr_l rfl ?_
     refine s_val (x_fa (a := Pq aj) (v := Oq aj 1) rfl (fa_blk (o := 0) Fd30_1 Sz28)) ?_
     refine s_nil ⟨trivial, ?_⟩
     refine sr_l rfl ?_
     refine t_sw 14 1 [bN] bN H rfl rfl Sz28 (Sl.cells (H.os 9)) rfl rfl (by simp only [List.all_cons, List.all_nil, Bool.true_and, Bool.and_true, Sl.oc (H.os 9)]; try rfl) ?_
     intro iG H
     refine s_nil ⟨trivial, ?_⟩
     refine sr_nil ?_
     exact ⟨aq, aU, aV, cq, cp, aP, bw, [aQ], aW, bc, bf, bN, bM, bL, aA ++ ([aQ]), _, upds_of _ _ ⟨rfl, rfl, rfl, rfl, rfl, rfl, rfl, rfl, rfl, rfl, trivial⟩, hM, H, bv, bK⟩
    skip
    refine t_bs (α := Int) T28 [I stage] [(stage : Int)] H rfl (.cons rfl (Flat.rep_enc _ (stage : Int)) <| .nil) rfl rfl rfl ?_
    intro cr iH H
    have iI := Sl.cells (H.os 0)
    have iJ := Sl.oc (H.os 0)
    refine s_nil ⟨(H.pk [6, 9, 11, 12, 13, 14, 15]), ?_⟩
    refine ts_l rfl ?_
    obtain ⟨dT, hM⟩ := M.e_grd hM
    simp only [Bool.and_eq_true, decide_eq_true_eq] at dT
    have bz := bv
    obtain ⟨aP, H, dU, dV⟩ := H.joinE (i := 11) (j := 2) rfl rfl
    replace az := az.mono dU
    replace bz := bz.mono dV
    have bO := az.app bz
    refine t_app (α := Raw 1) (k := 11) (l := aA) (l2 := [aQ]) (l' := aA ++ ([aQ])) (vy := bw) T23 rfl H rfl rfl rfl (H.os 2) (H.ol 2) (rfl) (by have a_ := az.len; have b_ := bz.len; (try simp only [List.length_nil] at *); first | omega | (rw [a_, b_]; omega)) ?_
    intro bP iK H
    replace H := H.nf
    have iL := Sl.cells (H.os 11)
    have iM := Sl.oc (H.os 11)
    refine s_nil ⟨(H.pk [7, 10, 12, 13, 14, 15, 16]), ?_⟩
    refine ts_q rfl (fun w' H => x_fa (a := Pq ag) (v := Pq ag) rfl (fa_blk (o := 0) Fd27_0 Sz23)) ?_
    refine ts_l rfl ?_
    obtain ⟨dW, hM⟩ := M.e_grd hM
    simp only [Bool.and_eq_true, decide_eq_true_eq] at dW
    refine t_app (α := Int) (k := 9) (l := ai) (l2 := [(stage : Int)]) (l' := ai ++ ([(stage : Int)])) (vy := cr) T28 rfl H rfl rfl rfl (H.os 1) (H.ol 1) (rfl) (by first | omega | (simp only [List.length_nil] at *; omega)) ?_
    intro bQ iN H
    replace H := H.nf
    have iO := Sl.cells (H.os 9)
    have iP := Sl.oc (H.os 9)
    refine s_nil ⟨(H.pk [7, 10, 12, 13, 14, 15, 16]), ?_⟩
    refine ts_l rfl ?_
    obtain ⟨iQ, dX, hM⟩ := M.e_bind hM
    refine s_call cf48 [Pq ae, I 30, I 90] rfl (zah s_bytes s2 s3 30 90 (au.app _) av dX _ ((H.pk [6, 0, 1, 2, 3, 4, 5, 7, 8, 9, 10, 11, 12, 13, 14, 15, 16]).gt 16)) ?_
    rintro vq iR ⟨aq, aU, aV, dY, hvq, ac⟩
    subst dY
    subst vq
    try dsimp only at hM
    replace H := H.pk [6, 0, 1, 2, 3, 4, 5, 7, 8, 9, 10, 11, 12, 13, 14, 15, 16] |>.bk ac
    clear ac
    refine s_nil ⟨(H.pk [7, 10, 12, 13, 14, 15, 16]), ?_⟩
    refine ts_l rfl ?_
    refine t_bs (α := Int) T28 [I aq] [(aq : Int)] H rfl (.cons rfl (Flat.rep_enc _ (aq : Int)) <| .nil) rfl rfl rfl ?_
    intro ct iS H
    have iT := Sl.cells (H.os 0)
    have iU := Sl.oc (H.os 0)
    refine s_nil ⟨(H.pk [8, 11, 13, 14, 15, 16, 17]), ?_⟩
    refine ts_l rfl ?_
    obtain ⟨dZ, hM⟩ := M.e_grd hM
    simp only [Bool.and_eq_true, decide_eq_true_eq] at dZ
    refine t_app (α := Int) (k := 9) (l := ab) (l2 := [(aq : Int)]) (l' := ab ++ ([(aq : Int)])) (vy := ct) T28 rfl H rfl rfl rfl (H.os 0) (H.ol 0) (rfl) (by first | omega | (simp only [List.length_nil] at *; omega)) ?_
    intro bR iV H
    replace H := H.nf
    have iW := Sl.cells (H.os 9)
    have iX := Sl.oc (H.os 9)
    refine s_nil ⟨(H.pk [8, 11, 13, 14, 15, 16, 17]), ?_⟩
    refine ts_nil ?_
    refine sr_l rfl ?_
    refine t_sw 15 0 [bP] bP H rfl rfl Sz23 (Sl.cells (rowSl rfl (H.get (k := 12) rfl) (roLe _ (H.get (k := 2) rfl)) bO)) rfl rfl (by simp only [List.all_cons, List.all_nil, Bool.true_and, Bool.and_true, Sl.oc (rowSl rfl (H.get (k := 12) rfl) (roLe _ (H.get (k := 2) rfl)) bO)]; try rfl) ?_
    intro iY H
    refine s_nil ⟨trivial, ?_⟩
    refine sr_l rfl ?_
    refine s_val (x_fa (a := Pq aj) (v := Pq aj) rfl (fa_blk (o := 0) Fd30_0 Sz28)) ?_
    refine s_nil ⟨trivial, ?_⟩
    refine sr_l rfl ?_
    refine t_sw 14 0 [bQ] bQ H rfl rfl Sz28 (Sl.cells (H.os 10)) rfl rfl (by simp only [List.all_cons, List.all_nil, Bool.true_and, Bool.and_true, Sl.oc (H.os 10)]; try rfl) ?_
    intro iZ H
    refine s_nil ⟨trivial, ?_⟩
    refine sr_l rfl ?_
    refine s_val (x_fa (a := Pq aj) (v := Oq aj 1) rfl (fa_blk (o := 0) Fd30_1 Sz28)) ?_
    refine s_nil ⟨trivial, ?_⟩
    refine sr_l rfl ?_
    refine t_sw 14 1 [bR] bR H rfl rfl Sz28 (Sl.cells (H.os 9)) rfl rfl (by simp only [List.all_cons, List.all_nil, Bool.true_and, Bool.and_true, Sl.oc (H.os 9)]; try rfl) ?_
    intro i6 H
    refine s_nil ⟨trivial, ?_⟩
    refine sr_nil ?_
    exact ⟨aq, aU, aV, ct, cr, aP, bw, [aQ], aW, bc, bf, bR, bQ, bP, aA ++ ([aQ]), _, upds_of _ _ ⟨rfl, rfl, rfl, rfl, rfl, rfl, rfl, rfl, rfl, rfl, trivial⟩, hM, (H.pk [0, 1, 3, 2, 4, 5, 6, 7, 8, 9, 10, 11, 12, 13, 14, 15, 16, 17]), bv, bO⟩
   skip
   refine t_bs (α := Int) T28 [I stage] [(stage : Int)] H rfl (.cons rfl (Flat.rep_enc _ (stage : Int)) <| .nil) rfl rfl rfl ?_
   intro cu i7 H
   have i8 := Sl.cells (H.os 0)
   have i9 := Sl.oc (H.os 0)
   have ja := Sl.cells (H.os 1)
   have jb := Sl.oc (H.os 1)
   have jc := Sl.cells (H.os 4)
   have jd := Sl.oc (H.os 4)
   have je := Sl.cells (H.os 5)
   have jf := Sl.oc (H.os 5)
   have jg := Sl.cells (H.os 7)
   have jh := Sl.oc (H.os 7)
   refine s_nil ⟨(H.pk [3, 6, 8, 9, 10, 11, 12]), ?_⟩
   refine ts_l rfl ?_
   obtain ⟨bc, H⟩ := H.emptyE
   obtain ⟨bf, H, d4⟩ := H.freezeE (k := 2) rfl
   replace H := H.nf
   have bA := d4
   obtain ⟨aW, H, ji, d5⟩ := H.joinE (i := 0) (j := 2) rfl rfl
   replace bA := bA.mono d5
   obtain ⟨ba, cv⟩ : ∃ r : Raw 1, r.cs = [I place, aN] := ⟨Raw.of [I place, aN] rfl (by simp only [List.all_cons, List.all_nil, Bool.true_and, Bool.and_true, Sl.oc bA]; try rfl), rfl⟩
   have cw : RepR (α := Sect) aW.cells [ba] [(⟨(place : Int), l⟩ : Sect)] := .cons (by rw [cv]; exact ⟨_, rfl, bA⟩) <| .nil
   refine t_bs (α := Raw 1) T23 [.agg #[I place, aN]] [ba] H rfl (.cons (by rw [show (Flat.enc ba : List Value) = ba.cs from rfl, cv]; rfl) (Flat.rep_enc _ _) <| .nil) rfl rfl rfl ?_
   intro cx jj H
   replace H := H.nf
   have jk := Sl.cells (H.os 0)
   have jl := Sl.oc (H.os 0)
   refine s_nil ⟨(H.pk [6, 9, 11, 12, 13, 14, 15]), ?_⟩
   refine ts_l rfl ?_
   obtain ⟨d6, hM⟩ := M.e_grd hM
   simp only [Bool.and_eq_true, decide_eq_true_eq] at d6
   have bB := cw
   obtain ⟨aP, H, d7, d8⟩ := H.joinE (i := 11) (j := 1) rfl rfl
   replace az := az.mono d7
   replace bB := bB.mono d8
   have bS := az.app bB
   refine t_app (α := Raw 1) (k := 11) (l := aA) (l2 := [ba]) (l' := aA ++ ([ba])) (vy := cx) T23 rfl H rfl rfl rfl (H.os 1) (H.ol 1) (rfl) (by have a_ := az.len; have b_ := bB.len; (try simp only [List.length_nil] at *); first | omega | (rw [a_, b_]; omega)) ?_
   intro bT jm H
   replace H := H.nf
   have jn := Sl.cells (H.os 11)
   have jo := Sl.oc (H.os 11)
   refine s_nil ⟨(H.pk [7, 10, 12, 13, 14, 15, 16]), ?_⟩
   refine ts_q rfl (fun w' H => x_fa (a := Pq ag) (v := Pq ag) rfl (fa_blk (o := 0) Fd27_0 Sz23)) ?_
   refine ts_l rfl ?_
   obtain ⟨d9, hM⟩ := M.e_grd hM
   simp only [Bool.and_eq_true, decide_eq_true_eq] at d9
   refine t_app (α := Int) (k := 9) (l := ai) (l2 := [(stage : Int)]) (l' := ai ++ ([(stage : Int)])) (vy := cu) T28 rfl H rfl rfl rfl (H.os 4) (H.ol 4) (rfl) (by first | omega | (simp only [List.length_nil] at *; omega)) ?_
   intro bU jp H
   replace H := H.nf
   have jq := Sl.cells (H.os 9)
   have jr := Sl.oc (H.os 9)
   refine s_nil ⟨(H.pk [7, 10, 12, 13, 14, 15, 16]), ?_⟩
   refine ts_l rfl ?_
   obtain ⟨js, ed, hM⟩ := M.e_bind hM
   refine s_call cf48 [Pq ae, I 30, I 90] rfl (zah s_bytes s2 s3 30 90 (au.app _) av ed _ ((H.pk [6, 0, 1, 2, 3, 4, 5, 7, 8, 9, 10, 11, 12, 13, 14, 15, 16]).gt 16)) ?_
   rintro vq jt ⟨aq, aU, aV, ee, hvq, ac⟩
   subst ee
   subst vq
   try dsimp only at hM
   replace H := H.pk [6, 0, 1, 2, 3, 4, 5, 7, 8, 9, 10, 11, 12, 13, 14, 15, 16] |>.bk ac
   clear ac
   refine s_nil ⟨(H.pk [7, 10, 12, 13, 14, 15, 16]), ?_⟩
   refine ts_l rfl ?_
   refine t_bs (α := Int) T28 [I aq] [(aq : Int)] H rfl (.cons rfl (Flat.rep_enc _ (aq : Int)) <| .nil) rfl rfl rfl ?_
   intro cy ju H
   have jv := Sl.cells (H.os 0)
   have jw := Sl.oc (H.os 0)
   refine s_nil ⟨(H.pk [8, 11, 13, 14, 15, 16, 17]), ?_⟩
   refine ts_l rfl ?_
   obtain ⟨ef, hM⟩ := M.e_grd hM
   simp only [Bool.and_eq_true, decide_eq_true_eq] at ef
   refine t_app (α := Int) (k := 9) (l := ab) (l2 := [(aq : Int)]) (l' := ab ++ ([(aq : Int)])) (vy := cy) T28 rfl H rfl rfl rfl (H.os 0) (H.ol 0) (rfl) (by first | omega | (simp only [List.length_nil] at *; omega)) ?_
   intro bV jx H
   replace H := H.nf
   have jy := Sl.cells (H.os 9)
   have jz := Sl.oc (H.os 9)
   refine s_nil ⟨(H.pk [8, 11, 13, 14, 15, 16, 17]), ?_⟩
   refine ts_nil ?_
   refine sr_l rfl ?_
   refine t_sw 15 0 [bT] bT H rfl rfl Sz23 (Sl.cells (rowSl rfl (H.get (k := 12) rfl) (roLe _ (H.get (k := 2) rfl)) bS)) rfl rfl (by simp only [List.all_cons, List.all_nil, Bool.true_and, Bool.and_true, Sl.oc (rowSl rfl (H.get (k := 12) rfl) (roLe _ (H.get (k := 2) rfl)) bS)]; try rfl) ?_
   intro jA H
   refine s_nil ⟨trivial, ?_⟩
   refine sr_l rfl ?_
   refine s_val (x_fa (a := Pq aj) (v := Pq aj) rfl (fa_blk (o := 0) Fd30_0 Sz28)) ?_
   refine s_nil ⟨trivial, ?_⟩
   refine sr_l rfl ?_
   refine t_sw 14 0 [bU] bU H rfl rfl Sz28 (Sl.cells (H.os 10)) rfl rfl (by simp only [List.all_cons, List.all_nil, Bool.true_and, Bool.and_true, Sl.oc (H.os 10)]; try rfl) ?_
   intro jB H
   refine s_nil ⟨trivial, ?_⟩
   refine sr_l rfl ?_
   refine s_val (x_fa (a := Pq aj) (v := Oq aj 1) rfl (fa_blk (o := 0) Fd30_1 Sz28)) ?_
   refine s_nil ⟨trivial, ?_⟩
   refine sr_l rfl ?_
   refine t_sw 14 1 [bV] bV H rfl rfl Sz28 (Sl.cells (H.os 9)) rfl rfl (by simp only [List.all_cons, List.all_nil, Bool.true_and, Bool.and_true, Sl.oc (H.os 9)]; try rfl) ?_
   intro jC H
   refine s_nil ⟨trivial, ?_⟩
   refine sr_nil ?_
   exact ⟨aq, aU, aV, cy, cu, aP, cx, [ba], aW, bc, bf, bV, bU, bT, aA ++ ([ba]), _, upds_of _ _ ⟨rfl, rfl, rfl, rfl, rfl, rfl, rfl, rfl, rfl, rfl, trivial⟩, hM, (H.pk [0, 1, 6, 2, 3, 4, 5, 7, 8, 9, 10, 11, 12, 13, 14, 15, 16, 17]), cw, bS⟩
  rintro _ jD ⟨aq, aU, aV, cj, ck, aP, cn, bJ, aW, bc, bf, a6, a7, a8, bg, ρ, rfl, hM, H, jE, eg⟩
  unfold zby at hM
  refine W.seq ?_
  refine W.seq ?_
  refine W.region rfl ?_
  refine zM (Pq ae) rfl ?_
  obtain ⟨jF, ei, hM⟩ := M.e_bind hM
  refine s_call cf14 [Pq ae, I 3] rfl (zad s_bytes aU aV 3 (au.app _) av ei _ ((H.pk [1, 0, 2, 3, 4, 5, 6, 7, 8, 9, 10, 11, 12, 13, 14, 15, 16, 17]).gt 17)) ?_
  rintro vq jG ⟨cz, ej, ek, en, hvq, ac⟩
  subst en
  subst vq
  try dsimp only at hM
  replace H := H.pk [1, 0, 2, 3, 4, 5, 6, 7, 8, 9, 10, 11, 12, 13, 14, 15, 16, 17] |>.bk ac
  clear ac
  refine zA (I cz) rfl ?_
  refine s_nil ?_
  replace H := H.pk [0, 3, 9, 10, 11, 12, 13, 14, 15, 16, 17]
  refine W.block ?_
  obtain ⟨eo, bW, ep⟩ := M.e_bind hM
  obtain ⟨bG, bW⟩ := M.e_iter bW
  refine W.loop (fun m σ W => ∃ (bn : Int) (bo : Int) (k2 : Int) (l7 : List Mrk) (aS : Value) (ρ : Env), σ = upds ρ [(0, Pq ae), (1, I marks), (2, B lies), (6, Pq aE), (7, Pq aF), (8, Pq ag), (9, Pq aj), (10, I place), (11, I stage), (12, I n), (17, I k2)] /\ M.iterN (zaH s_bytes marks lies place stage) m (bn, bo, k2, l7) = some eo /\ St w W [cBlk ae [aO, I bn, I bo] 111, cRo aP, cOwn (α := Int) 3 a6 (ab ++ ([(aq : Int)])), cOwn (α := Int) 3 a7 (ai ++ ([(stage : Int)])), cOwn (α := Mrk) 70 aS l7, cOwn (α := Raw 1) 68 a8 bg, cRo B_l9, cBlk aj [a7, a6] 30, cBlk ag [a8, aS, .slice none 0 0] 27, cBlk aF [.slice none 0 0, .slice none 0 0] 30, cBlk aE [.slice none 0 0, .slice none 0 0, .slice none 0 0] 27] R) ?_ ?_
  ·exact ⟨_, ej, ek, cz, aI, aM, _, upds_of _ _ ⟨rfl, rfl, rfl, rfl, rfl, rfl, rfl, rfl, rfl, rfl, rfl, trivial⟩, bW, H⟩
  rintro jH σ jI ⟨bn, bo, k2, l7, aS, ρ, rfl, cA, H⟩
  obtain ⟨bX, bY, jJ, hM, bC⟩ := M.e_iterN cA
  simp only [zaH] at hM
  clear cA
  refine W.seq ?_
  refine W.seq ?_
  refine W.region rfl ?_
  refine zM (I k2) rfl ?_
  refine zC k2 0 (decide (0 < k2)) rfl rfl rfl ?_
  refine zM (B (decide (0 < k2))) rfl ?_
  refine g_val (decide (0 < k2)) (gy_t rfl) (fun hg => x_fa (a := Pq ag) (v := Oq ag 1) rfl (fa_blk (o := 0) Fd27_1 Sz24)) ?_
  refine g_val (decide (0 < k2)) (gy_t rfl) (fun hg => x_ld (p := Oq ag 1) (v := aS) (gd_of (c := decide (0 < k2)) hg (Oq ag 1)) (ldb_sc Sc24 (H.bl 8) rfl)) ?_
  refine g_val (decide (0 < k2)) (gy_t rfl) (fun hg => x_lenS T24.und (gd_of (c := decide (0 < k2)) hg (aS)) (H.os 4)) ?_
  refine g_val (decide (0 < k2)) (gy_t rfl) (fun hg => x_mv (v := I marks) rfl) ?_
  refine g_val (decide (0 < k2)) (gy_t rfl) (fun hg => x_cmp (kd := .i64) (a := (l7.length : Int)) (b := marks) (r := decide ((l7.length : Int) < marks)) (gd_of (c := decide (0 < k2)) hg (I (l7.length : Int))) (gd_of (c := decide (0 < k2)) hg (I marks)) rfl) ?_
  refine s_val (x_pand (b := decide (0 < k2)) (r := decide ((l7.length : Int) < marks)) rfl (fun hb => gd_of (c := decide (0 < k2)) (by first | exact hb | (rw [hb]; rfl) | simp_all) (B (decide ((l7.length : Int) < marks)))) rfl) ?_
  refine s_nil ?_
  refine W.cond ((decide (0 < k2)) && (decide ((l7.length : Int) < marks))) rfl (fun bZ => ?_) (fun bZ => ?_)
  ·replace hM := M.e_t hM bZ
   refine W.skip ?_
   refine W.seq ?_
   refine W.block ?_
   refine W.seq ?_
   refine W.region rfl ?_
   refine zM (I place) rfl ?_
   refine zM (Pq ae) rfl ?_
   obtain ⟨jK, eq, hM⟩ := M.e_bind hM
   refine s_call cf14 [Pq ae, I 2] rfl (zad s_bytes bn bo 2 (au.app _) av eq _ (H.gt 10)) ?_
   rintro vq jL ⟨ao, eu, ew, ey, hvq, ac⟩
   subst ey
   subst vq
   try dsimp only at hM
   replace H := H.bk ac
   clear ac
   refine zM (Pq ae) rfl ?_
   obtain ⟨jM, ez, hM⟩ := M.e_bind hM
   refine s_call cf14 [Pq ae, I 20] rfl (zad s_bytes eu ew 20 (au.app _) av ez _ (H.gt 10)) ?_
   rintro vq jN ⟨ap, eA, eB, eC, hvq, ac⟩
   subst eC
   subst vq
   try dsimp only at hM
   replace H := H.bk ac
   clear ac
   obtain ⟨eD, hM⟩ := M.e_grd hM
   simp only [Bool.and_eq_true, decide_eq_true_eq] at eD
   refine zR ao ap (ao * ap) rfl rfl rfl (by omega) ?_
   obtain ⟨eE, hM⟩ := M.e_grd hM
   simp only [Bool.and_eq_true, decide_eq_true_eq] at eE
   refine zR place (ao * ap) (place + (ao * ap)) rfl rfl rfl (by omega) ?_
   refine zM (I stage) rfl ?_
   refine zM (Pq ae) rfl ?_
   obtain ⟨jO, eF, hM⟩ := M.e_bind hM
   refine s_call cf14 [Pq ae, I 9] rfl (zad s_bytes eA eB 9 (au.app _) av eF _ (H.gt 10)) ?_
   rintro vq jP ⟨aw, eG, eH, eI, hvq, ac⟩
   subst eI
   subst vq
   try dsimp only at hM
   replace H := H.bk ac
   clear ac
   obtain ⟨eJ, hM⟩ := M.e_grd hM
   simp only [Bool.and_eq_true, decide_eq_true_eq] at eJ
   refine zR stage aw (stage - aw) rfl rfl rfl (by omega) ?_
   refine s_val (x_max (kd := .i64) (a := 0) (b := stage - aw) rfl rfl) ?_
   refine zM (I stage) rfl ?_
   refine zM (Pq ae) rfl ?_
   obtain ⟨jQ, eK, hM⟩ := M.e_bind hM
   refine s_call cf14 [Pq ae, I 9] rfl (zad s_bytes eG eH 9 (au.app _) av eK _ (H.gt 10)) ?_
   rintro vq jR ⟨ay, cB, cC, eL, hvq, ac⟩
   subst eL
   subst vq
   try dsimp only at hM
   replace H := H.bk ac
   clear ac
   obtain ⟨eM, hM⟩ := M.e_grd hM
   simp only [Bool.and_eq_true, decide_eq_true_eq] at eM
   refine zR stage ay (stage + ay) rfl rfl rfl (by omega) ?_
   refine s_val (x_bld (ps := [(0, I (max 0 (stage - aw))), (1, I (stage + ay))]) (zs := [I 0, I 0]) (L' := [I (max 0 (stage - aw)), I (stage + ay)]) rfl Tryz.underlying54 Al54 rfl (Bd54 Tryz.underlying54) (.cons (cs := [I (max 0 (stage - aw))]) rfl rfl rfl rfl rfl <| .cons (cs := [I (stage + ay)]) rfl rfl rfl rfl rfl <| .nil)) ?_
   refine s_val (x_bld (ps := [(0, I (place + (ao * ap))), (1, .agg #[I (max 0 (stage - aw)), I (stage + ay)])]) (zs := [I 0, I 0, I 0]) (L' := [I (place + (ao * ap)), I (max 0 (stage - aw)), I (stage + ay)]) rfl Tryz.underlying70 Al70 rfl (Bd70 Tryz.underlying70) (.cons (cs := [I (place + (ao * ap))]) rfl rfl rfl rfl rfl <| .cons (cs := [I (max 0 (stage - aw)), I (stage + ay)]) rfl rfl rfl rfl rfl <| .nil)) ?_
   refine t_alloc (cs := [I 0, I 0, I 0]) H Al70 rfl ?_
   intro aJ jS H
   refine t_sw 0 0 [I (place + (ao * ap)), I (max 0 (stage - aw)), I (stage + ay)] (.agg #[I (place + (ao * ap)), I (max 0 (stage - aw)), I (stage + ay)]) H rfl rfl Sz70 rfl rfl rfl rfl ?_
   intro jT H
   refine s_nil ?_
   refine W.seq ?_
   refine W.seq ?_
   refine W.region rfl ?_
   refine zM (B lies) rfl ?_
   refine zM (B lies) rfl ?_
   refine g_val lies (gy_t rfl) (fun hg => x_mv (v := Pq ae) rfl) ?_
   refine g_splitV lies (I 0) (gy_t rfl) (fun bp => ?_) (fun bp => ?_)
   ·replace hM := M.e_t hM bp
    obtain ⟨jU, eN, hM⟩ := M.e_bind hM
    refine s_call cf14 [Pq ae, I 3] (lst2 (gd_of (c := lies) bp (Pq ae)) rfl) (zad s_bytes cB cC 3 (au.app _) av eN _ ((H.pk [1, 0, 2, 3, 4, 5, 6, 7, 8, 9, 10, 11]).gt 11)) ?_
    rintro vq jV ⟨bq, cD, cE, eO, hvq, ac⟩
    subst eO
    subst vq
    try dsimp only at hM
    replace H := H.pk [1, 0, 2, 3, 4, 5, 6, 7, 8, 9, 10, 11] |>.bk ac
    clear ac
    refine g_val lies (gy_t rfl) (fun hg => x_cmp (kd := .i64) (a := bq) (b := 0) (r := bq == 0) rfl rfl rfl) ?_
    refine s_val (x_pand (b := lies) (r := bq == 0) rfl (fun hb => gd_of (c := lies) (by first | exact hb | (rw [hb]; rfl) | simp_all) (B (bq == 0))) rfl) ?_
    refine s_nil ?_
    refine W.cond (lies && (bq == 0)) rfl (fun b3 => ?_) (fun b3 => ?_)
    ·replace hM := M.e_t hM b3
     refine W.seq ?_
     refine W.region rfl ?_
     refine zM (Pq ae) rfl ?_
     obtain ⟨jW, eP, hM⟩ := M.e_bind hM
     refine s_call cf48 [Pq ae, I 50, I 420] rfl (zah s_bytes cD cE 50 420 (au.app _) av eP _ (H.gt 11)) ?_
     rintro vq jX ⟨ax, eQ, eR, eS, hvq, ac⟩
     subst eS
     subst vq
     try dsimp only at hM
     replace H := H.bk ac
     clear ac
     refine s_val (x_bld (ps := [(0, I ax)]) (zs := [I 0, I 0]) (L' := [I ax, I 0]) rfl Tryz.underlying54 Al54 rfl (Bd54 Tryz.underlying54) (.cons (cs := [I ax]) rfl rfl rfl rfl rfl <| .nil)) ?_
     refine s_val (x_fa (a := Pq aJ) (v := Oq aJ 1) rfl (fa_blk (o := 0) Fd70_1 Sz54)) ?_
     refine t_sw 1 1 [I ax, I 0] (.agg #[I ax, I 0]) H rfl rfl Sz54 rfl rfl rfl rfl ?_
     intro jY H
     refine s_nil ?_
     refine W.drawTS (fun W => St w W [cBlk aJ [I (place + (ao * ap)), I ax, I 0] 70, cRo aP, cOwn (α := Int) 3 a6 (ab ++ ([(aq : Int)])), cOwn (α := Int) 3 a7 (ai ++ ([(stage : Int)])), cOwn (α := Mrk) 70 aS l7, cOwn (α := Raw 1) 68 a8 bg, cRo B_l9, cBlk aj [a7, a6] 30, cBlk ag [a8, aS, .slice none 0 0] 27, cBlk aF [.slice none 0 0, .slice none 0 0] 30, cBlk aE [.slice none 0 0, .slice none 0 0, .slice none 0 0] 27] R) (.q 0 (.q 1 (.q 2 (.q 3 (.l 4 (.q 5 (.q 6 (.q 7 .nil)))))))) 8 [8] mixed (by decide +kernel) rfl ?_
     intro jZ aG
     replace H := H.ext aG
     clear aG
     refine ⟨(H.pk [1, 2, 3, 4, 5, 6, 7, 8, 9, 10, 11]), ?_⟩
     refine ts_q rfl (fun w' H => x_fa (a := Pq aJ) (v := Oq aJ 1) rfl (fa_blk (o := 0) Fd70_1 Sz54)) ?_
     refine ts_q rfl (fun w' H => x_fa (a := Oq aJ 1) (v := Oq aJ 1) rfl (fa_blk (o := 1) Fd54_0 Sz3)) ?_
     refine ts_q rfl (fun w' H => x_ld (p := Oq aJ 1) (v := I ax) rfl (ldb_sc Sc3 (H.bl 0) rfl)) ?_
     refine ts_q rfl (fun w' H => x_mv (v := Pq ae) rfl) ?_
     refine ts_l rfl ?_
     obtain ⟨j0, eT, hM⟩ := M.e_bind hM
     refine s_call cf14 [Pq ae, I 9] rfl (zad s_bytes eQ eR 9 (au.app _) av eT _ (H.gt 11)) ?_
     rintro vq j6 ⟨aR, eU, eV, eW, hvq, ac⟩
     subst eW
     subst vq
     try dsimp only at hM
     replace H := H.bk ac
     clear ac
     refine s_nil ⟨(H.pk [1, 2, 3, 4, 5, 6, 7, 8, 9, 10, 11]), ?_⟩
     obtain ⟨eX, hM⟩ := M.e_grd hM
     simp only [Bool.and_eq_true, decide_eq_true_eq] at eX
     refine ts_q rfl (fun w' H => x_ari (a := ax) (b := aR) (r := ax + aR) rfl rfl rfl (by omega)) ?_
     refine ts_q rfl (fun w' H => x_fa (a := Pq aJ) (v := Oq aJ 1) rfl (fa_blk (o := 0) Fd70_1 Sz54)) ?_
     refine ts_q rfl (fun w' H => x_fa (a := Oq aJ 1) (v := Oq aJ 2) rfl (fa_blk (o := 1) Fd54_1 Sz3)) ?_
     refine ts_nil ?_
     refine sr_l rfl ?_
     refine t_sw 1 2 [I (ax + aR)] (I (ax + aR)) H rfl rfl Sz3 rfl rfl rfl rfl ?_
     intro j7 H
     refine s_nil ⟨trivial, ?_⟩
     refine sr_nil ?_
     refine W.region rfl ?_
     refine s_val (x_fa (a := Pq ag) (v := Oq ag 1) rfl (fa_blk (o := 0) Fd27_1 Sz24)) ?_
     refine s_val (x_ld (p := Oq ag 1) (v := aS) rfl (ldb_sc Sc24 (H.bl 9) rfl)) ?_
     refine s_val (x_ld (p := Pq aJ) (v := .agg #[I (place + (ao * ap)), I ax, I (ax + aR)]) rfl (ldb_ag (ds := [I (place + (ao * ap)), I ax, I (ax + aR)]) Ag70 Sz70 (H.bl 1) rfl rfl)) ?_
     refine t_bs (α := Mrk) T24 [.agg #[I (place + (ao * ap)), I ax, I (ax + aR)]] [(⟨(place + (ao * ap) : Int), (ax : Int), (ax + aR : Int)⟩ : Mrk)] H rfl (.cons rfl (Flat.rep_enc _ (⟨(place + (ao * ap) : Int), (ax : Int), (ax + aR : Int)⟩ : Mrk)) <| .nil) rfl rfl rfl ?_
     intro eY j8 H
     obtain ⟨eZ, hM⟩ := M.e_grd hM
     simp only [Bool.and_eq_true, decide_eq_true_eq] at eZ
     refine t_app (α := Mrk) (k := 6) (l := l7) (l2 := [(⟨(place + (ao * ap) : Int), (ax : Int), (ax + aR : Int)⟩ : Mrk)]) (l' := l7 ++ ([(⟨(place + (ao * ap) : Int), (ax : Int), (ax + aR : Int)⟩ : Mrk)])) (vy := eY) T24 rfl H rfl rfl rfl (H.os 0) (H.ol 0) (rfl) (by first | omega | (simp only [List.length_nil] at *; omega)) ?_
     intro b4 j9 H
     replace H := H.nf
     refine s_val (x_fa (a := Pq ag) (v := Oq ag 1) rfl (fa_blk (o := 0) Fd27_1 Sz24)) ?_
     refine t_sw 10 1 [b4] b4 H rfl rfl Sz24 (Sl.cells (H.os 6)) rfl rfl (by simp only [List.all_cons, List.all_nil, Bool.true_and, Bool.and_true, Sl.oc (H.os 6)]; try rfl) ?_
     intro ke H
     refine s_nil ?_
     replace H := H.pk [1, 3, 4, 5, 6, 7, 8, 9, 10, 11, 12]
     refine W.region rfl ?_
     refine zM (I k2) rfl ?_
     obtain ⟨e6, hM⟩ := M.e_grd hM
     simp only [Bool.and_eq_true, decide_eq_true_eq] at e6
     refine zR k2 1 (k2 - 1) rfl rfl rfl (by omega) ?_
     refine zA (I (k2 - 1)) rfl ?_
     refine s_nil ?_
     exact ⟨bX, bY, eU, eV, k2 - 1, l7 ++ ([(⟨(place + (ao * ap) : Int), (ax : Int), (ax + aR : Int)⟩ : Mrk)]), b4, _, upds_of _ _ ⟨rfl, rfl, rfl, rfl, rfl, rfl, rfl, rfl, rfl, rfl, rfl, trivial⟩, M.e_inl hM bC, H⟩
    replace hM := M.e_f hM b3
    refine W.skip ?_
    refine W.region rfl ?_
    refine s_val (x_fa (a := Pq ag) (v := Oq ag 1) rfl (fa_blk (o := 0) Fd27_1 Sz24)) ?_
    refine s_val (x_ld (p := Oq ag 1) (v := aS) rfl (ldb_sc Sc24 (H.bl 9) rfl)) ?_
    refine s_val (x_ld (p := Pq aJ) (v := .agg #[I (place + (ao * ap)), I (max 0 (stage - aw)), I (stage + ay)]) rfl (ldb_ag (ds := [I (place + (ao * ap)), I (max 0 (stage - aw)), I (stage + ay)]) Ag70 Sz70 (H.bl 1) rfl rfl)) ?_
    refine t_bs (α := Mrk) T24 [.agg #[I (place + (ao * ap)), I (max 0 (stage - aw)), I (stage + ay)]] [(⟨(place + (ao * ap) : Int), (max 0 (stage - aw) : Int), (stage + ay : Int)⟩ : Mrk)] H rfl (.cons rfl (Flat.rep_enc _ (⟨(place + (ao * ap) : Int), (max 0 (stage - aw) : Int), (stage + ay : Int)⟩ : Mrk)) <| .nil) rfl rfl rfl ?_
    intro e7 kg H
    obtain ⟨e8, hM⟩ := M.e_grd hM
    simp only [Bool.and_eq_true, decide_eq_true_eq] at e8
    refine t_app (α := Mrk) (k := 6) (l := l7) (l2 := [(⟨(place + (ao * ap) : Int), (max 0 (stage - aw) : Int), (stage + ay : Int)⟩ : Mrk)]) (l' := l7 ++ ([(⟨(place + (ao * ap) : Int), (max 0 (stage - aw) : Int), (stage + ay : Int)⟩ : Mrk)])) (vy := e7) T24 rfl H rfl rfl rfl (H.os 0) (H.ol 0) (rfl) (by first | omega | (simp only [List.length_nil] at *; omega)) ?_
    intro b5 kh H
    replace H := H.nf
    refine s_val (x_fa (a := Pq ag) (v := Oq ag 1) rfl (fa_blk (o := 0) Fd27_1 Sz24)) ?_
    refine t_sw 10 1 [b5] b5 H rfl rfl Sz24 (Sl.cells (H.os 6)) rfl rfl (by simp only [List.all_cons, List.all_nil, Bool.true_and, Bool.and_true, Sl.oc (H.os 6)]; try rfl) ?_
    intro ki H
    refine s_nil ?_
    replace H := H.pk [1, 3, 4, 5, 6, 7, 8, 9, 10, 11, 12]
    refine W.region rfl ?_
    refine zM (I k2) rfl ?_
    obtain ⟨e9, hM⟩ := M.e_grd hM
    simp only [Bool.and_eq_true, decide_eq_true_eq] at e9
    refine zR k2 1 (k2 - 1) rfl rfl rfl (by omega) ?_
    refine zA (I (k2 - 1)) rfl ?_
    refine s_nil ?_
    exact ⟨bX, bY, cD, cE, k2 - 1, l7 ++ ([(⟨(place + (ao * ap) : Int), (max 0 (stage - aw) : Int), (stage + ay : Int)⟩ : Mrk)]), b5, _, upds_of _ _ ⟨rfl, rfl, rfl, rfl, rfl, rfl, rfl, rfl, rfl, rfl, rfl, trivial⟩, M.e_inl hM bC, H⟩
   replace hM := M.e_f hM bp
   refine g_val (v := B false) lies (gy_t rfl) (fun hg => Bool.noConfusion (bp.symm.trans hg)) ?_
   refine s_val (x_pand0 (b := lies) rfl (fun hb => gd_of (c := lies) (by first | exact hb | (rw [hb]; rfl) | simp_all) (B false)) rfl) ?_
   refine s_nil ?_
   refine W.cond false rfl (fun cF => ?_) (fun cF => ?_)
   ·skip
    exact absurd cF (by decide)
   skip
   refine W.skip ?_
   refine W.region rfl ?_
   refine s_val (x_fa (a := Pq ag) (v := Oq ag 1) rfl (fa_blk (o := 0) Fd27_1 Sz24)) ?_
   refine s_val (x_ld (p := Oq ag 1) (v := aS) rfl (ldb_sc Sc24 (H.bl 9) rfl)) ?_
   refine s_val (x_ld (p := Pq aJ) (v := .agg #[I (place + (ao * ap)), I (max 0 (stage - aw)), I (stage + ay)]) rfl (ldb_ag (ds := [I (place + (ao * ap)), I (max 0 (stage - aw)), I (stage + ay)]) Ag70 Sz70 (H.bl 0) rfl rfl)) ?_
   refine t_bs (α := Mrk) T24 [.agg #[I (place + (ao * ap)), I (max 0 (stage - aw)), I (stage + ay)]] [(⟨(place + (ao * ap) : Int), (max 0 (stage - aw) : Int), (stage + ay : Int)⟩ : Mrk)] H rfl (.cons rfl (Flat.rep_enc _ (⟨(place + (ao * ap) : Int), (max 0 (stage - aw) : Int), (stage + ay : Int)⟩ : Mrk)) <| .nil) rfl rfl rfl ?_
   intro fa kj H
   obtain ⟨fb, hM⟩ := M.e_grd hM
   simp only [Bool.and_eq_true, decide_eq_true_eq] at fb
   refine t_app (α := Mrk) (k := 6) (l := l7) (l2 := [(⟨(place + (ao * ap) : Int), (max 0 (stage - aw) : Int), (stage + ay : Int)⟩ : Mrk)]) (l' := l7 ++ ([(⟨(place + (ao * ap) : Int), (max 0 (stage - aw) : Int), (stage + ay : Int)⟩ : Mrk)])) (vy := fa) T24 rfl H rfl rfl rfl (H.os 0) (H.ol 0) (rfl) (by first | omega | (simp only [List.length_nil] at *; omega)) ?_
   intro b6 km H
   replace H := H.nf
   refine s_val (x_fa (a := Pq ag) (v := Oq ag 1) rfl (fa_blk (o := 0) Fd27_1 Sz24)) ?_
   refine t_sw 10 1 [b6] b6 H rfl rfl Sz24 (Sl.cells (H.os 6)) rfl rfl (by simp only [List.all_cons, List.all_nil, Bool.true_and, Bool.and_true, Sl.oc (H.os 6)]; try rfl) ?_
   intro kn H
   refine s_nil ?_
   replace H := H.pk [2, 3, 4, 5, 6, 7, 8, 9, 10, 11, 12]
   refine W.region rfl ?_
   refine zM (I k2) rfl ?_
   obtain ⟨fd, hM⟩ := M.e_grd hM
   simp only [Bool.and_eq_true, decide_eq_true_eq] at fd
   refine zR k2 1 (k2 - 1) rfl rfl rfl (by omega) ?_
   refine zA (I (k2 - 1)) rfl ?_
   refine s_nil ?_
   exact ⟨bX, bY, cB, cC, k2 - 1, l7 ++ ([(⟨(place + (ao * ap) : Int), (max 0 (stage - aw) : Int), (stage + ay : Int)⟩ : Mrk)]), b6, _, upds_of _ _ ⟨rfl, rfl, rfl, rfl, rfl, rfl, rfl, rfl, rfl, rfl, rfl, trivial⟩, M.e_inl hM bC, H⟩
  replace hM := M.e_f hM bZ
  refine W.exit ?_
  have fe := M.e_inr hM bC
  subst fe
  replace hM := ep
  try dsimp only at hM
  refine W.region rfl ?_
  refine zM (I place) rfl ?_
  refine zM (Pq ae) rfl ?_
  obtain ⟨ko, ff, hM⟩ := M.e_bind hM
  refine s_call cf48 [Pq ae, I 21, I 200] rfl (zah s_bytes bn bo 21 200 (au.app _) av ff _ (H.gt 10)) ?_
  rintro vq kq ⟨bD, fg, fh, fi, hvq, ac⟩
  subst fi
  subst vq
  try dsimp only at hM
  replace H := H.bk ac
  clear ac
  obtain ⟨fj, hM⟩ := M.e_grd hM
  simp only [Bool.and_eq_true, decide_eq_true_eq] at fj
  refine zR place bD (place + bD) rfl rfl rfl (by omega) ?_
  refine zM (I stage) rfl ?_
  refine zM (Pq ae) rfl ?_
  obtain ⟨kr, fk, hM⟩ := M.e_bind hM
  refine s_call cf14 [Pq ae, I 20] rfl (zad s_bytes fg fh 20 (au.app _) av fk _ (H.gt 10)) ?_
  rintro vq ku ⟨bE, fm, fo, fp, hvq, ac⟩
  subst fp
  subst vq
  try dsimp only at hM
  replace H := H.bk ac
  clear ac
  obtain ⟨fq, hM⟩ := M.e_grd hM
  simp only [Bool.and_eq_true, decide_eq_true_eq] at fq
  refine zR stage bE (stage - bE) rfl rfl rfl (by omega) ?_
  refine zA (I (place + bD)) rfl ?_
  refine zA (I (stage - bE)) rfl ?_
  refine s_nil ?_
  refine W.region rfl ?_
  refine zM (I n) rfl ?_
  obtain ⟨fu, hM⟩ := M.e_grd hM
  simp only [Bool.and_eq_true, decide_eq_true_eq] at fu
  refine zR n 1 (n - 1) rfl rfl rfl (by omega) ?_
  refine zA (I (n - 1)) rfl ?_
  refine s_nil ?_
  exact ⟨cY, cZ, fm, fo, place + bD, stage - bE, n - 1, l9 ++ ([(⟨(place : Int), l⟩ : Sect)]), l7, ai ++ ([(stage : Int)]), ab ++ ([(aq : Int)]), a8, aS, a7, a6, bg, aP, _, upds_of _ _ ⟨rfl, rfl, rfl, rfl, rfl, rfl, rfl, rfl, rfl, rfl, trivial⟩, M.e_inl hM cg, (H.pk [2, 3, 4, 5, 1, 0, 7, 8, 9, 10]), eg⟩
 replace hM := M.e_f hM bj
 simp only [qy1, qy2, qy3, qy4, qy5, qy6, ne_eq, qy7] at bj
 refine W.exit ?_
 have fw := M.e_inr hM cg
 subst fw
 replace hM := cX
 try dsimp only at hM
 refine W.seqJ (fun σ W => ∃ (bb : List Mrk) (aB : Value) (ρ : Env), σ = upds ρ [(0, Pq ae), (6, Pq aE), (7, Pq aF), (8, Pq ag), (9, Pq aj)] /\ (zay s_bytes aY aZ ab ai l9 bb).Ends r /\ St w W [cOwn (α := Int) 3 am ab, cOwn (α := Int) 3 al ai, cOwn (α := Mrk) 70 aB bb, cOwn (α := Raw 1) 68 ak aA, cRo B_l9, cBlk ae [aO, I aY, I aZ] 111, cBlk aj [al, am] 30, cBlk ag [ak, aB, .slice none 0 0] 27, cBlk aF [.slice none 0 0, .slice none 0 0] 30, cBlk aE [.slice none 0 0, .slice none 0 0, .slice none 0 0] 27] R) ?_ ?_
 ·skip
  refine W.seq ?_
  refine W.region rfl ?_
  refine s_val (x_fa (a := Pq ag) (v := Oq ag 1) rfl (fa_blk (o := 0) Fd27_1 Sz24)) ?_
  refine s_val (x_ld (p := Oq ag 1) (v := aM) rfl (ldb_sc Sc24 (H.bl 7) rfl)) ?_
  have kv := ((H.os 2)).len_le
  refine s_val (x_lenS T24.und rfl (H.os 2)) ?_
  refine zC (aI.length : Int) 0 ((aI.length : Int) == 0) rfl rfl rfl ?_
  refine s_nil ?_
  refine W.cond ((aI.length : Int) == 0) rfl (fun br => ?_) (fun br => ?_)
  ·replace hM := M.e_t hM br
   simp only [qy1, qy2, qy3, qy4, qy5, qy6, ne_eq, qy7] at br
   refine W.drawTS (fun W => St w W [cOwn (α := Int) 3 am ab, cOwn (α := Int) 3 al ai, cOwn (α := Raw 1) 68 ak aA, cRo B_l9, cBlk ae [aO, I aY, I aZ] 111, cBlk aj [al, am] 30, cBlk ag [ak, aM, .slice none 0 0] 27, cBlk aF [.slice none 0 0, .slice none 0 0] 30, cBlk aE [.slice none 0 0, .slice none 0 0, .slice none 0 0] 27] R) (.q 0 (.q 1 (.q 2 (.q 3 (.q 4 (.q 5 (.q 6 (.q 7 (.q 8 (.q 9 (.q 10 (.q 11 (.q 12 (.q 13 (.q 14 (.q 15 (.q 16 (.q 17 (.q 18 (.l 19 (.l 20 (.q 21 .nil)))))))))))))))))))))) 22 [22] mixed (by decide +kernel) rfl ?_
   intro kw aG
   replace H := H.ext aG
   clear aG
   refine ⟨(H.pk [0, 1, 3, 4, 5, 6, 7, 8, 9]), ?_⟩
   refine ts_q rfl (fun w' H => x_fa (a := Pq ag) (v := Oq ag 1) rfl (fa_blk (o := 0) Fd27_1 Sz24)) ?_
   refine ts_q rfl (fun w' H => x_ld (p := Oq ag 1) (v := aM) rfl (ldb_sc Sc24 (H.bl 6) rfl)) ?_
   refine ts_q rfl (fun w' H => x_fa (a := Pq ag) (v := Pq ag) rfl (fa_blk (o := 0) Fd27_0 Sz23)) ?_
   refine ts_q rfl (fun w' H => x_ld (p := Pq ag) (v := ak) rfl (ldb_sc Sc23 (H.bl 6) rfl)) ?_
   obtain ⟨fx, hM⟩ := M.e_grd hM
   simp only [Bool.and_eq_true, decide_eq_true_eq] at fx
   refine ts_q rfl (fun w' H => x_ix (a := ak) (b := I 0) (v := vat ak 2 (Int.toNat 0)) rfl rfl (Sl.ix (α := Sect) T23.und T23.size (rowSl rfl (H.get (k := 2) rfl) (roLe _ (H.get (k := 3) rfl)) az) (by omega) (by omega))) ?_
   refine ts_q rfl (fun w' H => x_fa (a := vat ak 2 (Int.toNat 0)) (v := fat (vat ak 2 (Int.toNat 0)) 0) rfl (fa_pl Fd68_0 Sz3 (Sl.pl (i := 0) (rowSl rfl (H.get (k := 2) rfl) (roLe _ (H.get (k := 3) rfl)) az) (by omega) (by omega)))) ?_
   refine ts_q rfl (fun w' H => x_ld (p := fat (vat ak 2 (Int.toNat 0)) 0) (v := I ((l9.getD 0 default).place)) rfl (ld_sc Sc3 (At.mono (Sect_at0 (rowSl rfl (H.get (k := 2) rfl) (roLe _ (H.get (k := 3) rfl)) az) (i := 0) (by omega) (by omega)) (Cells.sup_le (H.ol 2) (roLe _ (H.get (k := 3) rfl)))))) ?_
   refine ts_q rfl (fun w' H => x_fa (a := Pq aj) (v := Pq aj) rfl (fa_blk (o := 0) Fd30_0 Sz28)) ?_
   refine ts_q rfl (fun w' H => x_ld (p := Pq aj) (v := al) rfl (ldb_sc Sc28 (H.bl 5) rfl)) ?_
   obtain ⟨fy, hM⟩ := M.e_grd hM
   simp only [Bool.and_eq_true, decide_eq_true_eq] at fy
   refine ts_q rfl (fun w' H => x_ix (a := al) (b := I 0) (v := vat al 1 (Int.toNat 0)) rfl rfl (Sl.ix (α := Int) T28.und T28.size (H.os 1) (by omega) (by omega))) ?_
   refine ts_q rfl (fun w' H => x_ld (p := vat al 1 (Int.toNat 0)) (v := I (ai.getD 0 0)) rfl (ld_sc Sc3 (At.mono (Int_at (H.os 1) (i := 0) (by omega) (by omega)) (H.ol 1)))) ?_
   obtain ⟨fA, hM⟩ := M.e_grd hM
   simp only [Bool.and_eq_true, decide_eq_true_eq] at fA
   refine ts_q rfl (fun w' H => x_ari (a := ai.getD 0 0) (b := 5) (r := (ai.getD 0 0) - 5) rfl rfl rfl (by omega)) ?_
   refine ts_q rfl (fun w' H => x_fa (a := Pq aj) (v := Pq aj) rfl (fa_blk (o := 0) Fd30_0 Sz28)) ?_
   refine ts_q rfl (fun w' H => x_ld (p := Pq aj) (v := al) rfl (ldb_sc Sc28 (H.bl 5) rfl)) ?_
   refine ts_q rfl (fun w' H => x_ix (a := al) (b := I 0) (v := vat al 1 (Int.toNat 0)) rfl rfl (Sl.ix (α := Int) T28.und T28.size (H.os 1) (by omega) (by omega))) ?_
   refine ts_q rfl (fun w' H => x_ld (p := vat al 1 (Int.toNat 0)) (v := I (ai.getD 0 0)) rfl (ld_sc Sc3 (At.mono (Int_at (H.os 1) (i := 0) (by omega) (by omega)) (H.ol 1)))) ?_
   obtain ⟨fB, hM⟩ := M.e_grd hM
   simp only [Bool.and_eq_true, decide_eq_true_eq] at fB
   refine ts_q rfl (fun w' H => x_ari (a := ai.getD 0 0) (b := 5) (r := (ai.getD 0 0) + 5) rfl rfl rfl (by omega)) ?_
   refine ts_q rfl (fun w' H => x_bld (ps := [(0, I ((ai.getD 0 0) - 5)), (1, I ((ai.getD 0 0) + 5))]) (zs := [I 0, I 0]) (L' := [I ((ai.getD 0 0) - 5), I ((ai.getD 0 0) + 5)]) rfl Tryz.underlying54 Al54 rfl (Bd54 Tryz.underlying54) (.cons (cs := [I ((ai.getD 0 0) - 5)]) rfl rfl rfl rfl rfl <| .cons (cs := [I ((ai.getD 0 0) + 5)]) rfl rfl rfl rfl rfl <| .nil)) ?_
   refine ts_q rfl (fun w' H => x_bld (ps := [(0, I ((l9.getD 0 default).place)), (1, .agg #[I ((ai.getD 0 0) - 5), I ((ai.getD 0 0) + 5)])]) (zs := [I 0, I 0, I 0]) (L' := [I ((l9.getD 0 default).place), I ((ai.getD 0 0) - 5), I ((ai.getD 0 0) + 5)]) rfl Tryz.underlying70 Al70 rfl (Bd70 Tryz.underlying70) (.cons (cs := [I ((l9.getD 0 default).place)]) rfl rfl rfl rfl rfl <| .cons (cs := [I ((ai.getD 0 0) - 5), I ((ai.getD 0 0) + 5)]) rfl rfl rfl rfl rfl <| .nil)) ?_
   refine ts_l rfl ?_
   refine t_bs (α := Mrk) T24 [.agg #[I ((l9.getD 0 default).place), I ((ai.getD 0 0) - 5), I ((ai.getD 0 0) + 5)]] [(⟨((l9.getD 0 default).place : Int), ((ai.getD 0 0) - 5 : Int), ((ai.getD 0 0) + 5 : Int)⟩ : Mrk)] H rfl (.cons rfl (Flat.rep_enc _ (⟨((l9.getD 0 default).place : Int), ((ai.getD 0 0) - 5 : Int), ((ai.getD 0 0) + 5 : Int)⟩ : Mrk)) <| .nil) rfl rfl rfl ?_
   intro fC kx H
   have ky := Sl.cells (H.os 0)
   have kz := Sl.oc (H.os 0)
   have kA := Sl.cells (H.os 3)
   have kB := Sl.oc (H.os 3)
   refine s_nil ⟨(H.pk [1, 2, 4, 5, 6, 7, 8, 9, 10]), ?_⟩
   refine ts_l rfl ?_
   obtain ⟨fD, hM⟩ := M.e_grd hM
   simp only [Bool.and_eq_true, decide_eq_true_eq] at fD
   refine t_app (α := Mrk) (k := 3) (l := aI) (l2 := [(⟨((l9.getD 0 default).place : Int), ((ai.getD 0 0) - 5 : Int), ((ai.getD 0 0) + 5 : Int)⟩ : Mrk)]) (l' := aI ++ ([(⟨((l9.getD 0 default).place : Int), ((ai.getD 0 0) - 5 : Int), ((ai.getD 0 0) + 5 : Int)⟩ : Mrk)])) (vy := fC) T24 rfl H rfl rfl rfl (H.os 0) (H.ol 0) (rfl) (by first | omega | (simp only [List.length_nil] at *; omega)) ?_
   intro b7 kC H
   replace H := H.nf
   have kD := Sl.cells (H.os 3)
   have kE := Sl.oc (H.os 3)
   refine s_nil ⟨(H.pk [1, 2, 4, 5, 6, 7, 8, 9, 10]), ?_⟩
   refine ts_q rfl (fun w' H => x_fa (a := Pq ag) (v := Oq ag 1) rfl (fa_blk (o := 0) Fd27_1 Sz24)) ?_
   refine ts_nil ?_
   refine sr_l rfl ?_
   refine t_sw 8 1 [b7] b7 H rfl rfl Sz24 (Sl.cells (H.os 3)) rfl rfl (by simp only [List.all_cons, List.all_nil, Bool.true_and, Bool.and_true, Sl.oc (H.os 3)]; try rfl) ?_
   intro kF H
   refine s_nil ⟨trivial, ?_⟩
   refine sr_nil ?_
   exact ⟨aI ++ ([(⟨((l9.getD 0 default).place : Int), ((ai.getD 0 0) - 5 : Int), ((ai.getD 0 0) + 5 : Int)⟩ : Mrk)]), b7, _, upds_of _ _ ⟨rfl, rfl, rfl, rfl, rfl, trivial⟩, hM, (H.pk [1, 2, 3, 4, 5, 6, 7, 8, 9, 10])⟩
  replace hM := M.e_f hM br
  simp only [qy1, qy2, qy3, qy4, qy5, qy6, ne_eq, qy7] at br
  refine W.skip ?_
  exact ⟨aI, aM, _, upds_of _ _ ⟨rfl, rfl, rfl, rfl, rfl, trivial⟩, hM, H⟩
 rintro _ kG ⟨bb, aB, ρ, rfl, hM, H⟩
 unfold zay at hM
 refine W.seq ?_
 refine W.seq ?_
 refine W.region rfl ?_
 refine zM (Pq ae) rfl ?_
 obtain ⟨kH, fE, hM⟩ := M.e_bind hM
 refine s_call cf48 [Pq ae, I 1, I 4] rfl (zah s_bytes aY aZ 1 4 (au.app _) av fE _ ((H.pk [5, 0, 1, 2, 3, 4, 6, 7, 8, 9]).gt 9)) ?_
 rintro vq kI ⟨cG, fF, fG, fH, hvq, ac⟩
 subst fH
 subst vq
 try dsimp only at hM
 replace H := H.pk [5, 0, 1, 2, 3, 4, 6, 7, 8, 9] |>.bk ac
 clear ac
 refine zA (I cG) rfl ?_
 refine s_nil ?_
 refine W.block ?_
 replace H := H.nilOwn (α := Rch) 58
 obtain ⟨fI, b8, fJ⟩ := M.e_bind hM
 obtain ⟨bG, b8⟩ := M.e_iter b8
 refine W.loop (fun m σ W => ∃ (bh : Int) (bi : Int) (n2 : Int) (aX : List Rch) (aD : Value) (ρ : Env), σ = upds ρ [(0, Pq ae), (6, Pq aE), (7, Pq aF), (8, Pq ag), (9, Pq aj), (19, I n2)] /\ M.iterN (zaI s_bytes ab l9) m (bh, bi, n2, aX) = some fI /\ St w W [cOwn (α := Rch) 58 aD aX, cBlk ae [aO, I bh, I bi] 111, cOwn (α := Int) 3 am ab, cOwn (α := Int) 3 al ai, cOwn (α := Mrk) 70 aB bb, cOwn (α := Raw 1) 68 ak aA, cRo B_l9, cBlk aj [al, am] 30, cBlk ag [ak, aB, aD] 27, cBlk aF [.slice none 0 0, .slice none 0 0] 30, cBlk aE [.slice none 0 0, .slice none 0 0, .slice none 0 0] 27] R) ?_ ?_
 ·exact ⟨_, fF, fG, cG, [], (.slice none 0 0), _, upds_of _ _ ⟨rfl, rfl, rfl, rfl, rfl, rfl, trivial⟩, b8, H⟩
 rintro kJ σ kK ⟨bh, bi, n2, aX, aD, ρ, rfl, cH, H⟩
 obtain ⟨fK, fL, kL, hM, cI⟩ := M.e_iterN cH
 simp only [zaI] at hM
 clear cH
 refine W.seq ?_
 refine W.seq ?_
 refine W.region rfl ?_
 refine zM (I n2) rfl ?_
 refine zC n2 0 (decide (0 < n2)) rfl rfl rfl ?_
 refine s_nil ?_
 refine W.cond (decide (0 < n2)) rfl (fun bt => ?_) (fun bt => ?_)
 ·replace hM := M.e_t hM bt
  simp only [qy1, qy2, qy3, qy4, qy5, qy6, ne_eq, qy7] at bt
  refine W.skip ?_
  refine W.seq ?_
  refine W.block ?_
  refine W.seq ?_
  refine W.region rfl ?_
  refine zM (Pq ae) rfl ?_
  refine s_val (x_fa (a := Pq ag) (v := Pq ag) rfl (fa_blk (o := 0) Fd27_0 Sz23)) ?_
  refine s_val (x_ld (p := Pq ag) (v := ak) rfl (ldb_sc Sc23 (H.bl 8) rfl)) ?_
  have kM := ((rowSl rfl (H.get (k := 5) rfl) (roLe _ (H.get (k := 6) rfl)) az)).len_le
  refine s_val (x_lenS T23.und rfl (rowSl rfl (H.get (k := 5) rfl) (roLe _ (H.get (k := 6) rfl)) az)) ?_
  refine zR (l9.length : Int) 1 ((l9.length : Int) - 1) rfl rfl rfl (by omega) ?_
  obtain ⟨kN, fM, hM⟩ := M.e_bind hM
  refine s_call cf14 [Pq ae, I ((l9.length : Int) - 1)] rfl (zad s_bytes bh bi ((l9.length : Int) - 1) (au.app _) av fM _ ((H.pk [1, 0, 2, 3, 4, 5, 6, 7, 8, 9, 10]).gt 10)) ?_
  rintro vq kO ⟨aa, fN, fO, fP, hvq, ac⟩
  subst fP
  subst vq
  try dsimp only at hM
  replace H := H.pk [1, 0, 2, 3, 4, 5, 6, 7, 8, 9, 10] |>.bk ac
  clear ac
  refine zM (Pq ae) rfl ?_
  obtain ⟨kP, fQ, hM⟩ := M.e_bind hM
  refine s_call cf14 [Pq ae, I 4] rfl (zad s_bytes fN fO 4 (au.app _) av fQ _ (H.gt 10)) ?_
  rintro vq kQ ⟨aH, fR, fS, fT, hvq, ac⟩
  subst fT
  subst vq
  try dsimp only at hM
  replace H := H.bk ac
  clear ac
  refine zC aH 0 (aH == 0) rfl rfl rfl ?_
  refine s_val (x_bld (ps := [(0, I aa), (3, B (aH == 0))]) (zs := [I 0, I 0, I 0, I 0, B false]) (L' := [I aa, I 0, I 0, I 0, B (aH == 0)]) rfl Tryz.underlying58 Al58 rfl (Bd58 Tryz.underlying58) (.cons (cs := [I aa]) rfl rfl rfl rfl rfl <| .cons (cs := [B (aH == 0)]) rfl rfl rfl rfl rfl <| .nil)) ?_
  refine t_alloc (cs := [I 0, I 0, I 0, I 0, B false]) H Al58 rfl ?_
  intro aC kR H
  refine t_sw 0 0 [I aa, I 0, I 0, I 0, B (aH == 0)] (.agg #[I aa, I 0, I 0, I 0, B (aH == 0)]) H rfl rfl Sz58 rfl rfl rfl rfl ?_
  intro kS H
  refine s_nil ?_
  refine W.seq ?_
  refine W.drawTS (fun W => St w W [cBlk aC [I aa, I 0, I 0, I 0, B (aH == 0)] 58, cOwn (α := Rch) 58 aD aX, cOwn (α := Int) 3 am ab, cOwn (α := Int) 3 al ai, cOwn (α := Mrk) 70 aB bb, cOwn (α := Raw 1) 68 ak aA, cRo B_l9, cBlk aj [al, am] 30, cBlk ag [ak, aB, aD] 27, cBlk aF [.slice none 0 0, .slice none 0 0] 30, cBlk aE [.slice none 0 0, .slice none 0 0, .slice none 0 0] 27] R) (.q 0 (.q 1 (.q 2 (.q 3 (.q 4 (.q 5 (.q 6 (.q 7 (.q 8 (.q 9 (.l 10 (.q 11 (.q 12 .nil))))))))))))) 13 [13] mixed (by decide +kernel) rfl ?_
  intro kT aG
  replace H := H.ext aG
  clear aG
  refine ⟨(H.pk [0, 2, 3, 4, 5, 6, 7, 8, 9, 10, 11]), ?_⟩
  refine ts_q rfl (fun w' H => x_fa (a := Pq aC) (v := Pq aC) rfl (fa_blk (o := 0) Fd58_0 Sz3)) ?_
  refine ts_q rfl (fun w' H => x_ld (p := Pq aC) (v := I aa) rfl (ldb_sc Sc3 (H.bl 0) rfl)) ?_
  refine ts_q rfl (fun w' H => x_mv (v := Pq ae) rfl) ?_
  refine ts_q rfl (fun w' H => x_fa (a := Pq ag) (v := Pq ag) rfl (fa_blk (o := 0) Fd27_0 Sz23)) ?_
  refine ts_q rfl (fun w' H => x_ld (p := Pq ag) (v := ak) rfl (ldb_sc Sc23 (H.bl 8) rfl)) ?_
  have kU := ((rowSl rfl (H.get (k := 6) rfl) (roLe _ (H.get (k := 7) rfl)) az)).len_le
  refine ts_q rfl (fun w' H => x_lenS T23.und rfl (rowSl rfl (H.get (k := 5) rfl) (roLe _ (H.get (k := 6) rfl)) az)) ?_
  refine ts_q rfl (fun w' H => x_ari (a := (l9.length : Int)) (b := 1) (r := (l9.length : Int) - 1) rfl rfl rfl (by omega)) ?_
  refine ts_q rfl (fun w' H => x_fa (a := Pq aC) (v := Pq aC) rfl (fa_blk (o := 0) Fd58_0 Sz3)) ?_
  refine ts_q rfl (fun w' H => x_ld (p := Pq aC) (v := I aa) rfl (ldb_sc Sc3 (H.bl 0) rfl)) ?_
  obtain ⟨fU, hM⟩ := M.e_grd hM
  simp only [Bool.and_eq_true, decide_eq_true_eq] at fU
  refine ts_q rfl (fun w' H => x_ari (a := (l9.length : Int) - 1) (b := aa) (r := ((l9.length : Int) - 1) - aa) rfl rfl rfl (by omega)) ?_
  refine ts_l rfl ?_
  obtain ⟨kV, fV, hM⟩ := M.e_bind hM
  refine s_call cf48 [Pq ae, I 1, I (((l9.length : Int) - 1) - aa)] rfl (zah s_bytes fR fS 1 (((l9.length : Int) - 1) - aa) (au.app _) av fV _ ((H.pk [1, 0, 2, 3, 4, 5, 6, 7, 8, 9, 10, 11]).gt 11)) ?_
  rintro vq kW ⟨ah, cJ, cK, fW, hvq, ac⟩
  subst fW
  subst vq
  try dsimp only at hM
  replace H := H.pk [1, 0, 2, 3, 4, 5, 6, 7, 8, 9, 10, 11] |>.bk ac
  clear ac
  refine s_nil ⟨(H.pk [1, 2, 3, 4, 5, 6, 7, 8, 9, 10, 11]), ?_⟩
  obtain ⟨fX, hM⟩ := M.e_grd hM
  simp only [Bool.and_eq_true, decide_eq_true_eq] at fX
  refine ts_q rfl (fun w' H => x_ari (a := aa) (b := ah) (r := aa + ah) rfl rfl rfl (by omega)) ?_
  refine ts_q rfl (fun w' H => x_fa (a := Pq aC) (v := Oq aC 1) rfl (fa_blk (o := 0) Fd58_1 Sz3)) ?_
  refine ts_nil ?_
  refine sr_l rfl ?_
  refine t_sw 1 1 [I (aa + ah)] (I (aa + ah)) H rfl rfl Sz3 rfl rfl rfl rfl ?_
  intro kX H
  refine s_nil ⟨trivial, ?_⟩
  refine sr_nil ?_
  refine W.seq ?_
  refine W.draw (fun W => St w W [cBlk ae [aO, I cJ, I cK] 111, cBlk aC [I aa, I (aa + ah), I 0, I 0, B (aH == 0)] 58, cOwn (α := Rch) 58 aD aX, cOwn (α := Int) 3 am ab, cOwn (α := Int) 3 al ai, cOwn (α := Mrk) 70 aB bb, cOwn (α := Raw 1) 68 ak aA, cRo B_l9, cBlk aj [al, am] 30, cBlk ag [ak, aB, aD] 27, cBlk aF [.slice none 0 0, .slice none 0 0] 30, cBlk aE [.slice none 0 0, .slice none 0 0, .slice none 0 0] 27] R) [(0, true), (1, true), (2, true), (3, true), (4, true), (5, true), (6, true), (7, true), (8, true), (9, true), (10, true), (11, true), (12, true), (13, true)] mixed (by decide +kernel) rfl ?_
  intro kY aG
  replace H := H.ext aG
  clear aG
  refine ⟨(H.pk [0, 1, 2, 3, 4, 5, 6, 7, 8, 9, 10, 11]), ?_⟩
  refine d_q rfl (fun w' H => x_fa (a := Pq aj) (v := Oq aj 1) rfl (fa_blk (o := 0) Fd30_1 Sz28)) ?_
  refine d_q rfl (fun w' H => x_ld (p := Oq aj 1) (v := am) rfl (ldb_sc Sc28 (H.bl 8) rfl)) ?_
  refine d_q rfl (fun w' H => x_fa (a := Pq aC) (v := Pq aC) rfl (fa_blk (o := 0) Fd58_0 Sz3)) ?_
  refine d_q rfl (fun w' H => x_ld (p := Pq aC) (v := I aa) rfl (ldb_sc Sc3 (H.bl 1) rfl)) ?_
  obtain ⟨fY, hM⟩ := M.e_grd hM
  simp only [Bool.and_eq_true, decide_eq_true_eq] at fY
  refine d_q rfl (fun w' H => x_ix (a := am) (b := I aa) (v := vat am 1 (Int.toNat aa)) rfl rfl (Sl.ix (α := Int) T28.und T28.size (H.os 3) (by omega) (by omega))) ?_
  refine d_q rfl (fun w' H => x_ld (p := vat am 1 (Int.toNat aa)) (v := I (ab.getD (Int.toNat aa) 0)) rfl (ld_sc Sc3 (At.mono (Int_at (H.os 3) (i := aa) (by omega) (by omega)) (H.ol 3)))) ?_
  refine d_q rfl (fun w' H => x_fa (a := Pq aj) (v := Oq aj 1) rfl (fa_blk (o := 0) Fd30_1 Sz28)) ?_
  refine d_q rfl (fun w' H => x_ld (p := Oq aj 1) (v := am) rfl (ldb_sc Sc28 (H.bl 8) rfl)) ?_
  refine d_q rfl (fun w' H => x_fa (a := Pq aC) (v := Oq aC 1) rfl (fa_blk (o := 0) Fd58_1 Sz3)) ?_
  refine d_q rfl (fun w' H => x_ld (p := Oq aC 1) (v := I (aa + ah)) rfl (ldb_sc Sc3 (H.bl 1) rfl)) ?_
  obtain ⟨fZ, hM⟩ := M.e_grd hM
  simp only [Bool.and_eq_true, decide_eq_true_eq] at fZ
  refine d_q rfl (fun w' H => x_ix (a := am) (b := I (aa + ah)) (v := vat am 1 (Int.toNat (aa + ah))) rfl rfl (Sl.ix (α := Int) T28.und T28.size (H.os 3) (by omega) (by omega))) ?_
  refine d_q rfl (fun w' H => x_ld (p := vat am 1 (Int.toNat (aa + ah))) (v := I (ab.getD (Int.toNat (aa + ah)) 0)) rfl (ld_sc Sc3 (At.mono (Int_at (H.os 3) (i := aa + ah) (by omega) (by omega)) (H.ol 3)))) ?_
  refine d_q rfl (fun w' H => x_as (v := I (ab.getD (Int.toNat aa) 0)) rfl) ?_
  refine d_q rfl (fun w' H => x_as (v := I (ab.getD (Int.toNat (aa + ah)) 0)) rfl) ?_
  refine d_nil ?_
  refine W.seq ?_
  refine W.region rfl ?_
  refine zM (I (ab.getD (Int.toNat aa) 0)) rfl ?_
  refine zM (I (ab.getD (Int.toNat (aa + ah)) 0)) rfl ?_
  refine s_val (x_min (kd := .i64) (a := ab.getD (Int.toNat aa) 0) (b := ab.getD (Int.toNat (aa + ah)) 0) rfl rfl) ?_
  refine zM (Pq ae) rfl ?_
  obtain ⟨kZ, f2, hM⟩ := M.e_bind hM
  refine s_call cf14 [Pq ae, I 8] rfl (zad s_bytes cJ cK 8 (au.app _) av f2 _ (H.gt 11)) ?_
  rintro vq la ⟨aK, f3, f4, f6, hvq, ac⟩
  subst f6
  subst vq
  try dsimp only at hM
  replace H := H.bk ac
  clear ac
  obtain ⟨f9, hM⟩ := M.e_grd hM
  simp only [Bool.and_eq_true, decide_eq_true_eq] at f9
  refine zR (min (ab.getD (Int.toNat aa) 0) (ab.getD (Int.toNat (aa + ah)) 0)) aK ((min (ab.getD (Int.toNat aa) 0) (ab.getD (Int.toNat (aa + ah)) 0)) - aK) rfl rfl rfl (by omega) ?_
  refine zM (I (ab.getD (Int.toNat aa) 0)) rfl ?_
  refine zM (I (ab.getD (Int.toNat (aa + ah)) 0)) rfl ?_
  refine s_val (x_max (kd := .i64) (a := ab.getD (Int.toNat aa) 0) (b := ab.getD (Int.toNat (aa + ah)) 0) rfl rfl) ?_
  refine zM (Pq ae) rfl ?_
  obtain ⟨lb, ga, hM⟩ := M.e_bind hM
  refine s_call cf14 [Pq ae, I 8] rfl (zad s_bytes f3 f4 8 (au.app _) av ga _ (H.gt 11)) ?_
  rintro vq ld ⟨aL, gc, gf, gg, hvq, ac⟩
  subst gg
  subst vq
  try dsimp only at hM
  replace H := H.bk ac
  clear ac
  obtain ⟨gh, hM⟩ := M.e_grd hM
  simp only [Bool.and_eq_true, decide_eq_true_eq] at gh
  refine zR (max (ab.getD (Int.toNat aa) 0) (ab.getD (Int.toNat (aa + ah)) 0)) aL ((max (ab.getD (Int.toNat aa) 0) (ab.getD (Int.toNat (aa + ah)) 0)) + aL) rfl rfl rfl (by omega) ?_
  refine s_val (x_bld (ps := [(0, I ((min (ab.getD (Int.toNat aa) 0) (ab.getD (Int.toNat (aa + ah)) 0)) - aK)), (1, I ((max (ab.getD (Int.toNat aa) 0) (ab.getD (Int.toNat (aa + ah)) 0)) + aL))]) (zs := [I 0, I 0]) (L' := [I ((min (ab.getD (Int.toNat aa) 0) (ab.getD (Int.toNat (aa + ah)) 0)) - aK), I ((max (ab.getD (Int.toNat aa) 0) (ab.getD (Int.toNat (aa + ah)) 0)) + aL)]) rfl Tryz.underlying54 Al54 rfl (Bd54 Tryz.underlying54) (.cons (cs := [I ((min (ab.getD (Int.toNat aa) 0) (ab.getD (Int.toNat (aa + ah)) 0)) - aK)]) rfl rfl rfl rfl rfl <| .cons (cs := [I ((max (ab.getD (Int.toNat aa) 0) (ab.getD (Int.toNat (aa + ah)) 0)) + aL)]) rfl rfl rfl rfl rfl <| .nil)) ?_
  refine s_val (x_fa (a := Pq aC) (v := Oq aC 2) rfl (fa_blk (o := 0) Fd58_2 Sz54)) ?_
  refine t_sw 1 2 [I ((min (ab.getD (Int.toNat aa) 0) (ab.getD (Int.toNat (aa + ah)) 0)) - aK), I ((max (ab.getD (Int.toNat aa) 0) (ab.getD (Int.toNat (aa + ah)) 0)) + aL)] (.agg #[I ((min (ab.getD (Int.toNat aa) 0) (ab.getD (Int.toNat (aa + ah)) 0)) - aK), I ((max (ab.getD (Int.toNat aa) 0) (ab.getD (Int.toNat (aa + ah)) 0)) + aL)]) H rfl rfl Sz54 rfl rfl rfl rfl ?_
  intro lf H
  refine s_nil ?_
  refine W.region rfl ?_
  refine s_val (x_fa (a := Pq ag) (v := Oq ag 2) rfl (fa_blk (o := 0) Fd27_2 Sz25)) ?_
  refine s_val (x_ld (p := Oq ag 2) (v := aD) rfl (ldb_sc Sc25 (H.bl 9) rfl)) ?_
  refine s_val (x_ld (p := Pq aC) (v := .agg #[I aa, I (aa + ah), I ((min (ab.getD (Int.toNat aa) 0) (ab.getD (Int.toNat (aa + ah)) 0)) - aK), I ((max (ab.getD (Int.toNat aa) 0) (ab.getD (Int.toNat (aa + ah)) 0)) + aL), B (aH == 0)]) rfl (ldb_ag (ds := [I aa, I (aa + ah), I ((min (ab.getD (Int.toNat aa) 0) (ab.getD (Int.toNat (aa + ah)) 0)) - aK), I ((max (ab.getD (Int.toNat aa) 0) (ab.getD (Int.toNat (aa + ah)) 0)) + aL), B (aH == 0)]) Ag58 Sz58 (H.bl 1) rfl rfl)) ?_
  refine t_bs (α := Rch) T25 [.agg #[I aa, I (aa + ah), I ((min (ab.getD (Int.toNat aa) 0) (ab.getD (Int.toNat (aa + ah)) 0)) - aK), I ((max (ab.getD (Int.toNat aa) 0) (ab.getD (Int.toNat (aa + ah)) 0)) + aL), B (aH == 0)]] [(⟨(aa : Int), (aa + ah : Int), ((min (ab.getD (Int.toNat aa) 0) (ab.getD (Int.toNat (aa + ah)) 0)) - aK : Int), ((max (ab.getD (Int.toNat aa) 0) (ab.getD (Int.toNat (aa + ah)) 0)) + aL : Int), (aH == 0)⟩ : Rch)] H rfl (.cons rfl (Flat.rep_enc _ (⟨(aa : Int), (aa + ah : Int), ((min (ab.getD (Int.toNat aa) 0) (ab.getD (Int.toNat (aa + ah)) 0)) - aK : Int), ((max (ab.getD (Int.toNat aa) 0) (ab.getD (Int.toNat (aa + ah)) 0)) + aL : Int), (aH == 0)⟩ : Rch)) <| .nil) rfl rfl rfl ?_
  intro gi lg H
  obtain ⟨gj, hM⟩ := M.e_grd hM
  simp only [Bool.and_eq_true, decide_eq_true_eq] at gj
  refine t_app (α := Rch) (k := 3) (l := aX) (l2 := [(⟨(aa : Int), (aa + ah : Int), ((min (ab.getD (Int.toNat aa) 0) (ab.getD (Int.toNat (aa + ah)) 0)) - aK : Int), ((max (ab.getD (Int.toNat aa) 0) (ab.getD (Int.toNat (aa + ah)) 0)) + aL : Int), (aH == 0)⟩ : Rch)]) (l' := aX ++ ([(⟨(aa : Int), (aa + ah : Int), ((min (ab.getD (Int.toNat aa) 0) (ab.getD (Int.toNat (aa + ah)) 0)) - aK : Int), ((max (ab.getD (Int.toNat aa) 0) (ab.getD (Int.toNat (aa + ah)) 0)) + aL : Int), (aH == 0)⟩ : Rch)])) (vy := gi) T25 rfl H rfl rfl rfl (H.os 0) (H.ol 0) (rfl) (by first | omega | (simp only [List.length_nil] at *; omega)) ?_
  intro b9 li H
  replace H := H.nf
  refine s_val (x_fa (a := Pq ag) (v := Oq ag 2) rfl (fa_blk (o := 0) Fd27_2 Sz25)) ?_
  refine t_sw 10 2 [b9] b9 H rfl rfl Sz25 (Sl.cells (H.os 3)) rfl rfl (by simp only [List.all_cons, List.all_nil, Bool.true_and, Bool.and_true, Sl.oc (H.os 3)]; try rfl) ?_
  intro lj H
  refine s_nil ?_
  replace H := H.pk [1, 3, 4, 5, 6, 7, 8, 9, 10, 11, 12]
  refine W.region rfl ?_
  refine zM (I n2) rfl ?_
  obtain ⟨gk, hM⟩ := M.e_grd hM
  simp only [Bool.and_eq_true, decide_eq_true_eq] at gk
  refine zR n2 1 (n2 - 1) rfl rfl rfl (by omega) ?_
  refine zA (I (n2 - 1)) rfl ?_
  refine s_nil ?_
  exact ⟨fK, fL, gc, gf, n2 - 1, aX ++ ([(⟨(aa : Int), (aa + ah : Int), ((min (ab.getD (Int.toNat aa) 0) (ab.getD (Int.toNat (aa + ah)) 0)) - aK : Int), ((max (ab.getD (Int.toNat aa) 0) (ab.getD (Int.toNat (aa + ah)) 0)) + aL : Int), (aH == 0)⟩ : Rch)]), b9, _, upds_of _ _ ⟨rfl, rfl, rfl, rfl, rfl, rfl, trivial⟩, M.e_inl hM cI, (H.pk [1, 0, 2, 3, 4, 5, 6, 7, 8, 9, 10])⟩
 replace hM := M.e_f hM bt
 simp only [qy1, qy2, qy3, qy4, qy5, qy6, ne_eq, qy7] at bt
 refine W.exit ?_
 have gl := M.e_inr hM cI
 subst gl
 replace hM := fJ
 try dsimp only at hM
 refine W.seq ?_
 refine W.draw (fun W => St w W [cOwn (α := Rch) 58 aD aX, cBlk ae [aO, I bh, I bi] 111, cOwn (α := Int) 3 am ab, cOwn (α := Int) 3 al ai, cOwn (α := Mrk) 70 aB bb, cOwn (α := Raw 1) 68 ak aA, cRo B_l9, cBlk aj [al, am] 30, cBlk ag [ak, aB, aD] 27] R) [(0, true), (1, true), (2, false), (3, false)] mixed (by decide +kernel) rfl ?_
 intro lk aG
 replace H := H.ext aG
 clear aG
 refine ⟨(H.pk [0, 1, 2, 3, 4, 5, 6, 7, 8]), ?_⟩
 refine d_q rfl (fun w' H => x_ld (p := Pq ag) (v := .agg #[ak, aB, aD]) rfl (ldb_ag (ds := [ak, aB, aD]) Ag27 Sz27 (H.bl 8) rfl rfl)) ?_
 refine d_q rfl (fun w' H => x_ld (p := Pq aj) (v := .agg #[al, am]) rfl (ldb_ag (ds := [al, am]) Ag30 Sz30 (H.bl 7) rfl rfl)) ?_
 refine d_l rfl ?_
 refine t_sw 10 0 [ak, aB, aD] (.agg #[ak, aB, aD]) H rfl rfl Sz27 rfl rfl rfl (by simp only [List.all_cons, List.all_nil, Bool.true_and, Bool.and_true, Sl.oc (rowSl rfl (H.get (k := 5) rfl) (roLe _ (H.get (k := 6) rfl)) az), Sl.oc (H.os 4), Sl.oc (H.os 0)]; try rfl) ?_
 intro ll H
 refine s_nil ⟨(H.pk [0, 1, 2, 3, 4, 5, 6, 7, 8]), ?_⟩
 refine d_l rfl ?_
 refine t_sw 9 0 [al, am] (.agg #[al, am]) H rfl rfl Sz30 rfl rfl rfl (by simp only [List.all_cons, List.all_nil, Bool.true_and, Bool.and_true, Sl.oc (H.os 3), Sl.oc (H.os 2)]; try rfl) ?_
 intro lm H
 refine s_nil ⟨(H.pk [0, 1, 2, 3, 4, 5, 6, 7, 8]), ?_⟩
 refine d_nil ?_
 replace H := H.pk [0, 1, 2, 3, 4, 5, 6, 9, 10]
 refine W.ret ?_
 have gn := (H.bl 8)
 have gp := (H.bl 7)
 have gq := M.e_pure hM
 exact ⟨_, (resE_ofn (vs := [.agg #[ak, aB, aD], .agg #[al, am]]) rfl rfl (.cell (v := .agg #[ak, aB, aD]) rfl (run_loadVar_ag (ds := [ak, aB, aD]) Ag27 Sz27 gn rfl rfl) <| .cell (v := .agg #[al, am]) rfl (run_loadVar_ag (ds := [al, am]) Ag30 Sz30 gp rfl rfl) <| .nil)), ⟨l9, bb, aX, ai, ab, bh, bi, ak, aA, B_l9, aB, aD, al, am, gq, rfl, (H.pk [5, 6, 4, 0, 3, 2, 1]), az⟩⟩

end Go.Proofs.YtlemgioaakecpaaGreat
end
