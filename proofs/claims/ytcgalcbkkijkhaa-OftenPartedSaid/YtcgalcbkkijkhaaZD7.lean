/- Part 7 of the texts on which the proof rests. Conditions: none. -/
import Derived.Test.YtcgalcbkkijkhaaZD6
set_option linter.unusedVariables false
set_option linter.unusedSimpArgs false
set_option linter.unusedSectionVars false
namespace Go.Nm
/-- The first elements turned, the others as they were. -/
def stp {α : Type} (g : α -> α) (l : List α) (i : Nat) : List α := (l.take i).map g ++ l.drop i
section
variable {α : Type} (g : α -> α) (l : List α) (d : α)
theorem stp_zero : stp g l 0 = l := by simp [stp]
theorem stp_len (i : Nat) : (stp g l i).length = l.length := by simp [stp]; omega
theorem stp_get {i : Nat} (h : i < l.length) : (stp g l i).getD i d = l.getD i d := by
  simp only [stp, List.getD]
  rw [List.getElem?_append_right (by simp; omega)]
  congr 1
  simp only [List.length_map, List.length_take, List.getElem?_drop]
  congr 1
  omega
theorem stp_set {i : Nat} (h : i < l.length) : (stp g l i).set i (g (l.getD i d)) = stp g l (i + 1) := by
  have e : l.getD i d = l[i] := by simp [List.getD, h]
  rw [e]
  simp only [stp]
  have hl : ((l.take i).map g).length = i := by simp; omega
  rw [List.set_append_right _ _ (by omega), hl, Nat.sub_self, List.drop_eq_getElem_cons h, List.set_cons_zero, List.take_succ_eq_append_getElem h, List.map_append]
  simp
theorem stp_all : stp g l l.length = l.map g := by simp [stp]
end
theorem getD_in {l : List Int} {k : Nat} (h : k < l.length) : l.getD k 0 ∈ l := by
  rw [List.getD_eq_getElem?_getD, List.getElem?_eq_getElem h, Option.getD_some]
  exact List.getElem_mem h
namespace Bk
theorem laterYt {f l d : Int} {t : List Int} {ys : List Yr} (h : Yt f l t ys) : Yt (f + d) (l + d) t (ys.map (laterY d)) := by
  refine ⟨fun r hr => ?_, ?_⟩
  · obtain ⟨q, hq, rfl⟩ := List.mem_map.1 hr
    have k := h.in_ q hq
    unfold laterY
    dsimp only
    rw [show q.year + d - (f + d) = q.year - f by omega]
    omega
  · rw [List.pairwise_map]
    refine h.up.imp fun {a b} hab => ?_
    unfold laterY
    dsimp only
    omega
theorem laterNt {f l d : Int} {t : List Int} {o : Old10} (h : Nt f l t o) : Nt (f + d) (l + d) t (laterO d o) := by
  have h1 := h.a
  have h2 := h.b
  have h3 := h.c
  refine ⟨by unfold laterO; dsimp only; omega, by unfold laterO; dsimp only; omega, by unfold laterO; dsimp only; omega, h.s1, h.s2, by unfold laterO; dsimp only; rw [List.length_map]; exact h.few, ?_, fun y => ?_⟩
  · unfold laterO
    dsimp only
    rw [List.pairwise_map]
    exact h.up.imp fun {a b} hab => by omega
  · have k := h.mem (y - d)
    have e : y ∈ (laterO d o).passed ↔ y - d ∈ o.passed := by
      unfold laterO
      dsimp only
      rw [List.mem_map]
      constructor
      · rintro ⟨x, hx, rfl⟩
        rw [show x + d - d = x by omega]
        exact hx
      · intro hx
        exact ⟨y - d, hx, by omega⟩
    rw [e, k]
    unfold laterO
    dsimp only
    rw [show y - d - f = y - (f + d) by omega]
    omega
theorem kl_later (d a : Int) (n : Nat) (ys : List Yr) {os os' : List Old10} (hp : os'.Perm (os.map (laterO d))) : kl (ys.map (laterY d)) os' (a + d) n = kl ys os a n := by
  unfold kl
  refine List.map_congr_left fun i _ => ?_
  rw [kn_perm _ hp, show a + d + (i : Int) = a + (i : Int) + d by omega, kn_later]
end Bk
end Go.Nm
namespace Go.Proofs.Ytcgalcbkkijkhaa
open Go Go.Nm
variable {ys : List Yr} {os : List Old10} {f l : Int} {t : List Int}
theorem copyD_eq : zbk = zbo := rfl
theorem moved_years {d : Int} (hd : 0 <= d /\ d <= 1000) (hy : ∀ r ∈ ys, 0 <= r.year /\ r.year <= 3000) : (M.iter (zaB d) (ys, 0)).Ends (ys.map (Bk.laterY d), ys.map (Bk.laterY d)) := by
  refine M.Out.ends ?_
  refine M.o_for ys.length (fun i (s : List Yr × Nat) => s = (stp (Bk.laterY d) ys i, i)) ?_ ?_ (by rw [stp_zero])
  · rintro i _ hi rfl
    simp only [zaB]
    have hr : ys.getD i default ∈ ys := by rw [show ys.getD i default = ys[i] from by simp [List.getD, hi]]; exact List.getElem_mem hi
    have hb := hy _ hr
    rw [stp_len, stp_get _ _ _ hi]
    refine M.o_t (decide_eq_true (by omega)) (M.o_grdD (by omega) (M.o_grd (gA2 (by omega) (by omega)) (M.o_pure ?_)))
    rw [← stp_set _ _ default hi]
    rfl
  · rintro _ rfl
    simp only [zaB]
    rw [stp_len, stp_all]
    exact M.o_f (decide_eq_false (by omega)) (M.o_pure rfl)
theorem moved_in {L : List Old10} {d : Int} (hd : 0 <= d /\ d <= 1000) {i : Nat} (hi : i < L.length) (hb : ∀ y ∈ (L.getD i default).passed, 0 <= y /\ y <= 3000) :
    (M.iter (zat d i) (L, 0)).Ends (L.set i { L.getD i default with passed := (L.getD i default).passed.map (· + d) }, L.set i { L.getD i default with passed := (L.getD i default).passed.map (· + d) }) := by
  refine M.Out.ends ?_
  have hg : ∀ o : Old10, (L.set i o).getD i default = o := fun o => by simp [List.getD, hi]
  refine M.o_for (L.getD i default).passed.length (fun k (s : List Old10 × Nat) => s = (L.set i { L.getD i default with passed := stp (· + d) (L.getD i default).passed k }, k)) ?_ ?_ ?_
  · rintro k _ hk rfl
    simp only [zat]
    rw [hg]
    dsimp only
    have hm : (L.getD i default).passed.getD k 0 ∈ (L.getD i default).passed := getD_in hk
    have hb := hb _ hm
    rw [stp_len, stp_get _ _ _ hk]
    refine M.o_grdD (by rw [List.length_set]; omega) (M.o_t (decide_eq_true (by omega)) (M.o_grdD (by omega) (M.o_grd (gA2 (by omega) (by omega)) (M.o_pure ?_))))
    rw [List.set_set, ← stp_set _ _ 0 hk]
  · rintro _ rfl
    simp only [zat]
    rw [hg]
    dsimp only
    rw [stp_len, stp_all]
    exact M.o_grdD (by rw [List.length_set]; omega) (M.o_f (decide_eq_false (by omega)) (M.o_pure rfl))
  · rw [stp_zero]
    have e : L.set i { L.getD i default with passed := (L.getD i default).passed } = L := by
      rw [show ({ L.getD i default with passed := (L.getD i default).passed } : Old10) = L[i] from by simp [List.getD, hi]]
      exact List.set_getElem_self hi
    rw [e]
theorem moved_olds {d : Int} (hd : 0 <= d /\ d <= 1000) (ho : ∀ o ∈ os, (0 <= o.src /\ o.src <= 3000) /\ (0 <= o.dst /\ o.dst <= 3000) /\ ∀ y ∈ o.passed, 0 <= y /\ y <= 3000) :
    (M.iter (zau d) (os, 0)).Ends (os.map (Bk.laterO d), os.map (Bk.laterO d)) := by
  refine M.Out.ends ?_
  refine M.o_for os.length (fun i (s : List Old10 × Nat) => s = (stp (Bk.laterO d) os i, i)) ?_ ?_ (by rw [stp_zero])
  · rintro i _ hi rfl
    simp only [zau]
    have hr : os.getD i default ∈ os := by rw [show os.getD i default = os[i] from by simp [List.getD, hi]]; exact List.getElem_mem hi
    obtain ⟨hb1, hb2, hb3⟩ := ho _ hr
    have hS := stp_len (Bk.laterO d) os i
    have hG := stp_get (Bk.laterO d) os default hi
    have hT := stp_set (Bk.laterO d) os default hi
    generalize stp (Bk.laterO d) os i = S at hS hG hT ⊢
    have hiS : i < S.length := by omega
    have hg : ∀ o : Old10, (S.set i o).getD i default = o := fun o => by simp [List.getD, hiS]
    rw [hG]
    refine M.o_t (decide_eq_true (by omega)) (M.o_grdD (by omega) (M.o_grd (gA2 (by omega) (by omega)) (M.o_grd (gA2 (by omega) (by omega)) (M.o_grdD (by rw [List.length_set]; omega) ?_))))
    simp only [zaW]
    rw [hG, hg, List.set_set]
    refine M.o_bindE (moved_in hd (by rw [List.length_set]; omega) (by rw [hg]; exact hb3)) (M.o_pure ?_)
    dsimp only
    rw [hg, List.set_set]
    dsimp only
    rw [show ({ src := (os.getD i default).src + d, dst := (os.getD i default).dst + d, stage := (os.getD i default).stage, passed := (os.getD i default).passed.map (· + d) } : Old10) = Bk.laterO d (os.getD i default) from rfl, hT]
  · rintro _ rfl
    simp only [zau]
    rw [stp_len, stp_all]
    exact M.o_f (decide_eq_false (by omega)) (M.o_pure rfl)
theorem moved_mixed (b : List UInt8) {L : List Old10} {u x : Int} (hL : L.length <= 100) (hS : SOk 1 u x) :
    (M.iter (zaS b) (u, x, L, (L.length : Int) - 1)).Out (fun y => y.1 = y.2.1 /\ y.2.1.Perm L) := by
  refine M.o_iter (fun m (s : Int × Int × List Old10 × Int) => SOk (1000 - (m : Int)) s.1 s.2.1 /\ s.2.2.1.Perm L /\ s.2.2.2 < L.length /\ m = Int.toNat s.2.2.2) ?_ (Int.toNat ((L.length : Int) - 1)) _ ⟨hS.mono (by omega), List.Perm.refl _, by dsimp only; omega, rfl⟩
  rintro m ⟨u, x, K, i⟩ ⟨hS, hp, hi, hm⟩
  dsimp only at hS hp hi hm
  simp only [zaS]
  have hK := hp.length_eq
  refine M.o_if (fun hb => ?_) (fun hb => M.o_pure ⟨rfl, hp⟩)
  have hb := of_decide_eq_true hb
  refine M.o_grd (gA2 (by omega) (by omega)) (M.o_bind (next_out hS (by omega) (by omega)) ?_)
  rintro ⟨r, u', x'⟩ ⟨k, g, _⟩
  have g := g (by omega)
  dsimp only at k g ⊢
  refine M.o_grd (gA2 (by omega) (by omega)) (M.o_grd (gA2 (by omega) (by omega)) (M.o_grd (gA2 (by omega) (by omega)) (M.o_pure ⟨Int.toNat (i - 1), by omega, ?_, ?_, by dsimp only; omega, rfl⟩)))
  · exact k.mono (by omega)
  · have h1 : Int.toNat i < K.length := by omega
    have h2 : Int.toNat r < K.length := by omega
    dsimp only
    rw [show K.getD (Int.toNat r) default = K[Int.toNat r] from by simp [List.getD, h2], show K.getD (Int.toNat i) default = K[Int.toNat i] from by simp [List.getD, h1]]
    exact (swap_perm K h1 h2).trans hp
theorem parted_rest {most : Int} (hM : Bk.Md most ys os f l t) (hm : most <= 60) (b : List UInt8) {r3 r4 r5 r6 u x : Int} (h3 : 0 <= r3) (h4 : 0 <= r4) (hl : f + r3 + r4 <= l) (h5 : 0 <= r5 /\ r5 <= 2000) (h6 : 0 <= r6 /\ r6 <= 900) (hS : SOk 1 u x) :
    (zaq b ys os f l r3 r4 r5 r6 u x (Bk.many (Bk.lop r5) ys os (f + r3) (f + r3 + r4)) (Bk.many (Bk.hip r5) ys os (f + r3) (f + r3 + r4)) (Bk.many (Bk.lop r5) ys os (f + r3) (f + r3 + r4)) (Bk.many (Bk.hip r5) ys os (f + r3) (f + r3 + r4))).Out (fun r => r = true) := by
  have h := hM.tr (by omega)
  have hf0 := hM.f0
  have hf2 := hM.f2
  have hfl := hM.fl
  have hnear := hM.near
  have hlen := hM.len
  have ho3 := hM.o3
  have hy60 := hM.y60
  have hI : Bk.In f l (f + r3) (f + r3 + r4) := ⟨by omega, by omega, by omega⟩
  unfold zaq
  refine M.o_f (by simp) ?_
  rw [copyD_eq]
  refine M.o_bindE (copyB_ends ⟨by omega, by omega, fun o ho => by have := (hM.o o ho).few; omega⟩) ?_
  dsimp only
  refine M.o_grd (gA2 (by omega) (by omega)) (M.o_grd (gA2 (by omega) (by omega)) (M.o_bindE (moved_years (by omega) fun r hr => by have := (hM.y.in_ r hr).1; omega) ?_))
  dsimp only
  refine M.o_bindE (moved_olds (by omega) fun o ho => ?_) ?_
  · have k := hM.o o ho
    have k1 := k.a
    have k2 := k.b
    have k3 := k.c
    refine ⟨by omega, by omega, fun y hy => ?_⟩
    have := (k.mem y).1 hy
    omega
  dsimp only
  refine M.o_bind (moved_mixed b (by rw [List.length_map]; omega) hS) ?_
  rintro ⟨os', os2, u', x'⟩ ⟨e, hp⟩
  dsimp only at e hp ⊢
  have h2 : Bk.Tr (ys.map (Bk.laterY r6)) os2 (f + r6) (l + r6) t := .of (by omega) (by omega) (by omega) (by omega) (by rw [List.length_map]; omega) (by rw [hp.length_eq, List.length_map]; omega) (by omega) h.all (Bk.laterYt hM.y) (fun o ho => by
    obtain ⟨q, hq, rfl⟩ := List.mem_map.1 (hp.mem_iff.1 ho)
    exact Bk.laterNt (hM.o q hq))
  have hI2 : Bk.In (f + r6) (l + r6) (f + r3 + r6) (f + r3 + r4 + r6) := ⟨by omega, by omega, by omega⟩
  have ek : Bk.kl (ys.map (Bk.laterY r6)) os2 (f + r3 + r6) (Int.toNat (f + r3 + r4 + r6 + 1 - (f + r3 + r6))) = Bk.kl ys os (f + r3) (Int.toNat (f + r3 + r4 + 1 - (f + r3))) := by
    rw [show f + r3 + r4 + r6 + 1 - (f + r3 + r6) = f + r3 + r4 + 1 - (f + r3) by omega]
    exact Bk.kl_later r6 (f + r3) _ ys hp
  have em : ∀ p, Bk.many p (ys.map (Bk.laterY r6)) os2 (f + r3 + r6) (f + r3 + r4 + r6) = Bk.many p ys os (f + r3) (f + r3 + r4) := fun p => by unfold Bk.many; rw [ek]
  refine M.o_grd (gA2 (by omega) (by omega)) (M.o_grd (gA2 (by omega) (by omega)) (M.o_bindE (tr_passed h2 hI2 (by omega)) ?_))
  dsimp only
  obtain ⟨a1, b1, g1, t1, s1⟩ := tr_reaches h hI (n := 1) (by omega)
  obtain ⟨a2, b2, g2, t2, s2⟩ := tr_reaches h2 hI2 (n := 1) (by omega)
  rw [ek] at t2 s2
  obtain rfl := t1.uniq t2
  obtain rfl := s1.uniq s2
  refine M.o_bindE g1 (M.o_bindE g2 ?_)
  dsimp only
  rw [em, em]
  refine M.o_bindE (M.i_opt (fun _ => awake_ends) (fun hh => by simp at hh)) (M.o_pure (by simp))
theorem zch (p q : List UInt8) (a b c d : Int) : (zbJ p q a b c d).Ends true := by
  refine M.Out.ends ?_
  unfold zbJ
  have hnew : ∀ p, (za4 p).Ends (0, 0) := fun _ => M.i_pure
  refine M.o_bindE (hnew p) (M.o_bind (made_out SOk.zero (by omega) (by omega)) ?_)
  rintro ⟨ys, os, f, l, t, q1, q2⟩ ⟨hM, _⟩
  dsimp only at hM ⊢
  have h := hM.tr (by omega)
  have hlen := h.len
  have hf0 := hM.f0
  have hf2 := hM.f2
  have hfl := hM.fl
  have hnear := hM.near
  refine M.o_bindE (hnew q) ?_
  dsimp only
  refine M.o_bind (pick_num (by omega)) fun r3 h3 => ?_
  refine M.o_grd (gA2 (by omega) (by omega)) (M.o_grd (gA2 (by omega) (by omega)) (M.o_grd (gA2 (by omega) (by omega)) (M.o_bind (pick_num (by omega)) fun r4 h4 => ?_)))
  refine M.o_grd (gA2 (by omega) (by omega)) (M.o_bind (pick_num (by omega)) fun r5 h5 => M.o_bind (pick_num (by omega)) fun r6 h6 => ?_)
  refine M.o_grd (gA2 (by omega) (by omega)) (M.o_grd (gA2 (by omega) (by omega)) (M.o_bind (next_out SOk.zero (by omega) (by omega)) ?_))
  rintro ⟨r7, u, x⟩ ⟨k, g, _⟩
  have g := g (by omega)
  dsimp only at k g ⊢
  have hI : Bk.In f l (f + r3) (f + r3 + r4) := ⟨by omega, by omega, by omega⟩
  have hI1 : Bk.In f l (f + r3) (f + r3 + r7) := ⟨by omega, by omega, by omega⟩
  refine M.o_grd (gA2 (by omega) (by omega)) (M.o_bindE (tr_passed h hI (by omega)) (M.o_bindE (tr_passed h hI1 (by omega)) ?_))
  dsimp only
  have hn : ∀ p, Bk.many p ys os (f + r3) (f + r3 + r7) <= 1000 /\ 0 <= Bk.many p ys os (f + r3) (f + r3 + r7) := fun p => by
    have := cnt_le (ys := ys) (os := os) p (f + r3) (Int.toNat (f + r3 + r7 + 1 - (f + r3)))
    unfold Bk.many
    omega
  refine M.o_f rfl (M.o_if (fun hb => ?_) (fun hb => ?_))
  · have hb := of_decide_eq_true hb
    have hI2 : Bk.In f l (f + r3 + r7 + 1) (f + r3 + r4) := ⟨by omega, by omega, by omega⟩
    have hn2 : ∀ p, Bk.many p ys os (f + r3 + r7 + 1) (f + r3 + r4) <= 1000 /\ 0 <= Bk.many p ys os (f + r3 + r7 + 1) (f + r3 + r4) := fun p => by
      have := cnt_le (ys := ys) (os := os) p (f + r3 + r7 + 1) (Int.toNat (f + r3 + r4 + 1 - (f + r3 + r7 + 1)))
      unfold Bk.many
      omega
    have a1 := hn (Bk.lop r5)
    have a2 := hn (Bk.hip r5)
    have a3 := hn2 (Bk.lop r5)
    have a4 := hn2 (Bk.hip r5)
    refine M.o_grd (gA2 (by omega) (by omega)) (M.o_bindE (tr_passed h hI2 (by omega)) ?_)
    dsimp only
    refine M.o_f rfl (M.o_grd (gA2 (by omega) (by omega)) (M.o_grd (gA2 (by omega) (by omega)) ?_))
    rw [← Bk.many_part (Bk.lop r5) ys os (show f + r3 <= f + r3 + r7 by omega) (show f + r3 + r7 <= f + r3 + r4 by omega), ← Bk.many_part (Bk.hip r5) ys os (show f + r3 <= f + r3 + r7 by omega) (show f + r3 + r7 <= f + r3 + r4 by omega)]
    exact parted_rest hM (by omega) q (by omega) (by omega) (by omega) (by omega) (by omega) k
  · have hb := of_decide_eq_false hb
    obtain rfl : r7 = r4 := by omega
    exact parted_rest hM (by omega) q (by omega) (by omega) (by omega) (by omega) (by omega) k
end Go.Proofs.Ytcgalcbkkijkhaa
