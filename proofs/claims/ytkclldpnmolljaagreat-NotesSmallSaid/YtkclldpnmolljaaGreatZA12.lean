/- Part 12 of the texts on which the proof rests. Conditions: none. -/
import Derived.Test.YtkclldpnmolljaaGreatZA11
set_option linter.unusedVariables false
set_option linter.unusedSimpArgs false
set_option linter.unusedSectionVars false
namespace Go.Proofs.YtkclldpnmolljaaGreat
open Go Go.Nm
theorem zfy:zc3.Ends true:=by
  unfold zc3
  refine M.i_bind (a:=.inr ()) (M.i_for (fun i=>i) 28 (fun i hi=>?_) ?_) ?_
  · have hl:(vl28).length=28:=rfl
    refine M.i_t (b:=decide ((i:Int)<((vl28).length:Int))) (decide_eq_true (by omega)) (M.i_grd (decide_eq_true (by omega)) (M.i_bind (a:=(.inr ():Unit ⊕ Unit)) (M.i_for (fun j=>j) 21 (fun j hj=>?_) ?_) M.i_pure))
    · exact ⟨600,of_decide_eq_true (List.all_eq_true.1 (e5 i hi) j (List.mem_range.2 hj))⟩
    · refine M.i_f ?_ M.i_pure
      decide
  · refine M.i_f ?_ M.i_pure
    decide
  refine M.i_bind (a:=.inr ()) (M.i_for (fun i=>i) 1500 (fun i hi=>?_) ?_) ?_
  · have h:=of_decide_eq_true (List.all_eq_true.1 (e17 (i / 25) (by omega)) (i % 25) (List.mem_range.2 (by omega)))
    rw [show 25*(i / 25)+i % 25=i by omega] at h
    exact ⟨600,h⟩
  · refine M.i_f ?_ M.i_pure
    decide
  refine M.i_bind (a:=.inr ()) (M.i_for (fun i=>i) 36 (fun i hi=>?_) ?_) ?_
  · exact ⟨3000,of_decide_eq_true (e20 i hi)⟩
  · refine M.i_f ?_ M.i_pure
    decide
  refine M.i_grd rfl (M.i_grd rfl (M.i_bind six_ends (M.i_bind last_a (M.i_grd (by rw [List.length_replicate]; rfl) (M.i_t rfl (M.i_bind six_ends (M.i_bind (a:=true) last_b (M.i_grd (by rw [List.length_replicate]; rfl) (M.i_grd (by rw [List.length_replicate]; rfl) (M.i_t rfl (M.i_bind six_ends (M.i_bind (a:=true) last_c (M.i_bind (a:=true) awake_ends M.i_pure)))))))))))))
end Go.Proofs.YtkclldpnmolljaaGreat
