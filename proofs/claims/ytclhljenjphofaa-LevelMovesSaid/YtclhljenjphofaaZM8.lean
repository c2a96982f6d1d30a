/- The statement 'LevelMoves' holds: a net with a mark that is parted, the marks that can have moved, and who is convicted, or the errors, are as specified. Conditions: none. -/
import Derived.Test.YtclhljenjphofaaRows
import Derived.ProofKit
import Derived.OpenShut
import Derived.JoinedOf
import Derived.Test.YtclhljenjphofaaZM7
set_option linter.unusedVariables false
set_option linter.unusedSimpArgs false
set_option linter.unusedSectionVars false
set_option maxRecDepth 4000
namespace Go.Proofs.Ytclhljenjphofaa.LevelM
open Go Go.Nm Go.ChangeShapes Go.WideShapes Go.ChangeAt Go.RowKit
theorem own : ownKnob Try.prog.godebug = none := by kernel_rfl
theorem laid : laidOutB Try.prog = true := by kernel_rfl
theorem rowed : mapsRowed Try.prog = true := by kernel_rfl
theorem sizes : ∀ {t e : TypeId}, t < Try.prog.types.size → Try.prog.underlying t = some (.slice e) → 0 < Try.prog.cellsOf e := by
  have h : (List.range Try.prog.types.size).all (fun t => match Try.prog.underlying t with
    | some (.slice e) => decide (0 < Try.prog.cellsOf e)
    | _ => true) = true := by kernel_rfl
  intro t e ht hu
  have := List.all_eq_true.1 h t (List.mem_range.2 ht)
  rw [hu] at this
  simpa using this
section
variable {H : Type} {enc : TypeId × Value → H} {w : World} {sp : Nat → Bool} {held : Bool}
theorem elLine (n : Nat) (cs : List Value) (d : DataW H × List MemPlace) (h : DataW.trod enc Try.prog w 0 sp held n 34 cs = some d) : ∃ x : Line, Elt.rep w.cell? cs x := by
  obtain ⟨v0, v1, v2, v3, v4, m, d0, d1, d2, d3, d4, rfl, h0, h1, h2, h3, h4⟩ := open_f5 Try.underlying34 (by kernel_rfl) rfl rfl rfl rfl rfl (by kernel_rfl) (by kernel_rfl) (by kernel_rfl) (by kernel_rfl) (by kernel_rfl) h
  obtain ⟨x0, e0⟩ := open_i Try.underlying3 h0
  obtain ⟨x1, e1⟩ := open_i Try.underlying3 h1
  obtain ⟨x2, e2⟩ := open_i Try.underlying3 h2
  obtain ⟨x3, e3⟩ := open_i Try.underlying3 h3
  obtain ⟨x4, e4⟩ := open_i Try.underlying3 h4
  exact ⟨⟨x0, x1, x2, x3, x4⟩, by rw [(List.cons.inj e0).1, (List.cons.inj e1).1, (List.cons.inj e2).1, (List.cons.inj e3).1, (List.cons.inj e4).1]; rfl⟩
end
theorem walked (W : World) {u0 : Value} {a0 : List Line} (m0 : Int) (a1 : Mv) (h0 : Sl W.cell? u0 a0) :
    Ret Try.prog 7 #[.agg #[I m0, u0], .agg #[I a1.mark, I a1.day]] W fun v W' => v = B true ∧ Old W W' := by
  have h := nilometerlaw01_LevelMoves_ok (R := [cRo ⟨W, fun _ => True⟩]) m0 a0 a1 (reads_all W) h0.base (levelMoves_ends m0 a0 a1) W (st_all W)
  refine Ret.mono h ?_
  rintro v W' ⟨y, hy, hv, hst⟩
  exact ⟨by rw [hv, hy], ext_all hst⟩
theorem contract (H : Type) (enc : TypeId × Value → H) (W : World) (base : Nat) (args : Array Value) (ds gs : List (DataW H)) (before : List MemPlace)
    (hval : ∀ (j : Nat) t v, Try.f7.params[j]? = some t → args[j]? = some v → Value.okWide Try.prog W .any base t v)
    (hW : DataW.Whole enc Try.prog Try.f7.params.toList Rows.levelMovesSpec.vars false W args.toList ds gs before) :
    Calls Try.prog 7 args W fun e W' => ∃ v, e = .returned v ∧ Rows.levelMovesSpec.post enc Try.prog Try.f7 false true false false W args v W' := by
  have hps : Try.f7.params = #[25, 50] := by kernel_rfl
  rw [hps] at hval
  have hW' := hW
  obtain ⟨p, q, hA0, hV, rfl, hfz, hnd⟩ := hW
  have hA : DataW.TrodAll enc Try.prog W 0 (fun _ => true) true [25, 50] args.toList ds p := hA0
  have hA1 := hA
  obtain ⟨v0, vs0, d0, ds0, p0, q0, hargs, rfl, rfl, t0, r0⟩ := trodAll_cons hA
  obtain ⟨v1, vs1, d1, ds1, p1, q1, rfl, rfl, rfl, t1, r1⟩ := trodAll_cons r0
  obtain ⟨rfl, rfl, rfl⟩ := trodAll_nil r1
  obtain rfl : args = #[v0, v1] := by cases args; simp_all
  obtain ⟨rfl, rfl⟩ := trodVars_none hV
  have e0 : Value.okWide Try.prog W .any base 25 v0 := hval 0 25 v0 (by simp) (by simp)
  have e1 : Value.okWide Try.prog W .any base 50 v1 := hval 1 50 v1 (by simp) (by simp)
  obtain ⟨x0, u0, k0, y0, z0, rfl, g0, j0⟩ := open_two Try.underlying25 (by kernel_rfl) rfl rfl (by kernel_rfl) (by kernel_rfl) e0 t0
  obtain ⟨m0, b0⟩ := open_i Try.underlying3 g0
  obtain rfl : x0 = I m0 := (List.cons.inj b0).1
  obtain ⟨c0, a0, b0, h0⟩ := open_sl (α := Line) Try.underlying23 (by kernel_rfl) (fun n cs d h => elLine n cs d h) j0
  obtain rfl : u0 = c0 := (List.cons.inj b0).1
  obtain ⟨x1, u1, k1, y1, z1, rfl, g1, j1⟩ := open_two Try.underlying50 (by kernel_rfl) rfl rfl (by kernel_rfl) (by kernel_rfl) e1 t1
  obtain ⟨m1, b1⟩ := open_i Try.underlying3 g1
  obtain rfl : x1 = I m1 := (List.cons.inj b1).1
  obtain ⟨c1, b1⟩ := open_i Try.underlying3 j1
  obtain rfl : u1 = I c1 := (List.cons.inj b1).1
  obtain ⟨a1, ha1⟩ : ∃ a : Mv, a = ⟨m1, c1⟩ := ⟨_, rfl⟩
  obtain rfl : m1 = a1.mark := by rw [ha1]
  obtain rfl : c1 = a1.day := by rw [ha1]
  have key : Ret Try.prog 7 #[.agg #[I m0, u0], .agg #[I a1.mark, I a1.day]] W fun v W' => v = B true ∧ Old W W' := walked W m0 a1 h0
  refine Calls.mono key ?_
  rintro e W' ⟨v, rfl, rfl, hx⟩
  exact ⟨_, rfl, post_old hx hW' rfl (trodAll_cons_mk (shut_bool Try.underlying4 _) trodAll_mk0) (fun sp hs => by rw [List.append_nil]; exact trod_ext (kids_rows laid rowed) sizes hx (by decide +kernel) hA1 (fun m hm => hs m (by simpa using hm))) rfl⟩
set_option maxRecDepth 100000 in
theorem lifted (os : Os) (started : os.Started) (H : Type) (enc : TypeId × Value → H) :
    ReturnsInHanded {} Try.checked os 7 .any (Rows.levelMovesSpec.pre6 enc Try.prog Try.f7 Rows.levelMovesRow.domain false) (Rows.levelMovesSpec.post enc Try.prog Try.f7 false true false false) := by
  refine returnsInHanded_of_change (C := Try.checked) own started (by kernel_rfl) Try.func7
    (ChangeSpec.witness6 (enc := enc) (C := Try.checked) false ⟨#[], #[.agg #[I 0, .slice none 0 0], .agg #[I 0, I 0]], []⟩ 8 (by kernel_rfl) (by kernel_rfl) (by kernel_rfl) (by kernel_rfl)) ?_
  intro W base args ds gs before hval hW _ _
  exact contract H enc W base args ds gs before hval hW
theorem over : Rows.levelMovesRow.holds Try.pinned (OpenSpec.ofChange Rows.levelMovesSpec) :=
  OpenClaim.holds_of_wide 7 Try.f7 rfl rfl rfl rfl rfl rfl rfl ⟨rfl, rfl, rfl, rfl, rfl⟩ rfl rfl rfl rfl rfl (by kernel_rfl) Try.func7 (by kernel_rfl)
    (of_decide_eq_true (by kernel_rfl)) (by unfold Func.isWrapper; first | (rw [if_pos (by decide +kernel)]; kernel_rfl) | (rw [if_neg (by decide +kernel)]; exact ⟨rfl, rfl⟩))
    (fun os started H enc _ => lifted os started H enc)
theorem proved : Rows.LevelMovesSaid := over
#print axioms proved
end Go.Proofs.Ytclhljenjphofaa.LevelM
