/- The statement 'LevelWalks' holds: the greatest difference between two marks, the rise of a walk, a walk that proves the one and a closed walk that proves that the lines disagree are as specified. Conditions: none. -/
import Derived.Test.YtclhljenjphofaaRows
import Derived.ProofKit
import Derived.OpenShut
import Derived.JoinedOf
import Derived.Test.YtclhljenjphofaaZW7
set_option linter.unusedVariables false
set_option linter.unusedSimpArgs false
set_option linter.unusedSectionVars false
set_option maxRecDepth 4000
namespace Go.Proofs.Ytclhljenjphofaa.LevelW
open Go Go.Nm Go.ChangeShapes Go.WideShapes Go.ChangeAt Go.RowKit
theorem own : ownKnob Try.prog.godebug = none := by kernel_rfl
theorem laid : laidOutB Try.prog = true := by kernel_rfl
theorem rowed : mapsRowed Try.prog = true := by kernel_rfl
theorem sizes : ∀ {t e : TypeId}, t < Try.prog.types.size -> Try.prog.underlying t = some (.slice e) -> 0 < Try.prog.cellsOf e := by
  have h : (List.range Try.prog.types.size).all (fun t => match Try.prog.underlying t with
    | some (.slice e) => decide (0 < Try.prog.cellsOf e)
    | _ => true) = true := by kernel_rfl
  intro t e ht hu
  have := List.all_eq_true.1 h t (List.mem_range.2 ht)
  rw [hu] at this
  simpa using this
section
variable {H : Type} {enc : TypeId × Value -> H} {w : World} {sp : Nat -> Bool} {held : Bool}
theorem open_bo {t : TypeId} (ht : Try.prog.underlying t = some .bool) {n : Nat} {cs : List Value} {d : DataW H × List MemPlace} (h : DataW.trod enc Try.prog w 0 sp held n t cs = some d) : ∃ x : Bool, cs = [B x] := by
  obtain ⟨k, hk, _⟩ := DataW.trod_bool ht h
  exact ⟨k, hk⟩
theorem elLeg (n : Nat) (cs : List Value) (d : DataW H × List MemPlace) (h : DataW.trod enc Try.prog w 0 sp held n 91 cs = some d) : ∃ x : Leg, Elt.rep w.cell? cs x := by
  obtain ⟨v0, v1, m, d0, d1, rfl, h0, h1⟩ := open_f2 Try.underlying91 (by kernel_rfl) rfl rfl (by kernel_rfl) (by kernel_rfl) h
  obtain ⟨a, ha⟩ := open_i Try.underlying3 h0
  obtain ⟨b, hb⟩ := open_bo Try.underlying4 h1
  exact ⟨⟨a, b⟩, by rw [(List.cons.inj ha).1, (List.cons.inj hb).1]; rfl⟩
theorem elLine (n : Nat) (cs : List Value) (d : DataW H × List MemPlace) (h : DataW.trod enc Try.prog w 0 sp held n 34 cs = some d) : ∃ x : Line, Elt.rep w.cell? cs x := by
  obtain ⟨v0, v1, v2, v3, v4, m, d0, d1, d2, d3, d4, rfl, h0, h1, h2, h3, h4⟩ := open_f5 Try.underlying34 (by kernel_rfl) rfl rfl rfl rfl rfl (by kernel_rfl) (by kernel_rfl) (by kernel_rfl) (by kernel_rfl) (by kernel_rfl) h
  obtain ⟨x0, e0⟩ := open_i Try.underlying3 h0
  obtain ⟨x1, e1⟩ := open_i Try.underlying3 h1
  obtain ⟨x2, e2⟩ := open_i Try.underlying3 h2
  obtain ⟨x3, e3⟩ := open_i Try.underlying3 h3
  obtain ⟨x4, e4⟩ := open_i Try.underlying3 h4
  exact ⟨⟨x0, x1, x2, x3, x4⟩, by rw [(List.cons.inj e0).1, (List.cons.inj e1).1, (List.cons.inj e2).1, (List.cons.inj e3).1, (List.cons.inj e4).1]; rfl⟩
end
theorem walked (W : World) {u0 v3 : Value} {a0 : List Line} {a3 : List Leg} (m0 : Int) (a1 : Int) (a2 : Int) (h0 : Sl W.cell? u0 a0) (h3 : Sl W.cell? v3 a3) :
    Ret Try.prog 10 #[.agg #[I m0, u0], I a1, I a2, v3] W fun v W' => v = B true /\ Old W W' := by
  have h := nilometerlaw01_LevelWalks_ok (R := [cRo ⟨W, fun _ => True⟩]) m0 a0 a1 a2 a3 (reads_all W) h0.base (reads_all W) h3.base (levelWalks_ends m0 a0 a1 a2 a3) W (st_all W)
  refine Ret.mono h ?_
  rintro v W' ⟨y, hy, hv, hst⟩
  exact ⟨by rw [hv, hy], ext_all hst⟩
theorem contract (H : Type) (enc : TypeId × Value -> H) (W : World) (base : Nat) (args : Array Value) (ds gs : List (DataW H)) (before : List MemPlace)
    (hval : ∀ (j : Nat) t v, Try.f10.params[j]? = some t -> args[j]? = some v -> Value.okWide Try.prog W .any base t v)
    (hW : DataW.Whole enc Try.prog Try.f10.params.toList Rows.levelWalksSpec.vars false W args.toList ds gs before) :
    Calls Try.prog 10 args W fun e W' => ∃ v, e = .returned v /\ Rows.levelWalksSpec.post enc Try.prog Try.f10 false true false false W args v W' := by
  have hps : Try.f10.params = #[25, 3, 3, 88] := by kernel_rfl
  rw [hps] at hval
  have hW' := hW
  obtain ⟨p, q, hA0, hV, rfl, hfz, hnd⟩ := hW
  have hA : DataW.TrodAll enc Try.prog W 0 (fun _ => true) true [25, 3, 3, 88] args.toList ds p := hA0
  have hA1 := hA
  obtain ⟨v0, vs0, d0, ds0, p0, q0, hargs, rfl, rfl, t0, r0⟩ := trodAll_cons hA
  obtain ⟨v1, vs1, d1, ds1, p1, q1, rfl, rfl, rfl, t1, r1⟩ := trodAll_cons r0
  obtain ⟨v2, vs2, d2, ds2, p2, q2, rfl, rfl, rfl, t2, r2⟩ := trodAll_cons r1
  obtain ⟨v3, vs3, d3, ds3, p3, q3, rfl, rfl, rfl, t3, r3⟩ := trodAll_cons r2
  obtain ⟨rfl, rfl, rfl⟩ := trodAll_nil r3
  obtain rfl : args = #[v0, v1, v2, v3] := by cases args; simp_all
  obtain ⟨rfl, rfl⟩ := trodVars_none hV
  have e0 : Value.okWide Try.prog W .any base 25 v0 := hval 0 25 v0 (by simp) (by simp)
  have e1 : Value.okWide Try.prog W .any base 3 v1 := hval 1 3 v1 (by simp) (by simp)
  have e2 : Value.okWide Try.prog W .any base 3 v2 := hval 2 3 v2 (by simp) (by simp)
  have e3 : Value.okWide Try.prog W .any base 88 v3 := hval 3 88 v3 (by simp) (by simp)
  obtain ⟨x0, u0, k0, y0, z0, rfl, g0, j0⟩ := open_two Try.underlying25 (by kernel_rfl) rfl rfl (by kernel_rfl) (by kernel_rfl) e0 t0
  obtain ⟨m0, b0⟩ := open_i Try.underlying3 g0
  obtain rfl : x0 = I m0 := (List.cons.inj b0).1
  obtain ⟨c0, a0, b0, h0⟩ := open_sl (α := Line) Try.underlying23 (by kernel_rfl) (fun n cs d h => elLine n cs d h) j0
  obtain rfl : u0 = c0 := (List.cons.inj b0).1
  obtain ⟨a1, rfl⟩ := arg_i Try.underlying3 e1
  obtain ⟨a2, rfl⟩ := arg_i Try.underlying3 e2
  obtain ⟨a3, h3⟩ := open_arg (α := Leg) Try.underlying88 (w := W) (enc := enc) (sp := fun _ => true) (held := true) (by kernel_rfl) (fun n cs d h => elLeg n cs d h) e3 t3
  have key : Ret Try.prog 10 #[.agg #[I m0, u0], I a1, I a2, v3] W fun v W' => v = B true /\ Old W W' := walked W m0 a1 a2 h0 h3
  refine Calls.mono key ?_
  rintro e W' ⟨v, rfl, rfl, hx⟩
  exact ⟨_, rfl, post_old hx hW' rfl (trodAll_cons_mk (shut_bool Try.underlying4 _) trodAll_mk0) (fun sp hs => by rw [List.append_nil]; exact trod_ext (kids_rows laid rowed) sizes hx (by decide +kernel) hA1 (fun m hm => hs m (by simpa using hm))) rfl⟩
set_option maxRecDepth 100000 in
theorem lifted (os : Os) (started : os.Started) (H : Type) (enc : TypeId × Value -> H) :
    ReturnsInHanded {} Try.checked os 10 .any (Rows.levelWalksSpec.pre6 enc Try.prog Try.f10 Rows.levelWalksRow.domain false) (Rows.levelWalksSpec.post enc Try.prog Try.f10 false true false false) := by
  refine returnsInHanded_of_change (C := Try.checked) own started (by kernel_rfl) Try.func10
    (ChangeSpec.witness6 (enc := enc) (C := Try.checked) false ⟨#[], #[.agg #[I 0, .slice none 0 0], I 0, I 0, .slice none 0 0], []⟩ 8 (by kernel_rfl) (by kernel_rfl) (by kernel_rfl) (by kernel_rfl)) ?_
  intro W base args ds gs before hval hW _ _
  exact contract H enc W base args ds gs before hval hW
theorem over : Rows.levelWalksRow.holds Try.pinned (OpenSpec.ofChange Rows.levelWalksSpec) :=
  OpenClaim.holds_of_wide 10 Try.f10 rfl rfl rfl rfl rfl rfl rfl ⟨rfl, rfl, rfl, rfl, rfl⟩ rfl rfl rfl rfl rfl (by kernel_rfl) Try.func10 (by kernel_rfl)
    (of_decide_eq_true (by kernel_rfl)) (by unfold Func.isWrapper; first | (rw [if_pos (by decide +kernel)]; kernel_rfl) | (rw [if_neg (by decide +kernel)]; exact ⟨rfl, rfl⟩))
    (fun os started H enc _ => lifted os started H enc)
theorem proved : Rows.LevelWalksSaid := over
#print axioms proved
end Go.Proofs.Ytclhljenjphofaa.LevelW
