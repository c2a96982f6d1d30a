/- The statement 'OftenYears' holds: in how many years a stage is passed, in which share of all years, and the highest stage that is passed so often are as specified Conditions: none. -/
import Derived.Test.YtcgalcbkkijkhaaRows
import Derived.ProofKit
import Derived.OpenShut
import Derived.JoinedOf
import Derived.Test.YtcgalcbkkijkhaaZY7
set_option linter.unusedVariables false
set_option linter.unusedSimpArgs false
set_option linter.unusedSectionVars false
set_option maxRecDepth 4000
namespace Go.Proofs.Ytcgalcbkkijkhaa.OftenY
open Go Go.Nm Go.ChangeShapes Go.WideShapes Go.ChangeAt Go.RowKit
theorem own : ownKnob Try.prog.godebug = none := by kernel_rfl
theorem laid : laidOutB Try.prog = true := by kernel_rfl
theorem rowed : mapsRowed Try.prog = true := by kernel_rfl
theorem sizes : ∀ {t e : TypeId}, t < Try.prog.types.size -> Try.prog.underlying t = some (.slice e) -> 0 < Try.prog.cellsOf e := by
  have h : (List.range Try.prog.types.size).all (fun t => match Try.prog.underlying t with
    | some (.slice e) => decide (0 < Try.prog.cellsOf e)
    | _ => true) = true := by kernel_rfl
  intro t e ht hu
  have := List.all_eq_true.1 h t (List.mem_range.2 ht)
  rw [hu] at this
  simpa using this
section
variable {H : Type} {enc : TypeId × Value -> H} {w : World} {sp : Nat -> Bool} {held : Bool}
theorem elInt {n : Nat} {cs : List Value} {d : DataW H × List MemPlace} (h : DataW.trod enc Try.prog w 0 sp held n 3 cs = some d) : ∃ x : Int, Elt.rep w.cell? cs x := open_i Try.underlying3 h
theorem elYr (n : Nat) (cs : List Value) (d : DataW H × List MemPlace) (h : DataW.trod enc Try.prog w 0 sp held n 41 cs = some d) : ∃ x : Yr, Elt.rep w.cell? cs x := by
  obtain ⟨v0, v1, v2, m, d0, d1, rfl, h0, h1⟩ := open_f12 Try.underlying41 (by kernel_rfl) rfl rfl (by kernel_rfl) (by kernel_rfl) h
  obtain ⟨a, ha⟩ := open_i Try.underlying3 h0
  obtain ⟨w0, w1, m', e0, e1, hw, g0, g1⟩ := open_f2 Try.underlying35 (by kernel_rfl) rfl rfl (by kernel_rfl) (by kernel_rfl) h1
  obtain ⟨b, hb⟩ := open_i Try.underlying3 g0
  obtain ⟨c, hc⟩ := open_i Try.underlying3 g1
  obtain ⟨rfl, hw2⟩ := List.cons.inj hw
  obtain ⟨rfl, _⟩ := List.cons.inj hw2
  exact ⟨⟨a, b, c⟩, by rw [(List.cons.inj ha).1, (List.cons.inj hb).1, (List.cons.inj hc).1]; rfl⟩
theorem elOld (n : Nat) (cs : List Value) (d : DataW H × List MemPlace) (h : DataW.trod enc Try.prog w 0 sp held n 43 cs = some d) : ∃ x : Old10, Elt.rep w.cell? cs x := by
  obtain ⟨v0, v1, v2, v3, m, d0, d1, d2, d3, rfl, h0, h1, h2, h3⟩ := open_f4 Try.underlying43 (by kernel_rfl) rfl rfl rfl rfl (by kernel_rfl) (by kernel_rfl) (by kernel_rfl) (by kernel_rfl) h
  obtain ⟨a, ha⟩ := open_i Try.underlying3 h0
  obtain ⟨b, hb⟩ := open_i Try.underlying3 h1
  obtain ⟨c, hc⟩ := open_i Try.underlying3 h2
  obtain ⟨u, l, hu, hl⟩ := open_sl (α := Int) Try.underlying27 (by kernel_rfl) (fun _ _ _ h => elInt h) h3
  exact ⟨⟨a, b, c, l⟩, u, by rw [(List.cons.inj ha).1, (List.cons.inj hb).1, (List.cons.inj hc).1, (List.cons.inj hu).1], hl⟩
end
theorem walked (W : World) {u0 w0 : Value} {a0 : List Yr} {c0 : List Old10} (m0 n0 : Int) (a1 : Int) (a2 : Int) (a3 : Int) (a4 : Int) (a5 : Bool) (h0 : Sl W.cell? u0 a0) (k0 : Sl W.cell? w0 c0) :
    Ret Try.prog 5 #[.agg #[u0, w0, I m0, I n0], I a1, I a2, I a3, I a4, B a5] W fun v W' => v = B true /\ Old W W' := by
  have h := zc9 (R := [cRo ⟨W, fun _ => True⟩]) a0 c0 m0 n0 a1 a2 a3 a4 a5 (reads_all W) h0.base (reads_all W) k0.base (zc4 a0 c0 m0 n0 a1 a2 a3 a4 a5) W (st_all W)
  refine Ret.mono h ?_
  rintro v W' ⟨y, hy, hv, hst⟩
  exact ⟨by rw [hv, hy], ext_all hst⟩
theorem contract (H : Type) (enc : TypeId × Value -> H) (W : World) (base : Nat) (args : Array Value) (ds gs : List (DataW H)) (before : List MemPlace)
    (hval : ∀ (j : Nat) t v, Try.f5.params[j]? = some t -> args[j]? = some v -> Value.okWide Try.prog W .any base t v)
    (hW : DataW.Whole enc Try.prog Try.f5.params.toList Rows.oftenYearsSpec.vars false W args.toList ds gs before) :
    Calls Try.prog 5 args W fun e W' => ∃ v, e = .returned v /\ Rows.oftenYearsSpec.post enc Try.prog Try.f5 false true false false W args v W' := by
  have hps : Try.f5.params = #[26, 3, 3, 3, 3, 4] := by kernel_rfl
  rw [hps] at hval
  have hW' := hW
  obtain ⟨p, q, hA0, hV, rfl, hfz, hnd⟩ := hW
  have hA : DataW.TrodAll enc Try.prog W 0 (fun _ => true) true [26, 3, 3, 3, 3, 4] args.toList ds p := hA0
  have hA1 := hA
  obtain ⟨v0, vs0, d0, ds0, p0, q0, hargs, rfl, rfl, t0, r0⟩ := trodAll_cons hA
  obtain ⟨v1, vs1, d1, ds1, p1, q1, rfl, rfl, rfl, t1, r1⟩ := trodAll_cons r0
  obtain ⟨v2, vs2, d2, ds2, p2, q2, rfl, rfl, rfl, t2, r2⟩ := trodAll_cons r1
  obtain ⟨v3, vs3, d3, ds3, p3, q3, rfl, rfl, rfl, t3, r3⟩ := trodAll_cons r2
  obtain ⟨v4, vs4, d4, ds4, p4, q4, rfl, rfl, rfl, t4, r4⟩ := trodAll_cons r3
  obtain ⟨v5, vs5, d5, ds5, p5, q5, rfl, rfl, rfl, t5, r5⟩ := trodAll_cons r4
  obtain ⟨rfl, rfl, rfl⟩ := trodAll_nil r5
  obtain rfl : args = #[v0, v1, v2, v3, v4, v5] := by cases args; simp_all
  obtain ⟨rfl, rfl⟩ := trodVars_none hV
  have e0 : Value.okWide Try.prog W .any base 26 v0 := hval 0 26 v0 (by simp) (by simp)
  have e1 : Value.okWide Try.prog W .any base 3 v1 := hval 1 3 v1 (by simp) (by simp)
  have e2 : Value.okWide Try.prog W .any base 3 v2 := hval 2 3 v2 (by simp) (by simp)
  have e3 : Value.okWide Try.prog W .any base 3 v3 := hval 3 3 v3 (by simp) (by simp)
  have e4 : Value.okWide Try.prog W .any base 3 v4 := hval 4 3 v4 (by simp) (by simp)
  have e5 : Value.okWide Try.prog W .any base 4 v5 := hval 5 4 v5 (by simp) (by simp)
  obtain ⟨u0, w0, x0, y0, k00, k10, k20, k30, k40, rfl, g00, g10, g20, g30⟩ := open_four Try.underlying26 (by kernel_rfl) rfl rfl rfl rfl (by kernel_rfl) (by kernel_rfl) (by kernel_rfl) (by kernel_rfl) e0 t0
  obtain ⟨s0, a0, b0, h0⟩ := open_sl (α := Yr) Try.underlying23 (by kernel_rfl) (fun n cs d h => elYr n cs d h) g00
  obtain rfl : u0 = s0 := (List.cons.inj b0).1
  obtain ⟨s0, c0, b0, k0⟩ := open_sl (α := Old10) Try.underlying24 (by kernel_rfl) (fun n cs d h => elOld n cs d h) g10
  obtain rfl : w0 = s0 := (List.cons.inj b0).1
  obtain ⟨m0, b0⟩ := open_i Try.underlying3 g20
  obtain rfl : x0 = I m0 := (List.cons.inj b0).1
  obtain ⟨n0, b0⟩ := open_i Try.underlying3 g30
  obtain rfl : y0 = I n0 := (List.cons.inj b0).1
  obtain ⟨a1, rfl⟩ := arg_i Try.underlying3 e1
  obtain ⟨a2, rfl⟩ := arg_i Try.underlying3 e2
  obtain ⟨a3, rfl⟩ := arg_i Try.underlying3 e3
  obtain ⟨a4, rfl⟩ := arg_i Try.underlying3 e4
  obtain ⟨a5, rfl⟩ := Go.WideShapes.okWide_bool Try.underlying4 e5
  have key : Ret Try.prog 5 #[.agg #[u0, w0, I m0, I n0], I a1, I a2, I a3, I a4, B a5] W fun v W' => v = B true /\ Old W W' := walked W m0 n0 a1 a2 a3 a4 a5 h0 k0
  refine Calls.mono key ?_
  rintro e W' ⟨v, rfl, rfl, hx⟩
  exact ⟨_, rfl, post_old hx hW' rfl (trodAll_cons_mk (shut_bool Try.underlying4 _) trodAll_mk0) (fun sp hs => by rw [List.append_nil]; exact trod_ext (kids_rows laid rowed) sizes hx (by decide +kernel) hA1 (fun m hm => hs m (by simpa using hm))) rfl⟩
set_option maxRecDepth 100000 in
theorem lifted (os : Os) (started : os.Started) (H : Type) (enc : TypeId × Value -> H) :
    ReturnsInHanded {} Try.checked os 5 .any (Rows.oftenYearsSpec.pre6 enc Try.prog Try.f5 Rows.oftenYearsRow.domain false) (Rows.oftenYearsSpec.post enc Try.prog Try.f5 false true false false) := by
  refine returnsInHanded_of_change (C := Try.checked) own started (by kernel_rfl) Try.func5
    (ChangeSpec.witness6 (enc := enc) (C := Try.checked) false ⟨#[], #[.agg #[.slice none 0 0, .slice none 0 0, I 0, I 0], I 0, I 0, I 0, I 0, B false], []⟩ 8 (by kernel_rfl) (by kernel_rfl) (by kernel_rfl) (by kernel_rfl)) ?_
  intro W base args ds gs before hval hW _ _
  exact contract H enc W base args ds gs before hval hW
theorem over : Rows.oftenYearsRow.holds Try.pinned (OpenSpec.ofChange Rows.oftenYearsSpec) :=
  OpenClaim.holds_of_wide 5 Try.f5 rfl rfl rfl rfl rfl rfl rfl ⟨rfl, rfl, rfl, rfl, rfl⟩ rfl rfl rfl rfl rfl (by kernel_rfl) Try.func5 (by kernel_rfl)
    (of_decide_eq_true (by kernel_rfl)) (by unfold Func.isWrapper; first | (rw [if_pos (by decide +kernel)]; kernel_rfl) | (rw [if_neg (by decide +kernel)]; exact ⟨rfl, rfl⟩))
    (fun os started H enc _ => lifted os started H enc)
theorem proved : Rows.OftenYearsSaid := over
#print axioms proved
end Go.Proofs.Ytcgalcbkkijkhaa.OftenY
