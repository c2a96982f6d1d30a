/- The statement 'OftenBooks' holds: which books are right, whether a truth can be, the first year without one, and the highest stages of a year are as specified Conditions: none. -/
import Derived.Test.YtcgalcbkkijkhaaRows
import Derived.ProofKit
import Derived.OpenShut
import Derived.JoinedOf
import Derived.Test.YtcgalcbkkijkhaaZB7
set_option linter.unusedVariables false
set_option linter.unusedSimpArgs false
set_option linter.unusedSectionVars false
set_option maxRecDepth 4000
namespace Go.Proofs.Ytcgalcbkkijkhaa.OftenB
open Go Go.Nm Go.ChangeShapes Go.WideShapes Go.ChangeAt Go.RowKit
theorem own : ownKnob Try.prog.godebug = none := by kernel_rfl
theorem laid : laidOutB Try.prog = true := by kernel_rfl
theorem rowed : mapsRowed Try.prog = true := by kernel_rfl
theorem sizes : ∀ {t e : TypeId}, t < Try.prog.types.size -> Try.prog.underlying t = some (.slice e) -> 0 < Try.prog.cellsOf e := by
  have h : (List.range Try.prog.types.size).all (fun t => match Try.prog.underlying t with
    | some (.slice e) => decide (0 < Try.prog.cellsOf e)
    | _ => true) = true := by kernel_rfl
  intro t e ht hu
  have := List.all_eq_true.1 h t (List.mem_range.2 ht)
  rw [hu] at this
  simpa using this
section
variable {H : Type} {enc : TypeId × Value -> H} {w : World} {sp : Nat -> Bool} {held : Bool}
theorem elInt {n : Nat} {cs : List Value} {d : DataW H × List MemPlace} (h : DataW.trod enc Try.prog w 0 sp held n 3 cs = some d) : ∃ x : Int, Elt.rep w.cell? cs x := open_i Try.underlying3 h
theorem elYr (n : Nat) (cs : List Value) (d : DataW H × List MemPlace) (h : DataW.trod enc Try.prog w 0 sp held n 41 cs = some d) : ∃ x : Yr, Elt.rep w.cell? cs x := by
  obtain ⟨v0, v1, v2, m, d0, d1, rfl, h0, h1⟩ := open_f12 Try.underlying41 (by kernel_rfl) rfl rfl (by kernel_rfl) (by kernel_rfl) h
  obtain ⟨a, ha⟩ := open_i Try.underlying3 h0
  obtain ⟨w0, w1, m', e0, e1, hw, g0, g1⟩ := open_f2 Try.underlying35 (by kernel_rfl) rfl rfl (by kernel_rfl) (by kernel_rfl) h1
  obtain ⟨b, hb⟩ := open_i Try.underlying3 g0
  obtain ⟨c, hc⟩ := open_i Try.underlying3 g1
  obtain ⟨rfl, hw2⟩ := List.cons.inj hw
  obtain ⟨rfl, _⟩ := List.cons.inj hw2
  exact ⟨⟨a, b, c⟩, by rw [(List.cons.inj ha).1, (List.cons.inj hb).1, (List.cons.inj hc).1]; rfl⟩
theorem elOld (n : Nat) (cs : List Value) (d : DataW H × List MemPlace) (h : DataW.trod enc Try.prog w 0 sp held n 43 cs = some d) : ∃ x : Old10, Elt.rep w.cell? cs x := by
  obtain ⟨v0, v1, v2, v3, m, d0, d1, d2, d3, rfl, h0, h1, h2, h3⟩ := open_f4 Try.underlying43 (by kernel_rfl) rfl rfl rfl rfl (by kernel_rfl) (by kernel_rfl) (by kernel_rfl) (by kernel_rfl) h
  obtain ⟨a, ha⟩ := open_i Try.underlying3 h0
  obtain ⟨b, hb⟩ := open_i Try.underlying3 h1
  obtain ⟨c, hc⟩ := open_i Try.underlying3 h2
  obtain ⟨u, l, hu, hl⟩ := open_sl (α := Int) Try.underlying27 (by kernel_rfl) (fun _ _ _ h => elInt h) h3
  exact ⟨⟨a, b, c, l⟩, u, by rw [(List.cons.inj ha).1, (List.cons.inj hb).1, (List.cons.inj hc).1, (List.cons.inj hu).1], hl⟩
end
theorem walked (W : World) {u0 w0 v1 : Value} {a0 : List Yr} {c0 : List Old10} {a1 : List Int} (m0 n0 : Int) (a2 : Int) (h0 : Sl W.cell? u0 a0) (k0 : Sl W.cell? w0 c0) (h1 : Sl W.cell? v1 a1) :
    Ret Try.prog 9 #[.agg #[u0, w0, I m0, I n0], v1, I a2] W fun v W' => v = B true /\ Old W W' := by
  have h := nilometerlaw10_OftenBooks_ok (R := [cRo ⟨W, fun _ => True⟩]) a0 c0 m0 n0 a1 a2 (reads_all W) h0.base (reads_all W) k0.base (reads_all W) h1.base (oftenBooks_ends a0 c0 m0 n0 a1 a2) W (st_all W)
  refine Ret.mono h ?_
  rintro v W' ⟨y, hy, hv, hst⟩
  exact ⟨by rw [hv, hy], ext_all hst⟩
theorem contract (H : Type) (enc : TypeId × Value -> H) (W : World) (base : Nat) (args : Array Value) (ds gs : List (DataW H)) (before : List MemPlace)
    (hval : ∀ (j : Nat) t v, Try.f9.params[j]? = some t -> args[j]? = some v -> Value.okWide Try.prog W .any base t v)
    (hW : DataW.Whole enc Try.prog Try.f9.params.toList Rows.oftenBooksSpec.vars false W args.toList ds gs before) :
    Calls Try.prog 9 args W fun e W' => ∃ v, e = .returned v /\ Rows.oftenBooksSpec.post enc Try.prog Try.f9 false true false false W args v W' := by
  have hps : Try.f9.params = #[26, 27, 3] := by kernel_rfl
  rw [hps] at hval
  have hW' := hW
  obtain ⟨p, q, hA0, hV, rfl, hfz, hnd⟩ := hW
  have hA : DataW.TrodAll enc Try.prog W 0 (fun _ => true) true [26, 27, 3] args.toList ds p := hA0
  have hA1 := hA
  obtain ⟨v0, vs0, d0, ds0, p0, q0, hargs, rfl, rfl, t0, r0⟩ := trodAll_cons hA
  obtain ⟨v1, vs1, d1, ds1, p1, q1, rfl, rfl, rfl, t1, r1⟩ := trodAll_cons r0
  obtain ⟨v2, vs2, d2, ds2, p2, q2, rfl, rfl, rfl, t2, r2⟩ := trodAll_cons r1
  obtain ⟨rfl, rfl, rfl⟩ := trodAll_nil r2
  obtain rfl : args = #[v0, v1, v2] := by cases args; simp_all
  obtain ⟨rfl, rfl⟩ := trodVars_none hV
  have e0 : Value.okWide Try.prog W .any base 26 v0 := hval 0 26 v0 (by simp) (by simp)
  have e1 : Value.okWide Try.prog W .any base 27 v1 := hval 1 27 v1 (by simp) (by simp)
  have e2 : Value.okWide Try.prog W .any base 3 v2 := hval 2 3 v2 (by simp) (by simp)
  obtain ⟨u0, w0, x0, y0, k00, k10, k20, k30, k40, rfl, g00, g10, g20, g30⟩ := open_four Try.underlying26 (by kernel_rfl) rfl rfl rfl rfl (by kernel_rfl) (by kernel_rfl) (by kernel_rfl) (by kernel_rfl) e0 t0
  obtain ⟨s0, a0, b0, h0⟩ := open_sl (α := Yr) Try.underlying23 (by kernel_rfl) (fun n cs d h => elYr n cs d h) g00
  obtain rfl : u0 = s0 := (List.cons.inj b0).1
  obtain ⟨s0, c0, b0, k0⟩ := open_sl (α := Old10) Try.underlying24 (by kernel_rfl) (fun n cs d h => elOld n cs d h) g10
  obtain rfl : w0 = s0 := (List.cons.inj b0).1
  obtain ⟨m0, b0⟩ := open_i Try.underlying3 g20
  obtain rfl : x0 = I m0 := (List.cons.inj b0).1
  obtain ⟨n0, b0⟩ := open_i Try.underlying3 g30
  obtain rfl : y0 = I n0 := (List.cons.inj b0).1
  obtain ⟨a1, h1⟩ := open_arg (α := Int) Try.underlying27 (w := W) (enc := enc) (sp := fun _ => true) (held := true) (by kernel_rfl) (fun _ _ _ h => elInt h) e1 t1
  obtain ⟨a2, rfl⟩ := arg_i Try.underlying3 e2
  have key : Ret Try.prog 9 #[.agg #[u0, w0, I m0, I n0], v1, I a2] W fun v W' => v = B true /\ Old W W' := walked W m0 n0 a2 h0 k0 h1
  refine Calls.mono key ?_
  rintro e W' ⟨v, rfl, rfl, hx⟩
  exact ⟨_, rfl, post_old hx hW' rfl (trodAll_cons_mk (shut_bool Try.underlying4 _) trodAll_mk0) (fun sp hs => by rw [List.append_nil]; exact trod_ext (kids_rows laid rowed) sizes hx (by decide +kernel) hA1 (fun m hm => hs m (by simpa using hm))) rfl⟩
set_option maxRecDepth 100000 in
theorem lifted (os : Os) (started : os.Started) (H : Type) (enc : TypeId × Value -> H) :
    ReturnsInHanded {} Try.checked os 9 .any (Rows.oftenBooksSpec.pre6 enc Try.prog Try.f9 Rows.oftenBooksRow.domain false) (Rows.oftenBooksSpec.post enc Try.prog Try.f9 false true false false) := by
  refine returnsInHanded_of_change (C := Try.checked) own started (by kernel_rfl) Try.func9
    (ChangeSpec.witness6 (enc := enc) (C := Try.checked) false ⟨#[], #[.agg #[.slice none 0 0, .slice none 0 0, I 0, I 0], .slice none 0 0, I 0], []⟩ 8 (by kernel_rfl) (by kernel_rfl) (by kernel_rfl) (by kernel_rfl)) ?_
  intro W base args ds gs before hval hW _ _
  exact contract H enc W base args ds gs before hval hW
theorem over : Rows.oftenBooksRow.holds Try.pinned (OpenSpec.ofChange Rows.oftenBooksSpec) :=
  OpenClaim.holds_of_wide 9 Try.f9 rfl rfl rfl rfl rfl rfl rfl ⟨rfl, rfl, rfl, rfl, rfl⟩ rfl rfl rfl rfl rfl (by kernel_rfl) Try.func9 (by kernel_rfl)
    (of_decide_eq_true (by kernel_rfl)) (by unfold Func.isWrapper; first | (rw [if_pos (by decide +kernel)]; kernel_rfl) | (rw [if_neg (by decide +kernel)]; exact ⟨rfl, rfl⟩))
    (fun os started H enc _ => lifted os started H enc)
theorem proved : Rows.OftenBooksSaid := over
#print axioms proved
end Go.Proofs.Ytcgalcbkkijkhaa.OftenB
