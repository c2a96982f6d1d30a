/- The statement 'WarnWatches' holds: all demands, stretches, late demands, fewest watches and what proves are as specified Conditions: none. -/
import Derived.Test.YtbaehghammbjdaaGreatRows
import Derived.ProofKit
import Derived.OpenShut
import Derived.JoinedOf
import Derived.Test.YtbaehghammbjdaaGreatZE6
set_option linter.unusedVariables false
set_option linter.unusedSimpArgs false
set_option linter.unusedSectionVars false
set_option maxRecDepth 4000
namespace Go.Proofs.YtbaehghammbjdaaGreat.WarnX
open Go Go.Nm Go.ChangeShapes Go.WideShapes Go.ChangeAt Go.RowKit
theorem own : ownKnob Tryz.prog.godebug = none := by kernel_rfl
theorem laid : laidOutB Tryz.prog = true := by kernel_rfl
theorem rowed : mapsRowed Tryz.prog = true := by kernel_rfl
theorem sizes : ∀ {t e : TypeId}, t < Tryz.prog.types.size -> Tryz.prog.underlying t = some (.slice e) -> 0 < Tryz.prog.cellsOf e := by
  have h : (List.range Tryz.prog.types.size).all (fun t => match Tryz.prog.underlying t with
    | some (.slice e) => decide (0 < Tryz.prog.cellsOf e)
    | _ => true) = true := by kernel_rfl
  intro t e ht hu
  have := List.all_eq_true.1 h t (List.mem_range.2 ht)
  rw [hu] at this
  simpa using this
section
variable {H : Type} {enc : TypeId × Value -> H} {w : World} {sp : Nat -> Bool} {held : Bool}
theorem elInt {n : Nat} {cs : List Value} {d : DataW H × List MemPlace} (h : DataW.trod enc Tryz.prog w 0 sp held n 3 cs = some d) : ∃ x : Int, Elt.rep w.cell? cs x := open_i Tryz.underlying3 h
theorem elSpan (n : Nat) (cs : List Value) (d : DataW H × List MemPlace) (h : DataW.trod enc Tryz.prog w 0 sp held n 26 cs = some d) : ∃ x : Span, Elt.rep w.cell? cs x := by
  obtain ⟨v0, v1, m, d0, d1, rfl, h0, h1⟩ := open_f2 Tryz.underlying26 (by kernel_rfl) rfl rfl (by kernel_rfl) (by kernel_rfl) h
  obtain ⟨a, ha⟩ := open_i Tryz.underlying3 h0
  obtain ⟨b, hb⟩ := open_i Tryz.underlying3 h1
  exact ⟨⟨a, b⟩, by rw [(List.cons.inj ha).1, (List.cons.inj hb).1]; rfl⟩
theorem elTown (n : Nat) (cs : List Value) (d : DataW H × List MemPlace) (h : DataW.trod enc Tryz.prog w 0 sp held n 91 cs = some d) : ∃ x : Town, Elt.rep w.cell? cs x := by
  obtain ⟨v0, v1, v2, m, d0, d1, d2, rfl, h0, h1, h2⟩ := open_f3 Tryz.underlying91 (by kernel_rfl) rfl rfl rfl (by kernel_rfl) (by kernel_rfl) (by kernel_rfl) h
  obtain ⟨a, ha⟩ := open_i Tryz.underlying3 h0
  obtain ⟨b, hb⟩ := open_i Tryz.underlying3 h1
  obtain ⟨c, hc⟩ := open_i Tryz.underlying3 h2
  exact ⟨⟨a, b, c⟩, by rw [(List.cons.inj ha).1, (List.cons.inj hb).1, (List.cons.inj hc).1]; rfl⟩
theorem elDem (n : Nat) (cs : List Value) (d : DataW H × List MemPlace) (h : DataW.trod enc Tryz.prog w 0 sp held n 61 cs = some d) : ∃ x : Dem, Elt.rep w.cell? cs x := by
  obtain ⟨v0, v1, m, d0, d1, rfl, h0, h1⟩ := open_f2 Tryz.underlying61 (by kernel_rfl) rfl rfl (by kernel_rfl) (by kernel_rfl) h
  obtain ⟨a, ha⟩ := open_i Tryz.underlying3 h0
  obtain ⟨b, hb⟩ := open_i Tryz.underlying3 h1
  exact ⟨⟨a, b⟩, by rw [(List.cons.inj ha).1, (List.cons.inj hb).1]; rfl⟩
theorem elFlood (n : Nat) (cs : List Value) (d : DataW H × List MemPlace) (h : DataW.trod enc Tryz.prog w 0 sp held n 85 cs = some d) : ∃ x : Flood, Elt.rep w.cell? cs x := by
  obtain ⟨v0, v1, m, d0, d1, rfl, h0, h1⟩ := open_f2 Tryz.underlying85 (by kernel_rfl) rfl rfl (by kernel_rfl) (by kernel_rfl) h
  obtain ⟨a, ha⟩ := open_i Tryz.underlying3 h0
  obtain ⟨u, l, hu, hl⟩ := open_sl (α := Int) Tryz.underlying22 (by kernel_rfl) (fun _ _ _ h => elInt h) h1
  exact ⟨⟨a, l⟩, u, by rw [(List.cons.inj ha).1, (List.cons.inj hu).1], hl⟩
end
theorem walked (W : World) {p0a p0b p0c p0d p0f v2 v4 : Value} {a0a : List Int} {a0b : List Span} {a0c : List Int} {a0d : List Town} {a0f : List Flood} {a2 : List Int} {a4 : List Dem} (m0 n0 : Int) (a1 : Dem) (a3 : Int) (h0a : Sl W.cell? p0a a0a) (h0b : Sl W.cell? p0b a0b) (h0c : Sl W.cell? p0c a0c) (h0d : Sl W.cell? p0d a0d) (h0f : Sl W.cell? p0f a0f) (h2 : Sl W.cell? v2 a2) (h4 : Sl W.cell? v4 a4) :
    Ret Tryz.prog 5 #[.agg #[p0a, p0b, p0c, p0d, I m0, I n0, p0f], .agg #[I a1.spring, I a1.town], v2, I a3, v4] W fun v W' => v = B true /\ Old W W' := by
  have h := zeU (R := [cRo ⟨W, fun _ => True⟩]) a0a a0b a0c a0d m0 n0 a0f a1 a2 a3 a4 (reads_all W) h0a.base (reads_all W) h0b.base (reads_all W) h0c.base (reads_all W) h0d.base (reads_all W) h0f.base (reads_all W) h2.base (reads_all W) h4.base (zeL a0a a0b a0c a0d m0 n0 a0f a1 a2 a3 a4) W (st_all W)
  refine Ret.mono h ?_
  rintro v W' ⟨y, hy, hv, hst⟩
  exact ⟨by rw [hv, hy], ext_all hst⟩
theorem contract (H : Type) (enc : TypeId × Value -> H) (W : World) (base : Nat) (args : Array Value) (ds gs : List (DataW H)) (before : List MemPlace)
    (hval : ∀ (j : Nat) t v, Tryz.f5.params[j]? = some t -> args[j]? = some v -> Value.okWide Tryz.prog W .any base t v)
    (hW : DataW.Whole enc Tryz.prog Tryz.f5.params.toList Rows.warnWatchesSpec.vars false W args.toList ds gs before) :
    Calls Tryz.prog 5 args W fun e W' => ∃ v, e = .returned v /\ Rows.warnWatchesSpec.post enc Tryz.prog Tryz.f5 false true false false W args v W' := by
  have hps : Tryz.f5.params = #[29, 61, 22, 3, 62] := by kernel_rfl
  rw [hps] at hval
  have hW' := hW
  obtain ⟨p, q, hA0, hV, rfl, hfz, hnd⟩ := hW
  have hA : DataW.TrodAll enc Tryz.prog W 0 (fun _ => true) true [29, 61, 22, 3, 62] args.toList ds p := hA0
  have hA1 := hA
  obtain ⟨v0, vs0, d0, ds0, p0, q0, hargs, rfl, rfl, t0, r0⟩ := trodAll_cons hA
  obtain ⟨v1, vs1, d1, ds1, p1, q1, rfl, rfl, rfl, t1, r1⟩ := trodAll_cons r0
  obtain ⟨v2, vs2, d2, ds2, p2, q2, rfl, rfl, rfl, t2, r2⟩ := trodAll_cons r1
  obtain ⟨v3, vs3, d3, ds3, p3, q3, rfl, rfl, rfl, t3, r3⟩ := trodAll_cons r2
  obtain ⟨v4, vs4, d4, ds4, p4, q4, rfl, rfl, rfl, t4, r4⟩ := trodAll_cons r3
  obtain ⟨rfl, rfl, rfl⟩ := trodAll_nil r4
  obtain rfl : args = #[v0, v1, v2, v3, v4] := by cases args; simp_all
  obtain ⟨rfl, rfl⟩ := trodVars_none hV
  have e0 : Value.okWide Tryz.prog W .any base 29 v0 := hval 0 29 v0 (by simp) (by simp)
  have e1 : Value.okWide Tryz.prog W .any base 61 v1 := hval 1 61 v1 (by simp) (by simp)
  have e2 : Value.okWide Tryz.prog W .any base 22 v2 := hval 2 22 v2 (by simp) (by simp)
  have e3 : Value.okWide Tryz.prog W .any base 3 v3 := hval 3 3 v3 (by simp) (by simp)
  have e4 : Value.okWide Tryz.prog W .any base 62 v4 := hval 4 62 v4 (by simp) (by simp)
  obtain ⟨p0a, p0b, p0c, p0d, k40, k50, p0f, mf0, y00, y10, y20, y30, y40, y50, rfl, g00, g10, g20, g30, g40, g50⟩ := open_river Tryz.underlying29 (by kernel_rfl) ⟨rfl, rfl, rfl, rfl, rfl, rfl⟩ ⟨by kernel_rfl, by kernel_rfl, by kernel_rfl, by kernel_rfl, by kernel_rfl, by kernel_rfl⟩ e0 t0
  obtain ⟨s0a, a0a, b0a, h0a⟩ := open_sl (α := Int) Tryz.underlying22 (by kernel_rfl) (fun _ _ _ h => elInt h) g00
  obtain rfl : p0a = s0a := (List.cons.inj b0a).1
  obtain ⟨s0b, a0b, b0b, h0b⟩ := open_sl (α := Span) Tryz.underlying23 (by kernel_rfl) (fun n cs d h => elSpan n cs d h) g10
  obtain rfl : p0b = s0b := (List.cons.inj b0b).1
  obtain ⟨s0c, a0c, b0c, h0c⟩ := open_sl (α := Int) Tryz.underlying22 (by kernel_rfl) (fun _ _ _ h => elInt h) g20
  obtain rfl : p0c = s0c := (List.cons.inj b0c).1
  obtain ⟨s0d, a0d, b0d, h0d⟩ := open_sl (α := Town) Tryz.underlying24 (by kernel_rfl) (fun n cs d h => elTown n cs d h) g30
  obtain rfl : p0d = s0d := (List.cons.inj b0d).1
  obtain ⟨s0f, a0f, b0f, h0f⟩ := open_sl (α := Flood) Tryz.underlying27 (by kernel_rfl) (fun n cs d h => elFlood n cs d h) g50
  obtain rfl : p0f = s0f := (List.cons.inj b0f).1
  obtain ⟨l00, l10, l20, l30, l40, l50, l60, l70⟩ := open_f2 Tryz.underlying26 (by kernel_rfl) rfl rfl (by kernel_rfl) (by kernel_rfl) g40
  obtain ⟨m0, q00⟩ := open_i Tryz.underlying3 l60
  obtain ⟨n0, q10⟩ := open_i Tryz.underlying3 l70
  obtain ⟨rfl, l80⟩ := List.cons.inj l50
  obtain ⟨rfl, _⟩ := List.cons.inj l80
  obtain rfl : k40 = I m0 := (List.cons.inj q00).1
  obtain rfl : k50 = I n0 := (List.cons.inj q10).1
  obtain ⟨x1, u1, k1, y1, z1, rfl, g1, j1⟩ := open_two Tryz.underlying61 (by kernel_rfl) rfl rfl (by kernel_rfl) (by kernel_rfl) e1 t1
  obtain ⟨m1, b1⟩ := open_i Tryz.underlying3 g1
  obtain rfl : x1 = I m1 := (List.cons.inj b1).1
  obtain ⟨c1, b1⟩ := open_i Tryz.underlying3 j1
  obtain rfl : u1 = I c1 := (List.cons.inj b1).1
  obtain ⟨a1, ha1⟩ : ∃ a : Dem, a = ⟨m1, c1⟩ := ⟨_, rfl⟩
  obtain rfl : m1 = a1.spring := by rw [ha1]
  obtain rfl : c1 = a1.town := by rw [ha1]
  obtain ⟨a2, h2⟩ := open_arg (α := Int) Tryz.underlying22 (w := W) (enc := enc) (sp := fun _ => true) (held := true) (by kernel_rfl) (fun _ _ _ h => elInt h) e2 t2
  obtain ⟨a3, rfl⟩ := arg_i Tryz.underlying3 e3
  obtain ⟨a4, h4⟩ := open_arg (α := Dem) Tryz.underlying62 (w := W) (enc := enc) (sp := fun _ => true) (held := true) (by kernel_rfl) (fun n cs d h => elDem n cs d h) e4 t4
  have key : Ret Tryz.prog 5 #[.agg #[p0a, p0b, p0c, p0d, I m0, I n0, p0f], .agg #[I a1.spring, I a1.town], v2, I a3, v4] W fun v W' => v = B true /\ Old W W' := walked W m0 n0 a1 a3 h0a h0b h0c h0d h0f h2 h4
  refine Calls.mono key ?_
  rintro e W' ⟨v, rfl, rfl, hx⟩
  exact ⟨_, rfl, post_old hx hW' rfl (trodAll_cons_mk (shut_bool Tryz.underlying4 _) trodAll_mk0) (fun sp hs => by rw [List.append_nil]; exact trod_ext (kids_rows laid rowed) sizes hx (by decide +kernel) hA1 (fun m hm => hs m (by simpa using hm))) rfl⟩
set_option maxRecDepth 100000 in
theorem lifted (os : Os) (started : os.Started) (H : Type) (enc : TypeId × Value -> H) :
    ReturnsInHanded {} Tryz.checked os 5 .any (Rows.warnWatchesSpec.pre6 enc Tryz.prog Tryz.f5 Rows.warnWatchesRow.domain false) (Rows.warnWatchesSpec.post enc Tryz.prog Tryz.f5 false true false false) := by
  refine returnsInHanded_of_change (C := Tryz.checked) own started (by kernel_rfl) Tryz.func5
    (ChangeSpec.witness6 (enc := enc) (C := Tryz.checked) false ⟨#[], #[.agg #[.slice none 0 0, .slice none 0 0, .slice none 0 0, .slice none 0 0, I 0, I 0, .slice none 0 0], .agg #[I 0, I 0], .slice none 0 0, I 0, .slice none 0 0], []⟩ 8 (by kernel_rfl) (by kernel_rfl) (by kernel_rfl) (by kernel_rfl)) ?_
  intro W base args ds gs before hval hW _ _
  exact contract H enc W base args ds gs before hval hW
theorem over : Rows.warnWatchesRow.holds Tryz.pinned (OpenSpec.ofChange Rows.warnWatchesSpec) :=
  OpenClaim.holds_of_wide 5 Tryz.f5 rfl rfl rfl rfl rfl rfl rfl ⟨rfl, rfl, rfl, rfl, rfl⟩ rfl rfl rfl rfl rfl (by kernel_rfl) Tryz.func5 (by kernel_rfl)
    (of_decide_eq_true (by kernel_rfl)) (by unfold Func.isWrapper; first | (rw [if_pos (by decide +kernel)]; kernel_rfl) | (rw [if_neg (by decide +kernel)]; exact ⟨rfl, rfl⟩))
    (fun os started H enc _ => lifted os started H enc)
theorem proved : Rows.WarnWatchesSaid := over
#print axioms proved
end Go.Proofs.YtbaehghammbjdaaGreat.WarnX
