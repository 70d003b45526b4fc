/- The laid table of the kinds' words, read off. No condition. -/
import Derived.Test.YtackffegdmohiaaDoorActT
import Derived.OpenShut
import Derived.MakeChecks
import Derived.WideShapes
namespace Go.Proofs.YtackffegdmohiaaDoor
open Go.ChangeShapes Go.WideShapes Go.RowKit

theorem kinds_vars {W : World} {r : List (String × DataW Unit)} {ps : List MemPlace} (h : DataW.LaidVars Tryd.prog W (("loop.example/feedbridge/impl.kindWords", Rows.laid_loop_example_feedbridge_impl_kindWords) :: r) ps) : KindsAt W := by
  obtain ⟨g, t, cs, fuel, p, q, hg, ht, hv, hd, _, _⟩ := h
  obtain rfl := Option.some.inj ((show Tryd.prog.globalNamed "loop.example/feedbridge/impl.kindWords" = some 0 by kernel_rfl).symm.trans hg)
  obtain rfl := Option.some.inj ((show (Tryd.prog.globals[0]?).map (·.type) = some 49 by kernel_rfl).symm.trans ht)
  obtain ⟨xs, m, _, ex, _, hl, hel⟩ := DataW.trod_array Tryd.underlying49 hd
  have c9 : Tryd.prog.cellsOf 9 = 1 := by kernel_rfl
  intro k hk
  have hE := hel k hk
  rw [c9, Nat.mul_one, List.getElem?_eq_getElem (by omega)] at hE
  obtain ⟨z, e1, e2, _⟩ := DataW.trod_string Tryd.underlying9 hE
  have hlen : kindL.length = 6 := rfl
  have e3 : (xs.map (·.1)) = kindL.map fun n => (DataW.lit (.string n) : DataW Unit) := (DataW.agg.inj (Prod.mk.inj ex).1).symm
  have e4 : (xs.map (·.1))[k]? = (kindL.map fun n => (DataW.lit (.string n) : DataW Unit))[k]? := by rw [e3]
  rw [List.getElem?_map, List.getElem?_map, List.getElem?_eq_getElem (by omega : k < xs.length), List.getElem?_eq_getElem (by omega : k < kindL.length), e2] at e4
  have hz : z = kindW k := by
    simp only [Option.map_some, Option.some.injEq, DataW.lit.injEq, Lit.string.injEq] at e4
    refine Go.WideShapes.bytes_inj ?_
    rw [kindW_list, List.getD, List.getElem?_eq_getElem (by omega : k < kindL.length)]
    exact e4
  rw [World.var?_cell hg hv k, ← hz]
  have h0 : ((cs.toList.drop k).take 1)[0]? = some (.string z) := by rw [e1]; rfl
  have : cs.toList[k]? = some (.string z) := by simpa using h0
  simpa using this
theorem kinds_one {W : World} {d : DataW Unit} (hd : d = Rows.laid_loop_example_feedbridge_impl_kindWords) (h : laidMetH Tryd.prog [("loop.example/feedbridge/impl.kindWords", d)] W) : KindsAt W := by
  subst hd
  rw [MakeChecks.laidMetH_plain _ _ _ (by kernel_rfl)] at h
  obtain ⟨ps, h, _, _⟩ := h
  exact kinds_vars h
theorem kinds_two {W : World} {a c : DataW Unit} {n0 n2 : String} (ha : (a.handleName?).isNone = true) (hc : (c.handleName?).isNone = true) (h : laidMetH Tryd.prog [(n0, a), ("loop.example/feedbridge/impl.kindWords", Rows.laid_loop_example_feedbridge_impl_kindWords), (n2, c)] W) : KindsAt W := by
  have hk : (Rows.laid_loop_example_feedbridge_impl_kindWords (H := Unit)).handleName?.isNone = true := by kernel_rfl
  rw [MakeChecks.laidMetH_plain _ _ _ (by simp only [List.all_cons, List.all_nil, ha, hc, hk]; rfl)] at h
  obtain ⟨ps, ⟨_, _, _, _, _, _, _, _, _, _, h, _⟩, _, _⟩ := h
  exact kinds_vars h
end Go.Proofs.YtackffegdmohiaaDoor
