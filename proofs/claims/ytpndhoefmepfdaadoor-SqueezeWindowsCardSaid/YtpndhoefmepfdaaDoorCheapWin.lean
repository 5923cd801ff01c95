/- valiselaw21.SqueezeWindows: a greater window never costs more. Plain law: no memory and no program. -/
import Derived.Test.YtpndhoefmepfdaaDoorCheapMean
import Derived.Test.YtpndhoefmepfdaaDoorPSqgW
namespace Go.Proofs.YtpndhoefmepfdaaDoor.CheapWin
open Go.RowKit Go.Proofs.YtpndhoefmepfdaaDoor.PSq Go.Proofs.YtpndhoefmepfdaaDoor.CheapMean Go.Proofs.YtpndhoefmepfdaaDoorW.PrintWords Go.Proofs.YtpndhoefmepfdaaDoorW.PrintLast
set_option linter.unusedVariables false
theorem law (l0 : List Int) (a1 a2 : Int) (l3 l4 : List Int) (hb : ∀ x ∈ l0, 0 ≤ x ∧ x ≤ 255) (h0 : l0.length ≤ 140737488351232) (_ : -9223372036854775808 ≤ a1 ∧ a1 ≤ 9223372036854775807) (_ : -9223372036854775808 ≤ a2 ∧ a2 ≤ 9223372036854775807) (h3 : l3.length * 8 ≤ 140737488351232) (h4 : l4.length * 8 ≤ 140737488351232) :
    ∃ k, valiselaw21_SqueezeWindows.f k l0 a1 a2 l3 l4 = some true := by
  unfold valiselaw21_SqueezeWindows.f valiselaw21_refused.f
  by_cases hA : 65536 < (l0.length : Int) ∨ a1 < 1 ∨ 32768 < a1
  · refine ⟨1, ?_⟩
    rw [if_pos hA, Option.bind_some, if_neg (by decide), valiselaw21_SqueezeWindows.j0, if_pos rfl]
  · by_cases hg : squeeze_fair.g l3 l4 = true
    · by_cases h12 : a2 < a1
      · refine ⟨1, ?_⟩
        rw [if_neg hA, if_pos hg, Option.bind_some, if_pos rfl, if_pos h12, valiselaw21_SqueezeWindows.j0, if_pos rfl]
      · by_cases hmax : a2 > 32768
        · refine ⟨1, ?_⟩
          rw [if_neg hA, if_pos hg, Option.bind_some, if_pos rfl, if_neg h12, decide_eq_true hmax, valiselaw21_SqueezeWindows.j0, if_pos rfl]
        · obtain ⟨r, c, f1, f2, f3, f4, f5, K1, hK1⟩ := cheapest_lands l0 l3 l4 a1 hb (by omega) ⟨by omega, by omega⟩ hg
          obtain ⟨r', c', g1, g2, g3, g4, g5, K2, hK2⟩ := cheapest_lands l0 l3 l4 a2 hb (by omega) ⟨by omega, by omega⟩ hg
          have hle : c' ≤ c := by
            rw [← f4]
            exact g5 r f2 (fun t ht => by have := f3 t ht; omega)
          refine ⟨K1 + K2 + 1, ?_⟩
          have a1' := hK1 (K1 + K2) (by omega)
          have a2' := hK2 (K1 + K2) (by omega)
          simp only at a1' a2'
          rw [if_neg hA, if_pos hg, Option.bind_some, if_pos rfl, if_neg h12, decide_eq_false hmax, valiselaw21_SqueezeWindows.j0, if_neg (by decide), a1', Option.bind_some, a2', Option.bind_some]
          show (if true = true then (if true = true then some (decide (c' ≤ c)) else _) else _) = _
          rw [if_pos rfl, if_pos rfl, decide_eq_true hle]
    · refine ⟨1, ?_⟩
      rw [if_neg hA, if_neg hg, Option.bind_some, if_neg (by decide), valiselaw21_SqueezeWindows.j0, if_pos rfl]
end Go.Proofs.YtpndhoefmepfdaaDoor.CheapWin
