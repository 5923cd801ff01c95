/- valiselaw21.SqueezeBeatsMatch: no row that match makes within the window costs less. Plain law: no memory and no program. -/
import Derived.Test.YtpndhoefmepfdaaDoorCheapMean
import Derived.Test.YtpndhoefmepfdaaDoorMatchSays
import Derived.Test.YtpndhoefmepfdaaDoorPSqgM
namespace Go.Proofs.YtpndhoefmepfdaaDoor.CheapBeats
open Go.RowKit Go.Proofs.YtpndhoefmepfdaaDoor.PSq Go.Proofs.YtpndhoefmepfdaaDoor.CheapPure Go.Proofs.YtpndhoefmepfdaaDoor.CheapFair Go.Proofs.YtpndhoefmepfdaaDoor.CheapMean Go.Proofs.YtpndhoefmepfdaaDoor.MatchSays Go.Proofs.YtpndhoefmepfdaaDoorW.PrintWords Go.Proofs.YtpndhoefmepfdaaDoorW.PrintLast
open Go.Proofs.YtpndhoefmepfdaaDoor.SqSelf (clone_eq)
set_option linter.unusedVariables false
theorem law (l0 : List Int) (a1 a2 : Int) (a3 : Bool) (l4 l5 : List Int) (hb : ∀ x ∈ l0, 0 ≤ x ∧ x ≤ 255) (h0 : l0.length ≤ 140737488351232) (_ : -9223372036854775808 ≤ a1 ∧ a1 ≤ 9223372036854775807) (_ : -9223372036854775808 ≤ a2 ∧ a2 ≤ 9223372036854775807) (h4 : l4.length * 8 ≤ 140737488351232) (h5 : l5.length * 8 ≤ 140737488351232) :
    ∃ k, valiselaw21_SqueezeBeatsMatch.f k l0 a1 a2 a3 l4 l5 = some true := by
  unfold valiselaw21_SqueezeBeatsMatch.f valiselaw21_refused.f
  by_cases hA : 65536 < (l0.length : Int) ∨ a1 < 1 ∨ 32768 < a1
  · refine ⟨1, ?_⟩
    rw [if_pos hA, Option.bind_some, if_neg (by decide), valiselaw21_SqueezeBeatsMatch.j0, if_pos rfl]
  · by_cases hg : squeeze_fair.g l4 l5 = true
    · by_cases h12 : a2 < 0
      · refine ⟨1, ?_⟩
        rw [if_neg hA, if_pos hg, Option.bind_some, if_pos rfl, if_pos h12, valiselaw21_SqueezeBeatsMatch.j0, if_pos rfl]
      · by_cases hmax : a2 > 4096
        · refine ⟨1, ?_⟩
          rw [if_neg hA, if_pos hg, Option.bind_some, if_pos rfl, if_neg h12, decide_eq_true hmax, valiselaw21_SqueezeBeatsMatch.j0, if_pos rfl]
        · obtain ⟨z1, z2, k1, k2⟩ := fair_parts hg
          have hn : l0.length ≤ 65536 := by omega
          obtain ⟨r, c, f1, f2, f3, f4, f5, K1, hK1⟩ := cheapest_lands l0 l4 l5 a1 hb hn ⟨by omega, by omega⟩ hg
          obtain ⟨t, ht, hs, hw⟩ := eachF_says l0 a1 a2 a3 ⟨by omega, by omega⟩ (l0.length + 1) 0 (-1) 0 0 0 (by omega) (by omega) (by omega) (by omega) (fun h => absurd h (by decide))
          have htl := says_length hs
          have hm : match_Tokens.f l0 a1 a2 a3 = some (t, 0) := by
            unfold match_Tokens.f tokensF
            rw [if_pos ⟨by omega, hb, by omega, by omega, by omega, by omega⟩, ht]
            rfl
          obtain ⟨c2, b2, ⟨K2, hK2⟩, y2⟩ := costs_whole l4 l5 l0 a1 (by omega) z1 z2 k1 k2 hb hn t (by omega) (says_bytes hb t 0 (by omega) hs)
          obtain ⟨q1, q2⟩ := y2 hs
          have hb2 : b2 = true := q1.2 hw
          have hle : c ≤ c2 := by rw [q2 hb2]; exact f5 t hs hw
          refine ⟨K1 + K2 + 1, ?_⟩
          have a1' := hK1 (K1 + K2) (by omega)
          have a2' := hK2 (K1 + K2) (by omega)
          simp only at a1' a2'
          rw [if_neg hA, if_pos hg, Option.bind_some, if_pos rfl, if_neg h12, decide_eq_false hmax, valiselaw21_SqueezeBeatsMatch.j0, if_neg (by decide), a1', Option.bind_some, clone_eq l0 h0, Option.bind_some, hm, Option.bind_some]
          show (if true = true then (if (0 : Int) = 0 then _ else _) else _) = _
          rw [if_pos rfl, if_pos rfl, a2', Option.bind_some, hb2]
          show (if true = true then some (decide (c ≤ c2)) else _) = _
          rw [if_pos rfl, decide_eq_true hle]
    · refine ⟨1, ?_⟩
      rw [if_neg hA, if_neg hg, Option.bind_some, if_neg (by decide), valiselaw21_SqueezeBeatsMatch.j0, if_pos rfl]
end Go.Proofs.YtpndhoefmepfdaaDoor.CheapBeats
