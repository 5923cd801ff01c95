/- valiselaw21.SqueezeIsCheapest: no other row that says data within the window costs less. Plain law: no memory and no program. -/
import Derived.Test.YtpndhoefmepfdaaDoorCheapMean
import Derived.Test.YtpndhoefmepfdaaDoorPSqgI
namespace Go.Proofs.YtpndhoefmepfdaaDoor.CheapIs
open Go.RowKit Go.Proofs.YtpndhoefmepfdaaDoor.PSq Go.Proofs.YtpndhoefmepfdaaDoor.CheapPure Go.Proofs.YtpndhoefmepfdaaDoor.CheapFair Go.Proofs.YtpndhoefmepfdaaDoor.CheapMean Go.Proofs.YtpndhoefmepfdaaDoorW.PrintWords Go.Proofs.YtpndhoefmepfdaaDoorW.PrintLast
open Go.Proofs.YtpndhoefmepfdaaDoor.SqSelf (equal_self alike_self ints_eq list_eq copy_whole clone_eq same_self)
set_option linter.unusedVariables false
/-- same tells whether two texts are one. -/
theorem same_any (a b : List Int) (hl : a.length ≤ 9223372036854775806) : ∃ v, Lands (fun k => valiselaw21_same.f k a b) v ∧ (v = true ↔ a = b) := by
  by_cases hab : a.length = b.length
  rotate_left
  · refine ⟨false, Lands.const (fun k => by unfold valiselaw21_same.f; rw [if_neg (by omega)]), ⟨(fun h => by cases h), (fun h => by rw [h] at hab; exact absurd rfl hab)⟩⟩
  have loop : ∀ (n : Nat) (i : Nat), i + n = a.length → (∀ j : Nat, j < i → rd a (j : Int) = rd b (j : Int)) → ∃ v, Lands (fun k => valiselaw21_same.l0 k a b (i : Int)) v ∧ (v = true ↔ ∀ j : Nat, j < a.length → rd a (j : Int) = rd b (j : Int)) := by
    intro n
    induction n with
    | zero =>
      intro i hi hj
      exact ⟨true, Lands.const (fun k => by rw [valiselaw21_same.l0, if_neg (by omega)]), ⟨fun _ j h => hj j (by omega), fun _ => rfl⟩⟩
    | succ n ih =>
      intro i hi hj
      by_cases hx : rd a (i : Int) = rd b (i : Int)
      · obtain ⟨v, g1, g2⟩ := ih (i + 1) (by omega) (fun j h => by
          by_cases hji : j = i
          · rw [hji]; exact hx
          · exact hj j (by omega))
        refine ⟨v, g1.step (fun k => ?_), g2⟩
        rw [valiselaw21_same.l0, if_pos (by omega), if_pos (by omega), if_pos (by omega), if_pos hx, wrap_id (by omega) (by omega)]
        rfl
      · refine ⟨false, Lands.const (fun k => ?_), ⟨(fun h => by cases h), (fun h => absurd (h i (by omega)) hx)⟩⟩
        rw [valiselaw21_same.l0, if_pos (by omega), if_pos (by omega), if_pos (by omega), if_neg hx]
  obtain ⟨v, ⟨K, g1⟩, g2⟩ := loop a.length 0 (by omega) (fun j h => by omega)
  refine ⟨v, ⟨K, fun k hk => ?_⟩, g2.trans ⟨fun h => ?_, fun h j _ => by rw [h]⟩⟩
  · show valiselaw21_same.f k a b = _
    unfold valiselaw21_same.f
    rw [if_pos (by omega)]
    exact g1 k hk
  · apply List.ext_getElem?
    intro i
    by_cases hi : i < a.length
    · have := h i hi
      unfold rd at this
      rw [Int.toNat_natCast, List.getD_eq_getElem?_getD, List.getD_eq_getElem?_getD, List.getElem?_eq_getElem hi, List.getElem?_eq_getElem (by omega)] at this
      rw [List.getElem?_eq_getElem hi, List.getElem?_eq_getElem (by omega)]
      exact congrArg some this
    · rw [List.getElem?_eq_none (by omega), List.getElem?_eq_none (by omega)]
/-- Price of a row that says data is its sum. -/
theorem price_run (lit dist data : List Int) (z1 : lit.length = 286) (z2 : dist.length = 30) (k1 : squeeze_fair.ok lit = true) (k2 : squeeze_fair.ok dist = true) (hb : ∀ x ∈ data, 0 ≤ x ∧ x ≤ 255) (hbig : data.length ≤ 65536) : ∀ (suf pre : List S56) (s i : Int), (pre ++ suf).length ≤ 9223372036854775806 → 0 ≤ i → SaysRow data i suf → 0 ≤ s → s ≤ 131072 * i →
    Lands (fun k => squeeze_Price.l0 k lit dist s (pre ++ suf) ((pre ++ suf).length : Int) (pre.length : Int)) (s + sumOf lit dist suf, 0) := by
  intro suf
  induction suf with
  | nil =>
    intro pre s i _ _ _ _ _
    exact Lands.const (fun k => by rw [List.append_nil, squeeze_Price.l0, if_neg (by omega)]; simp [sumOf])
  | cons t r ih =>
    intro pre s i hn hi hs hs0 hs1
    have hl : (pre ++ t :: r).length = pre.length + (r.length + 1) := by simp
    have e7 : pre ++ t :: r = (pre ++ [t]) ++ r := by simp
    have e6 : wrap64 ((pre.length : Int) + 1) = ((pre ++ [t]).length : Int) := by rw [wrap_id (by omega) (by omega)]; simp
    rcases hs with ⟨a1, a2, a3, a4, a5⟩ | ⟨a1, a2, a3, a4, a5, a6⟩
    · have hf2 := bytes_rd hb i hi a3
      have hq := ok_bound k1 t.f2 (by omega) (by omega)
      have g := ih (pre ++ [t]) (s + rd lit t.f2) (i + 1) (by rw [← e7]; exact hn) (by omega) a5 (by omega) (by omega)
      rw [← e7, ← e6] at g
      have hsum : s + rd lit t.f2 + sumOf lit dist r = s + sumOf lit dist (t :: r) := by rw [sumOf]; unfold costOf; rw [if_pos a1]; omega
      rw [hsum] at g
      refine (g.step (g := fun k => squeeze_Price.j1 k lit dist s (pre ++ t :: r) ((pre ++ t :: r).length : Int) (pre.length : Int) true t.f0 t.f1 t.f2) (fun k => ?_)).step (fun k => ?_)
      · rw [squeeze_Price.j1, if_pos rfl, if_pos (by omega), if_pos (by omega), show wrap64 (s + rd lit t.f2) = s + rd lit t.f2 from wrap_id (by omega) (by omega)]
      · rw [squeeze_Price.l0, if_pos (by omega), if_pos (by omega), if_pos (by omega), rdT_at, if_pos a1, show (t.f1 == 0) = true from beq_iff_eq.2 a2]
    · have d0 := a5.1
      have him := a5.2.2.1
      have i1 := lenS_in t.f0 a1 a2
      have i2 := distS_in t.f1 d0 a3
      have hq1 := LL_bound z1 k1 t.f0 a1 a2
      have hq2 := PP_bound z2 k2 t.f1 d0 a3
      have e1 : rd lit (lenS t.f0) = LL lit t.f0 := (LL_of lit t.f0 a1 a2).symm
      have e2 : rd dist (distS t.f1) = PP dist t.f1 := rfl
      have g := ih (pre ++ [t]) (s + (LL lit t.f0 + PP dist t.f1)) (i + t.f0) (by rw [← e7]; exact hn) (by omega) a6 (by omega) (by omega)
      rw [← e7, ← e6] at g
      have hsum : s + (LL lit t.f0 + PP dist t.f1) + sumOf lit dist r = s + sumOf lit dist (t :: r) := by rw [sumOf]; unfold costOf; rw [if_neg (by omega)]; omega
      rw [hsum] at g
      refine (g.step' 200 (g := fun k => squeeze_Price.j1 k lit dist s (pre ++ t :: r) ((pre ++ t :: r).length : Int) (pre.length : Int) false t.f0 t.f1 t.f2) (fun k hk => ?_)).step (fun k => ?_)
      · obtain ⟨b, x, q1⟩ := lenS_at t.f0 a1 a2 k hk
        obtain ⟨b2, x2, q2⟩ := distS_at t.f1 d0 a3 k hk
        rw [squeeze_Price.j1, if_neg (by decide), q1, Option.bind_some, q2, Option.bind_some]
        show (if (0 : Int) = 0 then (if (0 : Int) = 0 then (if t.f2 = 0 then (if 0 ≤ lenS t.f0 then (if lenS t.f0 < (lit.length : Int) then (if 0 ≤ distS t.f1 then (if distS t.f1 < (dist.length : Int) then squeeze_Price.l0 k lit dist (wrap64 (s + wrap64 (rd lit (lenS t.f0) + rd dist (distS t.f1)))) (pre ++ t :: r) ((pre ++ t :: r).length : Int) (wrap64 ((pre.length : Int) + 1)) else none) else none) else none) else none) else _) else _) else _) = _
        rw [if_pos rfl, if_pos rfl, if_pos a4, if_pos (by omega), if_pos (by omega), if_pos (by omega), if_pos (by omega), e1, e2, show wrap64 (LL lit t.f0 + PP dist t.f1) = LL lit t.f0 + PP dist t.f1 from wrap_id (by omega) (by omega), show wrap64 (s + (LL lit t.f0 + PP dist t.f1)) = s + (LL lit t.f0 + PP dist t.f1) from wrap_id (by omega) (by omega)]
      · rw [squeeze_Price.l0, if_pos (by omega), if_pos (by omega), if_pos (by omega), rdT_at, if_neg (by omega)]
theorem law (l0 : List Int) (a1 : Int) (l2 l3 : List Int) (l4 : List S56) (hb : ∀ x ∈ l0, 0 ≤ x ∧ x ≤ 255) (h0 : l0.length ≤ 140737488351232) (_ : -9223372036854775808 ≤ a1 ∧ a1 ≤ 9223372036854775807) (h2 : l2.length * 8 ≤ 140737488351232) (h3 : l3.length * 8 ≤ 140737488351232) (h4b : ∀ t ∈ l4, 0 ≤ t.f2 ∧ t.f2 ≤ 255) (h4 : l4.length * 24 ≤ 140737488351232) :
    ∃ k, valiselaw21_SqueezeIsCheapest.f k l0 a1 l2 l3 l4 = some true := by
  unfold valiselaw21_SqueezeIsCheapest.f
  by_cases hA : 65536 < (l0.length : Int) ∨ a1 < 1 ∨ 32768 < a1
  · refine ⟨1, ?_⟩
    have hr : valiselaw21_refused.f (l0.length : Int) a1 l2 l3 = some 1 := by unfold valiselaw21_refused.f; rw [if_pos hA]
    have hc : squeeze_Cheapest.f l0 a1 l2 l3 = some ([], 1) := by unfold squeeze_Cheapest.f; rw [if_pos (by omega)]
    rw [hr, Option.bind_some, if_neg (by decide), clone_eq l0 h0, Option.bind_some, ints_eq l2 h2, Option.bind_some, ints_eq l3 h3, Option.bind_some, hc, Option.bind_some]
    rfl
  · by_cases hg : squeeze_fair.g l2 l3 = true
    rotate_left
    · refine ⟨1, ?_⟩
      have hr : valiselaw21_refused.f (l0.length : Int) a1 l2 l3 = some 210 := by unfold valiselaw21_refused.f; rw [if_neg hA, if_neg hg]
      have hc : squeeze_Cheapest.f l0 a1 l2 l3 = some ([], 210) := by unfold squeeze_Cheapest.f; rw [if_neg (by omega), if_neg hg]
      rw [hr, Option.bind_some, if_neg (by decide), clone_eq l0 h0, Option.bind_some, ints_eq l2 h2, Option.bind_some, ints_eq l3 h3, Option.bind_some, hc, Option.bind_some]
      rfl
    have hr : valiselaw21_refused.f (l0.length : Int) a1 l2 l3 = some 0 := by unfold valiselaw21_refused.f; rw [if_neg hA, if_pos hg]
    have hn : l0.length ≤ 65536 := by omega
    obtain ⟨z1, z2, k1, k2⟩ := fair_parts hg
    obtain ⟨r, c, f1, f2, f3, f4, f5, K1, hK1⟩ := cheapest_lands l0 l2 l3 a1 hb hn ⟨by omega, by omega⟩ hg
    obtain ⟨c2, b2, ⟨K2, hK2⟩, y2⟩ := costs_whole l2 l3 l0 a1 (by omega) z1 z2 k1 k2 hb hn l4 (by omega) h4b
    obtain ⟨text, e, ⟨K3, hK3⟩, x2, x3⟩ := expand_whole l0 hn l4 (by omega)
    simp only at hK1 hK2 hK3
    have head : ∀ k, K1 + K2 + K3 ≤ k → valiselaw21_SqueezeIsCheapest.f k l0 a1 l2 l3 l4 = (if b2 = true then (if e = 0 then (valiselaw21_same.f k text l0).bind fun t396 => valiselaw21_SqueezeIsCheapest.j0 k l2 l3 l4 c c2 (!t396) else valiselaw21_SqueezeIsCheapest.j0 k l2 l3 l4 c c2 true) else valiselaw21_SqueezeIsCheapest.j0 k l2 l3 l4 c c2 true) := by
      intro k hk
      unfold valiselaw21_SqueezeIsCheapest.f
      rw [hr, Option.bind_some, if_pos rfl, hK1 k (by omega), Option.bind_some]
      show (if true = true then _ else _) = _
      rw [if_pos rfl, hK2 k (by omega), Option.bind_some, list_eq l4 h4, Option.bind_some, hK3 k (by omega), Option.bind_some]
    have fin : (∃ k, valiselaw21_SqueezeIsCheapest.f k l0 a1 l2 l3 l4 = some true) → ∃ k, (valiselaw21_refused.f (l0.length : Int) a1 l2 l3).bind (fun t370 => _) = some true := fun h => h
    apply fin
    by_cases hb2 : b2 = true
    rotate_left
    · refine ⟨K1 + K2 + K3 + 1, ?_⟩
      rw [head _ (by omega), if_neg hb2, valiselaw21_SqueezeIsCheapest.j0, if_pos rfl]
    by_cases he : e = 0
    rotate_left
    · refine ⟨K1 + K2 + K3 + 1, ?_⟩
      rw [head _ (by omega), if_pos hb2, if_neg he, valiselaw21_SqueezeIsCheapest.j0, if_pos rfl]
    by_cases htl : text.length = l0.length
    rotate_left
    · refine ⟨K1 + K2 + K3 + 1, ?_⟩
      have hs : valiselaw21_same.f (K1 + K2 + K3 + 1) text l0 = some false := by unfold valiselaw21_same.f; rw [if_neg (by omega)]
      rw [head _ (by omega), if_pos hb2, if_pos he, hs, Option.bind_some]
      show valiselaw21_SqueezeIsCheapest.j0 (K1 + K2 + K3 + 1) l2 l3 l4 c c2 true = _
      rw [valiselaw21_SqueezeIsCheapest.j0, if_pos rfl]
    obtain ⟨v, ⟨K4, hK4⟩, hv⟩ := same_any text l0 (by omega)
    simp only at hK4
    by_cases hvt : v = true
    rotate_left
    · refine ⟨K1 + K2 + K3 + K4 + 1, ?_⟩
      have hvf : v = false := by simpa using hvt
      rw [head _ (by omega), if_pos hb2, if_pos he, hK4 _ (by omega), Option.bind_some, hvf]
      show valiselaw21_SqueezeIsCheapest.j0 (K1 + K2 + K3 + K4 + 1) l2 l3 l4 c c2 true = _
      rw [valiselaw21_SqueezeIsCheapest.j0, if_pos rfl]
    have hsays := x2 he (hv.1 hvt)
    obtain ⟨q1, q2⟩ := y2 hsays
    have hc2 := q2 hb2
    have hle : c ≤ c2 := by rw [hc2]; exact f5 l4 hsays (q1.1 hb2)
    have hl4 := says_length hsays
    obtain ⟨K5, hK5⟩ := price_run l2 l3 l0 z1 z2 k1 k2 hb hn l4 [] 0 0 (by simp; omega) (by omega) hsays (by omega) (by omega)
    simp only [List.nil_append, Int.zero_add] at hK5
    refine ⟨K1 + K2 + K3 + K4 + K5 + 1, ?_⟩
    have hp : squeeze_Price.f (K1 + K2 + K3 + K4 + K5) l4 l2 l3 = some (c2, 0) := by
      unfold squeeze_Price.f squeeze_fair.f
      rw [if_neg (by omega), Option.bind_some, if_pos hg, hc2]
      exact hK5 _ (by omega)
    rw [head _ (by omega), if_pos hb2, if_pos he, hK4 _ (by omega), Option.bind_some, hvt]
    show valiselaw21_SqueezeIsCheapest.j0 (K1 + K2 + K3 + K4 + K5 + 1) l2 l3 l4 c c2 false = _
    rw [valiselaw21_SqueezeIsCheapest.j0, if_neg (by decide), list_eq l4 h4, Option.bind_some, ints_eq l2 h2, Option.bind_some, ints_eq l3 h3, Option.bind_some, hp, Option.bind_some]
    show (if (0 : Int) = 0 then (if c2 = c2 then some (decide (c ≤ c2)) else _) else _) = _
    rw [if_pos rfl, if_pos rfl, decide_eq_true hle]
end Go.Proofs.YtpndhoefmepfdaaDoor.CheapIs
