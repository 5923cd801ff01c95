-- WRITTEN BY myprint.py (this claim's own program, over the kit's printer): Lean checks it.
import Derived.Test.YtpndhoefmepfdaaDoorPSqgA
import Derived.Test.YtpndhoefmepfdaaDoorPSqx0
import Derived.Test.YtpndhoefmepfdaaDoorPSqx1
namespace Go.Proofs.YtpndhoefmepfdaaDoor.PSq
open Go.RowKit Go.Proofs.YtpndhoefmepfdaaDoorW.PrintWords Go.Proofs.YtpndhoefmepfdaaDoorW.PrintLast Go.Proofs.YtpndhoefmepfdaaDoorW.PrintMore
open Go.Proofs.YtpndhoefmepfdaaDoor.More Go.Proofs.YtpndhoefmepfdaaDoor.TS
attribute [local go_sem] max2_int min2_int max_two min_two max_three min_three max_four min_four   -- for this text's walks alone
set_option linter.unusedVariables false
set_option linter.unusedSimpArgs false

/-! ### valiselaw21_refused: function 26 -/
/-! ### valiselaw21_refused, by hand: the bounds of Cheapest's arguments, then fair -/
def valiselaw21_refused.f (a0 : Int) (a1 : Int) (l2 : List Int) (l3 : List Int) : Option (Int) := some (if 65536 < a0 ∨ a1 < 1 ∨ 32768 < a1 then 1 else if squeeze_fair.g l2 l3 = true then 0 else 210)
set_option maxHeartbeats 8000000 in
set_option maxRecDepth 100000 in
theorem valiselaw21_refused.calls (a0 : Int) (a1 : Int) (A2 : Option Addr) (c2 : Nat) (l2 : List Int) (A3 : Option Addr) (c3 : Nat) (l3 : List Int) (r1 : Int) (w : World) (hr2 : Kd.C (Kd.int .i64) w A2 l2.length l2) (hc2 : l2.length ≤ c2) (hr3 : Kd.C (Kd.int .i64) w A3 l3.length l3) (hc3 : l3.length ≤ c3) (h : valiselaw21_refused.f a0 a1 l2 l3 = some r1) :
    Calls Tryd.prog 26 #[.int .i64 a0, .int .i64 a1, .slice A2 l2.length c2, .slice A3 l3.length c3] w fun e w' => e = .returned (.int .i64 r1) ∧ Drawn0 w w' := by
  have H := Aside0.mk (Option.some.inj h)
  have HR2 := Aside0.mk hr2
  have HR3 := Aside0.mk hr3
  clear h hr2 hc2 hr3 hc3
  have DR := Aside0.mk (Drawn0.refl w)
  by_cases g1 : 65536 < a0
  · have g1b : decide (65536 < a0) = true := decide_eq_true g1
    obtain rfl : 1 = r1 := by have := H.out; rwa [if_pos (.inl g1)] at this
    clear g1
    go_enter Tryd.func26, Tryd.ntmps26
    go_wp2
    go_ret
    exact ⟨rfl, DR.out⟩
  · have g1b : decide (65536 < a0) = false := decide_eq_false g1
    by_cases g2 : a1 < 1
    · have g2b : decide (a1 < 1) = true := decide_eq_true g2
      obtain rfl : 1 = r1 := by have := H.out; rwa [if_pos (.inr (.inl g2))] at this
      clear g1 g2
      go_enter Tryd.func26, Tryd.ntmps26
      go_wp2
      go_ret
      exact ⟨rfl, DR.out⟩
    · have g2b : decide (a1 < 1) = false := decide_eq_false g2
      by_cases g3 : 32768 < a1
      · have g3b : decide (32768 < a1) = true := decide_eq_true g3
        obtain rfl : 1 = r1 := by have := H.out; rwa [if_pos (.inr (.inr g3))] at this
        clear g1 g2 g3
        go_enter Tryd.func26, Tryd.ntmps26
        go_wp2
        go_ret
        exact ⟨rfl, DR.out⟩
      · have g3b : decide (32768 < a1) = false := decide_eq_false g3
        have HF := Aside0.mk (show (if squeeze_fair.g l2 l3 = true then (0 : Int) else 210) = r1 by have := H.out; rwa [if_neg (by omega)] at this)
        clear g1 g2 g3 H
        by_cases h1 : l2.length = 286
        · by_cases h2 : l3.length = 30
          · have b1 : ((l2.length : Int) != 286) = false := by rw [h1]; rfl
            have b2 : ((l3.length : Int) != 30) = false := by rw [h2]; rfl
            have HG := Aside0.mk (show squeeze_fair.g l2 l3 = (squeeze_fair.ok l2 && squeeze_fair.ok l3) by unfold squeeze_fair.g; rw [h1, h2]; simp)
            have LN := Aside0.mk (show l2.length = 286 ∧ l3.length = 30 from ⟨h1, h2⟩)
            clear h1 h2
            go_enter Tryd.func26, Tryd.ntmps26
            go_wp2
            go_loopg [9] 287 (fun kq v9 w' => ∃ (i : Int), v9 = .int .i64 i ∧ Aside0 (0 ≤ i ∧ i ≤ 286 ∧ kq = (286 - i).toNat + 1 ∧ (∀ m : Int, 0 ≤ m → m < i → 1 ≤ rd l2 m ∧ rd l2 m ≤ 65536) ∧ (∀ m : Int, 0 ≤ m → m < i → m < 30 → 1 ≤ rd l3 m ∧ rd l3 m ≤ 65536)) ∧ w = w')
            case atStart => exact ⟨0, rfl, ⟨⟨by omega, by omega, by omega, fun m h0 h1 => by omega, fun m h0 h1 => by omega⟩⟩, rfl⟩
            case round =>
              obtain ⟨i, rfl, HA, rfl⟩ := hrel
              cases gk with
              | zero => exact absurd HA.out.2.2.1 (by omega)
              | succ k2 =>
                have h0 := HA.out.1
                by_cases c8 : i < 286
                · have c8b0 : decide (i < 286) = true := decide_eq_true c8
                  have c8l : i < (l2.length : Int) := by have := LN.out; omega
                  obtain ⟨ad1, e1, hx1⟩ := Kd.at_int HR2.out i h0 c8l
                  cases e1
                  obtain ⟨p, hp⟩ : ∃ p : Int, rd l2 i = p := ⟨_, rfl⟩
                  rw [hp] at hx1
                  by_cases c9 : p < 1
                  · obtain rfl : 210 = r1 := by have h := HF.out; rwa [HG.out, squeeze_fair.not_of l2 i h0 c8l (.inl (by rw [hp]; exact c9))] at h
                    have c9b : decide (p < 1) = true := decide_eq_true c9
                    replace h0 := eq_true h0
                    clear HA c9 hp
                    go_wp2
                    go_ret
                    exact ⟨rfl, DR.out⟩
                  · have c9b : decide (p < 1) = false := decide_eq_false c9
                    by_cases c10 : 65536 < p
                    · obtain rfl : 210 = r1 := by have h := HF.out; rwa [HG.out, squeeze_fair.not_of l2 i h0 c8l (.inr (by rw [hp]; exact c10))] at h
                      have c10b : decide (65536 < p) = true := decide_eq_true c10
                      replace h0 := eq_true h0
                      clear HA c9 c10 hp
                      go_wp2
                      go_ret
                      exact ⟨rfl, DR.out⟩
                    · have c10b : decide (65536 < p) = false := decide_eq_false c10
                      have HW := Aside0.mk (show wrap64 (i + 1) = i + 1 by unfold wrap64; omega)
                      by_cases c11 : i < 30
                      · have c11b : decide (i < 30) = true := decide_eq_true c11
                        have c11l : i < (l3.length : Int) := by have := LN.out; omega
                        obtain ⟨ad2, e2, hx2⟩ := Kd.at_int HR3.out i h0 c11l
                        cases e2
                        obtain ⟨q, hq⟩ : ∃ q : Int, rd l3 i = q := ⟨_, rfl⟩
                        rw [hq] at hx2
                        by_cases c12 : q < 1
                        · obtain rfl : 210 = r1 := by have h := HF.out; rw [HG.out, squeeze_fair.not_of l3 i h0 c11l (.inl (by rw [hq]; exact c12)), Bool.and_false] at h; exact h
                          have c12b : decide (q < 1) = true := decide_eq_true c12
                          replace h0 := eq_true h0
                          clear HA c9 c10 c12 hp hq
                          go_wp2
                          go_ret
                          exact ⟨rfl, DR.out⟩
                        · have c12b : decide (q < 1) = false := decide_eq_false c12
                          by_cases c13 : 65536 < q
                          · obtain rfl : 210 = r1 := by have h := HF.out; rw [HG.out, squeeze_fair.not_of l3 i h0 c11l (.inr (by rw [hq]; exact c13)), Bool.and_false] at h; exact h
                            have c13b : decide (65536 < q) = true := decide_eq_true c13
                            replace h0 := eq_true h0
                            clear HA c9 c10 c12 c13 hp hq
                            go_wp2
                            go_ret
                            exact ⟨rfl, DR.out⟩
                          · have c13b : decide (65536 < q) = false := decide_eq_false c13
                            have HA' := Aside0.mk (show 0 ≤ i + 1 ∧ i + 1 ≤ 286 ∧ k2 = (286 - (i + 1)).toNat + 1 ∧ (∀ m : Int, 0 ≤ m → m < i + 1 → 1 ≤ rd l2 m ∧ rd l2 m ≤ 65536) ∧ (∀ m : Int, 0 ≤ m → m < i + 1 → m < 30 → 1 ≤ rd l3 m ∧ rd l3 m ≤ 65536) by
                              have h := HA.out
                              refine ⟨by omega, by omega, by omega, fun m hm0 hm1 => ?_, fun m hm0 hm1 hm2 => ?_⟩
                              · by_cases hmi : m = i
                                · rw [hmi, hp]; omega
                                · exact h.2.2.2.1 m hm0 (by omega)
                              · by_cases hmi : m = i
                                · rw [hmi, hq]; omega
                                · exact h.2.2.2.2 m hm0 (by omega) hm2)
                            replace h0 := eq_true h0
                            clear HA c9 c10 c12 c13 hp hq
                            go_wp2
                            go_roundg k2
                            case measure => omega
                            case rel => exact ⟨wrap64 (i + 1), (by first | rfl | (simp; done) | (simp [*]; done)), ⟨by rw [HW.out]; exact HA'.out⟩, rfl⟩
                      · have c11b : decide (i < 30) = false := decide_eq_false c11
                        have HA' := Aside0.mk (show 0 ≤ i + 1 ∧ i + 1 ≤ 286 ∧ k2 = (286 - (i + 1)).toNat + 1 ∧ (∀ m : Int, 0 ≤ m → m < i + 1 → 1 ≤ rd l2 m ∧ rd l2 m ≤ 65536) ∧ (∀ m : Int, 0 ≤ m → m < i + 1 → m < 30 → 1 ≤ rd l3 m ∧ rd l3 m ≤ 65536) by
                          have h := HA.out
                          refine ⟨by omega, by omega, by omega, fun m hm0 hm1 => ?_, fun m hm0 hm1 hm2 => h.2.2.2.2 m hm0 (by omega) hm2⟩
                          by_cases hmi : m = i
                          · rw [hmi, hp]; omega
                          · exact h.2.2.2.1 m hm0 (by omega))
                        replace h0 := eq_true h0
                        clear HA c9 c10 c11 hp
                        go_wp2
                        go_roundg k2
                        case measure => omega
                        case rel => exact ⟨wrap64 (i + 1), (by first | rfl | (simp; done) | (simp [*]; done)), ⟨by rw [HW.out]; exact HA'.out⟩, rfl⟩
                · have c8b0 : decide (i < 286) = false := decide_eq_false c8
                  obtain rfl : 0 = r1 := by
                    have h := HF.out
                    have hA := HA.out
                    have hL := LN.out
                    rw [HG.out, squeeze_fair.ok_of l2 (fun m h0 h1 => hA.2.2.2.1 m h0 (by omega)), squeeze_fair.ok_of l3 (fun m h0 h1 => hA.2.2.2.2 m h0 (by omega) (by omega))] at h
                    exact h
                  clear HA h0 c8
                  go_wp2
                  go_ret
                  exact ⟨rfl, DR.out⟩
          · have b1 : ((l2.length : Int) != 286) = false := by rw [h1]; rfl
            have b2 : ((l3.length : Int) != 30) = true := by rw [bne_iff_ne]; omega
            obtain rfl : 210 = r1 := by
              have h := HF.out
              rwa [show squeeze_fair.g l2 l3 = false by unfold squeeze_fair.g; rw [show (l3.length == 30) = false from by rw [beq_eq_false_iff_ne]; exact h2]; simp] at h
            clear h1 h2
            go_enter Tryd.func26, Tryd.ntmps26
            go_wp2
            go_ret
            exact ⟨rfl, DR.out⟩
        · have b1 : ((l2.length : Int) != 286) = true := by rw [bne_iff_ne]; omega
          obtain rfl : 210 = r1 := by
            have h := HF.out
            rwa [show squeeze_fair.g l2 l3 = false by unfold squeeze_fair.g; rw [show (l2.length == 286) = false from by rw [beq_eq_false_iff_ne]; exact h1]; simp] at h
          clear h1
          go_enter Tryd.func26, Tryd.ntmps26
          go_wp2
          go_ret
          exact ⟨rfl, DR.out⟩

/-! ### valiselaw21_costs: function 29 -/
mutual
def valiselaw21_costs.l0 : Nat → List (S56) → Int → List Int → List Int → Int → Int → Option (Int × Bool)
  | 0, _, _, _, _, _, _ => none
  | k + 1, x0, x1, x2, x3, x10, x11 => if x11 < (x0.length : Int) then (if 0 ≤ x11 then (if ((rd_T56 x0 x11).f0) = 0 then (valiselaw21_costs.j1 k x0 x1 x2 x3 x10 x11 (((rd_T56 x0 x11).f1) == 0) ((rd_T56 x0 x11).f0) ((rd_T56 x0 x11).f1) ((rd_T56 x0 x11).f2)) else (valiselaw21_costs.j1 k x0 x1 x2 x3 x10 x11 false ((rd_T56 x0 x11).f0) ((rd_T56 x0 x11).f1) ((rd_T56 x0 x11).f2))) else (none)) else (some (x10, true))
def valiselaw21_costs.j1 : Nat → List (S56) → Int → List Int → List Int → Int → Int → Bool → Int → Int → Int → Option (Int × Bool)
  | 0, _, _, _, _, _, _, _, _, _, _ => none
  | k + 1, x0, x1, x2, x3, x10, x11, x38, x274000, x274001, x274002 => if x38 = true then (if 0 ≤ (wrap64 (x274002)) then (if (wrap64 (x274002)) < (x2.length : Int) then (valiselaw21_costs.l0 k x0 x1 x2 x3 (wrap64 (x10 + (rd x2 (wrap64 (x274002))))) (wrap64 (x11 + 1))) else (none)) else (none)) else ((block_LengthSymbol.f k x274000).bind fun bt275 => ((block_DistSymbol.f k x274001).bind fun bt279 => (if bt275.2.2.2 = 0 then (if bt279.2.2.2 = 0 then (if x274002 = 0 then (if x274001 > x1 then (some (0, false)) else (if bt275.1 < 257 then (some (0, false)) else (if bt275.1 > 285 then (some (0, false)) else (if bt279.1 < 0 then (some (0, false)) else (if bt279.1 > 29 then (some (0, false)) else (if 0 ≤ bt275.1 then (if bt275.1 < (x2.length : Int) then (if 0 ≤ bt279.1 then (if bt279.1 < (x3.length : Int) then (valiselaw21_costs.l0 k x0 x1 x2 x3 (wrap64 ((wrap64 (x10 + (rd x2 bt275.1))) + (rd x3 bt279.1))) (wrap64 (x11 + 1))) else (none)) else (none)) else (none)) else (none))))))) else (some (0, false))) else (some (0, false))) else (some (0, false)))))
end
def valiselaw21_costs.f (k : Nat) (l0 : List (S56)) (a1 : Int) (l2 : List Int) (l3 : List Int) : Option (Int × Bool) := valiselaw21_costs.l0 k l0 a1 l2 l3 0 0
theorem valiselaw21_costs.mono_l : ∀ k, (∀ y0 y1 y2 y3 y4 y5, LeO (valiselaw21_costs.l0 k y0 y1 y2 y3 y4 y5) (valiselaw21_costs.l0 (k + 1) y0 y1 y2 y3 y4 y5)) ∧ (∀ y0 y1 y2 y3 y4 y5 y6 y7 y8 y9, LeO (valiselaw21_costs.j1 k y0 y1 y2 y3 y4 y5 y6 y7 y8 y9) (valiselaw21_costs.j1 (k + 1) y0 y1 y2 y3 y4 y5 y6 y7 y8 y9))
  | 0 => ⟨fun _ _ _ _ _ _ r h => by simp [valiselaw21_costs.l0] at h, fun _ _ _ _ _ _ _ _ _ _ r h => by simp [valiselaw21_costs.j1] at h⟩
  | k + 1 => by
    obtain ⟨ih0, ih1⟩ := valiselaw21_costs.mono_l k
    refine ⟨?_, ?_⟩
    · intro y0 y1 y2 y3 y4 y5
      unfold valiselaw21_costs.l0
      repeat' first
      | (with_reducible exact ih0 _ _ _ _ _ _)
      | (with_reducible exact ih1 _ _ _ _ _ _ _ _ _ _)
      | (with_reducible exact block_DistSymbol.mono _ _)
      | (with_reducible exact block_LengthSymbol.mono _ _)
      | (with_reducible exact LeO.refl _)
      | (with_reducible exact LeO.none _)
      | (with_reducible refine LeO.ite ?_ ?_)
      | (with_reducible refine LeO.bind ?_ (fun _ => ?_))
      | exact ih0 _ _ _ _ _ _
      | exact ih1 _ _ _ _ _ _ _ _ _ _
      | exact block_DistSymbol.mono _ _
      | exact block_LengthSymbol.mono _ _
      | exact LeO.none _
      | refine LeO.ite ?_ ?_
      | refine LeO.bind ?_ (fun _ => ?_)
    · intro y0 y1 y2 y3 y4 y5 y6 y7 y8 y9
      unfold valiselaw21_costs.j1
      repeat' first
      | (with_reducible exact ih0 _ _ _ _ _ _)
      | (with_reducible exact ih1 _ _ _ _ _ _ _ _ _ _)
      | (with_reducible exact block_DistSymbol.mono _ _)
      | (with_reducible exact block_LengthSymbol.mono _ _)
      | (with_reducible exact LeO.refl _)
      | (with_reducible exact LeO.none _)
      | (with_reducible refine LeO.ite ?_ ?_)
      | (with_reducible refine LeO.bind ?_ (fun _ => ?_))
      | exact ih0 _ _ _ _ _ _
      | exact ih1 _ _ _ _ _ _ _ _ _ _
      | exact block_DistSymbol.mono _ _
      | exact block_LengthSymbol.mono _ _
      | exact LeO.none _
      | refine LeO.ite ?_ ?_
      | refine LeO.bind ?_ (fun _ => ?_)
theorem valiselaw21_costs.mono : ∀ a0 a1 a2 a3 k, LeO (valiselaw21_costs.f k a0 a1 a2 a3) (valiselaw21_costs.f (k + 1) a0 a1 a2 a3) := by
  intro a0 a1 a2 a3 k
  obtain ⟨ih0, ih1⟩ := valiselaw21_costs.mono_l k
  unfold valiselaw21_costs.f
  repeat' first
      | (with_reducible exact ih0 _ _ _ _ _ _)
      | (with_reducible exact ih1 _ _ _ _ _ _ _ _ _ _)
      | (with_reducible exact block_DistSymbol.mono _ _)
      | (with_reducible exact block_LengthSymbol.mono _ _)
      | (with_reducible exact LeO.refl _)
      | (with_reducible exact LeO.none _)
      | (with_reducible refine LeO.ite ?_ ?_)
      | (with_reducible refine LeO.bind ?_ (fun _ => ?_))
      | exact ih0 _ _ _ _ _ _
      | exact ih1 _ _ _ _ _ _ _ _ _ _
      | exact block_DistSymbol.mono _ _
      | exact block_LengthSymbol.mono _ _
      | exact LeO.none _
      | refine LeO.ite ?_ ?_
      | refine LeO.bind ?_ (fun _ => ?_)
set_option maxHeartbeats 8000000 in
set_option maxRecDepth 100000 in
theorem valiselaw21_costs.calls (k : Nat) (A0 : Option Addr) (c0 : Nat) (l0 : List (S56)) (a1 : Int) (A2 : Option Addr) (c2 : Nat) (l2 : List Int) (A3 : Option Addr) (c3 : Nat) (l3 : List Int) (r1 : Int) (r2 : Bool) (w : World) (hr0 : Kd.C k56 w A0 l0.length l0) (hc0 : l0.length ≤ c0) (hr2 : Kd.C (Kd.int .i64) w A2 l2.length l2) (hc2 : l2.length ≤ c2) (hr3 : Kd.C (Kd.int .i64) w A3 l3.length l3) (hc3 : l3.length ≤ c3) (hG : Tabs w) (h : valiselaw21_costs.f k l0 a1 l2 l3 = some (r1, r2)) :
    Calls Tryd.prog 29 #[.slice A0 l0.length c0, .int .i64 a1, .slice A2 l2.length c2, .slice A3 l3.length c3] w fun e w' => e = .returned (.tuple #[.int .i64 r1, .bool r2]) ∧ Below w.heap.size w w' := by
  have hu56 := Tryd.underlying56
  have HG := Aside0.mk hG
  clear hG
  have HR0 := Aside0.mk hr0
  have HC0 := Aside0.mk hc0
  clear hr0 hc0
  have HR2 := Aside0.mk hr2
  have HC2 := Aside0.mk hc2
  clear hr2 hc2
  have HR3 := Aside0.mk hr3
  have HC3 := Aside0.mk hc3
  clear hr3 hc3
  have HB := Aside0.mk (Below.refl w.heap.size w)
  have H : (valiselaw21_costs.l0 k l0 a1 l2 l3 0 0) = some (r1, r2) := h
  clear h
  have H' := Aside0.mk H
  clear H
  go_enter Tryd.func29, Tryd.ntmps29
  go_wp2
  repeat (go_quiet (fail); try go_wp2)
  go_loopg [10, 11] k (fun kq v10 v11 w' => ∃ (x10_1 : Int) (x11_1 : Int), v10 = .int .i64 x10_1 ∧ v11 = .int .i64 x11_1 ∧ Aside0 (valiselaw21_costs.l0 kq l0 a1 l2 l3 x10_1 x11_1 = some (r1, r2)) ∧ Aside0 (kq ≤ k) ∧ Aside0 (Below w.heap.size w w'))
  case atStart => exact ⟨(0), (0), (by first | rfl | (simp; done) | (simp [*]; done)), (by first | rfl | (simp; done) | (simp [*]; done)), H', ⟨Nat.le_refl _⟩, ⟨by repeat (first | (with_reducible first | exact HB.out | apply below_alloc | apply pw_below_drewN | apply below_drew1) | exact HB.out)⟩⟩
  case round =>
    clear H'
    try clear c2
    try clear p2
    try clear c3
    obtain ⟨x10_1, x11_1, rfl, rfl, HA, HK1, HB⟩ := hrel
    cases gk with
    | zero => exact absurd HA.out (by simp [valiselaw21_costs.l0])
    | succ k1 =>
      have H := HA.out
      clear HA
      simp only [valiselaw21_costs.l0] at H
      by_cases c5 : x11_1 < (l0.length : Int)
      · rw [if_pos c5] at H
        have c5b0 : decide (x11_1 < (l0.length : Int)) = true := decide_eq_true c5
        clear c5
        by_cases c6 : 0 ≤ x11_1
        · rw [if_pos c6] at H
          have c6b0 : decide (0 ≤ x11_1) = true := decide_eq_true c6
          clear c6
          have HC7 := Aside0.mk H
          clear H
          have p272 : 0 ≤ (x11_1 : Int) := of_decide_eq_true (by first | (with_reducible assumption) | assumption)
          have q272 : x11_1 < (l0.length : Int) := of_decide_eq_true (by first | (with_reducible assumption) | assumption)
          obtain ⟨ad272, e272, hx272_0, hx272_1, hx272_2⟩ := at_T56 HR0.out x11_1 p272 q272
          cases e272
          replace hx272_0 := (HB.out.cell (World.block_lt_of_cell? w _ hx272_0)).trans hx272_0
          replace hx272_1 := (HB.out.cell (World.block_lt_of_cell? w _ hx272_1)).trans hx272_1
          replace hx272_2 := (HB.out.cell (World.block_lt_of_cell? w _ hx272_2)).trans hx272_2
          replace p272 := eq_true p272
          replace q272 := eq_true q272
          go_upto_region 6 with (first | ((with_reducible refine gate_dst (N := 12) rfl ?_); refine box_event ?hg (N := 12) ?hd (cs := #[.int .i64 0, .int .i64 0, .int .u8 0]) (t := 56) ?hr ?_; (case hd => rfl); (case hg => rfl); (case hr => first | (go_simp; done) | (go_simp; rfl)); intro gb273 hg w8 hbox hb; have n0_ := Aside0.mk (below_step (by repeat (first | (with_reducible first | exact HB.out | apply below_alloc | apply pw_below_drewN | apply below_drew1) | exact HB.out)) hb); have n1_ := Aside0.mk (hbox); have n2_ := Aside0.mk ((by rw [hg]; exact (below_size (by repeat (first | (with_reducible first | exact HB.out | apply below_alloc | apply pw_below_drewN | apply below_drew1) | exact HB.out))) : w.heap.size ≤ gb273)); have n3_ := Aside0.mk ((by rw [hg]; exact (below_size (by repeat (first | (with_reducible first | exact HB.out | apply below_alloc | apply pw_below_drewN | apply below_drew1) | exact HB.out))) : w.heap.size ≤ gb273)); clear HB; have HB := n0_; have BK273 := n1_; have GW273 := n2_; have GE273 := n3_; clear n0_ n1_ n2_ n3_; clear hb hbox hg; have hcz9_0 : w8.cell? ⟨gb273, 0, none⟩ = some (.int .i64 0) := (blk_cell BK273.out 0).trans rfl; have hcz9_1 : w8.cell? ⟨gb273, 1, none⟩ = some (.int .i64 0) := (blk_cell BK273.out 1).trans rfl; have hcz9_2 : w8.cell? ⟨gb273, 2, none⟩ = some (.int .u8 0) := (blk_cell BK273.out 2).trans rfl; have hfz9_0 := blk_frozen BK273.out 0; have hfz9_1 := blk_frozen BK273.out 1; have hfz9_2 := blk_frozen BK273.out 2))
          repeat (go_quiet (first | ((with_reducible refine gate_dst (N := 12) rfl ?_); refine box_event ?hg (N := 12) ?hd (cs := #[.int .i64 0, .int .i64 0, .int .u8 0]) (t := 56) ?hr ?_; (case hd => rfl); (case hg => rfl); (case hr => first | (go_simp; done) | (go_simp; rfl)); intro gb273 hg w8 hbox hb; have n0_ := Aside0.mk (below_step (by repeat (first | (with_reducible first | exact HB.out | apply below_alloc | apply pw_below_drewN | apply below_drew1) | exact HB.out)) hb); have n1_ := Aside0.mk (hbox); have n2_ := Aside0.mk ((by rw [hg]; exact (below_size (by repeat (first | (with_reducible first | exact HB.out | apply below_alloc | apply pw_below_drewN | apply below_drew1) | exact HB.out))) : w.heap.size ≤ gb273)); have n3_ := Aside0.mk ((by rw [hg]; exact (below_size (by repeat (first | (with_reducible first | exact HB.out | apply below_alloc | apply pw_below_drewN | apply below_drew1) | exact HB.out))) : w.heap.size ≤ gb273)); clear HB; have HB := n0_; have BK273 := n1_; have GW273 := n2_; have GE273 := n3_; clear n0_ n1_ n2_ n3_; clear hb hbox hg; have hcz9_0 : w8.cell? ⟨gb273, 0, none⟩ = some (.int .i64 0) := (blk_cell BK273.out 0).trans rfl; have hcz9_1 : w8.cell? ⟨gb273, 1, none⟩ = some (.int .i64 0) := (blk_cell BK273.out 1).trans rfl; have hcz9_2 : w8.cell? ⟨gb273, 2, none⟩ = some (.int .u8 0) := (blk_cell BK273.out 2).trans rfl; have hfz9_0 := blk_frozen BK273.out 0; have hfz9_1 := blk_frozen BK273.out 1; have hfz9_2 := blk_frozen BK273.out 2)); go_upto_region 6 with (first | ((with_reducible refine gate_dst (N := 12) rfl ?_); refine box_event ?hg (N := 12) ?hd (cs := #[.int .i64 0, .int .i64 0, .int .u8 0]) (t := 56) ?hr ?_; (case hd => rfl); (case hg => rfl); (case hr => first | (go_simp; done) | (go_simp; rfl)); intro gb273 hg w8 hbox hb; have n0_ := Aside0.mk (below_step (by repeat (first | (with_reducible first | exact HB.out | apply below_alloc | apply pw_below_drewN | apply below_drew1) | exact HB.out)) hb); have n1_ := Aside0.mk (hbox); have n2_ := Aside0.mk ((by rw [hg]; exact (below_size (by repeat (first | (with_reducible first | exact HB.out | apply below_alloc | apply pw_below_drewN | apply below_drew1) | exact HB.out))) : w.heap.size ≤ gb273)); have n3_ := Aside0.mk ((by rw [hg]; exact (below_size (by repeat (first | (with_reducible first | exact HB.out | apply below_alloc | apply pw_below_drewN | apply below_drew1) | exact HB.out))) : w.heap.size ≤ gb273)); clear HB; have HB := n0_; have BK273 := n1_; have GW273 := n2_; have GE273 := n3_; clear n0_ n1_ n2_ n3_; clear hb hbox hg; have hcz9_0 : w8.cell? ⟨gb273, 0, none⟩ = some (.int .i64 0) := (blk_cell BK273.out 0).trans rfl; have hcz9_1 : w8.cell? ⟨gb273, 1, none⟩ = some (.int .i64 0) := (blk_cell BK273.out 1).trans rfl; have hcz9_2 : w8.cell? ⟨gb273, 2, none⟩ = some (.int .u8 0) := (blk_cell BK273.out 2).trans rfl; have hfz9_0 := blk_frozen BK273.out 0; have hfz9_1 := blk_frozen BK273.out 1; have hfz9_2 := blk_frozen BK273.out 2)))
          (try simp only [Act.put, List.setIfInBounds_toArray, List.set_cons_zero, List.set_cons_succ])
          go_cut [38] (fun v38 wc => ∃ (kq : Nat) (x38_6 : Bool), v38 = .bool x38_6 ∧ Aside0 (valiselaw21_costs.j1 kq l0 a1 l2 l3 x10_1 x11_1 x38_6 ((rd_T56 l0 x11_1).f0) ((rd_T56 l0 x11_1).f1) ((rd_T56 l0 x11_1).f2) = some (r1, r2)) ∧ Aside0 (kq ≤ k1) ∧ Aside0 (wc.heap[gb273]? = some (.cells #[.int .i64 ((rd_T56 l0 x11_1).f0), .int .i64 ((rd_T56 l0 x11_1).f1), .int .u8 ((rd_T56 l0 x11_1).f2)] 56 (0, 0))) ∧ Aside0 (Below w.heap.size w wc))
          case first =>
            have H := HC7.out
            clear HC7
            by_cases c10 : ((rd_T56 l0 x11_1).f0) = 0
            · rw [if_pos c10] at H
              have c10b0 : (((rd_T56 l0 x11_1).f0) == 0) = true := beq_iff_eq.mpr c10
              have c10b1 : (((rd_T56 l0 x11_1).f0) != 0) = false := bne_eq_false_iff_eq.mpr c10
              clear c10
              (first | rw [c10b0] | (simp only [i64_w, i32_w]; rw [c10b0]) | skip)
              have H' := Aside0.mk H
              clear H
              have hcz11_0 : w8.cell? ⟨gb273, 0, none⟩ = some (.int .i64 0) := (blk_cell BK273.out 0).trans rfl
              have hcz11_1 : w8.cell? ⟨gb273, 1, none⟩ = some (.int .i64 0) := (blk_cell BK273.out 1).trans rfl
              have hcz11_2 : w8.cell? ⟨gb273, 2, none⟩ = some (.int .u8 0) := (blk_cell BK273.out 2).trans rfl
              have hfz11_0 := blk_frozen BK273.out 0
              have hfz11_1 := blk_frozen BK273.out 1
              have hfz11_2 := blk_frozen BK273.out 2
              go_wp2
              repeat (go_quiet (fail); try go_wp2)
              go_meet
              case rel => exact ⟨_, ((((rd_T56 l0 x11_1).f1) == 0)), (by first | rfl | (simp; done) | (simp [*]; done)), H', ⟨by have := HK1.out; first | omega | exact Nat.le_refl _⟩, ⟨by (with_reducible repeat (first | refine blk_drewN ?_ _ | refine blk_drew ?_ | refine blk_alloc ?_ _)); refine blk_put (cs := #[.int .i64 ((rd_T56 l0 x11_1).f0), .int .i64 ((rd_T56 l0 x11_1).f1), .int .u8 0]) ?_ 2 _ rfl; (with_reducible repeat (first | refine blk_drewN ?_ _ | refine blk_drew ?_ | refine blk_alloc ?_ _)); refine blk_put (cs := #[.int .i64 ((rd_T56 l0 x11_1).f0), .int .i64 0, .int .u8 0]) ?_ 1 _ rfl; (with_reducible repeat (first | refine blk_drewN ?_ _ | refine blk_drew ?_ | refine blk_alloc ?_ _)); refine blk_put (cs := #[.int .i64 0, .int .i64 0, .int .u8 0]) ?_ 0 _ rfl; (with_reducible repeat (first | refine blk_drewN ?_ _ | refine blk_drew ?_ | refine blk_alloc ?_ _)); exact BK273.out⟩, ⟨by repeat (first | (with_reducible first | exact HB.out | apply below_alloc | apply pw_below_drewN | apply below_drew1 | refine below_set ?_ GE273.out) | exact HB.out)⟩⟩
            · rw [if_neg c10] at H
              have c10b0 : (((rd_T56 l0 x11_1).f0) == 0) = false := beq_eq_false_iff_ne.mpr c10
              have c10b1 : (((rd_T56 l0 x11_1).f0) != 0) = true := bne_iff_ne.mpr c10
              (first | rw [c10b0] | (simp only [i64_w, i32_w]; rw [c10b0]) | skip)
              have H' := Aside0.mk H
              clear H
              have hcz12_0 : w8.cell? ⟨gb273, 0, none⟩ = some (.int .i64 0) := (blk_cell BK273.out 0).trans rfl
              have hcz12_1 : w8.cell? ⟨gb273, 1, none⟩ = some (.int .i64 0) := (blk_cell BK273.out 1).trans rfl
              have hcz12_2 : w8.cell? ⟨gb273, 2, none⟩ = some (.int .u8 0) := (blk_cell BK273.out 2).trans rfl
              have hfz12_0 := blk_frozen BK273.out 0
              have hfz12_1 := blk_frozen BK273.out 1
              have hfz12_2 := blk_frozen BK273.out 2
              go_wp2
              repeat (go_quiet (fail); try go_wp2)
              go_meet
              case rel => exact ⟨_, (false), (by first | rfl | (simp; done) | (simp [*]; done)), H', ⟨by have := HK1.out; first | omega | exact Nat.le_refl _⟩, ⟨by (with_reducible repeat (first | refine blk_drewN ?_ _ | refine blk_drew ?_ | refine blk_alloc ?_ _)); refine blk_put (cs := #[.int .i64 ((rd_T56 l0 x11_1).f0), .int .i64 ((rd_T56 l0 x11_1).f1), .int .u8 0]) ?_ 2 _ rfl; (with_reducible repeat (first | refine blk_drewN ?_ _ | refine blk_drew ?_ | refine blk_alloc ?_ _)); refine blk_put (cs := #[.int .i64 ((rd_T56 l0 x11_1).f0), .int .i64 0, .int .u8 0]) ?_ 1 _ rfl; (with_reducible repeat (first | refine blk_drewN ?_ _ | refine blk_drew ?_ | refine blk_alloc ?_ _)); refine blk_put (cs := #[.int .i64 0, .int .i64 0, .int .u8 0]) ?_ 0 _ rfl; (with_reducible repeat (first | refine blk_drewN ?_ _ | refine blk_drew ?_ | refine blk_alloc ?_ _)); exact BK273.out⟩, ⟨by repeat (first | (with_reducible first | exact HB.out | apply below_alloc | apply pw_below_drewN | apply below_drew1 | refine below_set ?_ GE273.out) | exact HB.out)⟩⟩
          case rest =>
            clear HC7
            try clear c1
            try clear c2
            try clear p2
            try clear q2
            try clear hx2
            try clear c3
            try clear c5
            try clear c5b0
            try clear c6
            try clear c6b0
            try clear c10
            try clear c10b0
            try clear c10b1
            try clear hcz11_0
            try clear hcz11_1
            try clear hcz11_2
            try clear hcz12_0
            try clear hcz12_1
            try clear hcz12_2
            try clear hcz9_0
            try clear hcz9_1
            try clear hcz9_2
            try clear hfz11_0
            try clear hfz11_1
            try clear hfz11_2
            try clear hfz12_0
            try clear hfz12_1
            try clear hfz12_2
            try clear hfz9_0
            try clear hfz9_1
            try clear hfz9_2
            try clear hx272_0
            try clear hx272_1
            try clear hx272_2
            try clear p2
            try clear p272
            try clear q272
            obtain ⟨kq, x38_6, rfl, HA, HJ6, BK273, HB⟩ := hcut
            cases kq with
            | zero => exact absurd HA.out (by simp [valiselaw21_costs.j1])
            | succ kj6 =>
              have H := HA.out
              clear HA
              simp only [valiselaw21_costs.j1] at H
              by_cases c13 : x38_6 = true
              · subst c13
                have H1 : (if 0 ≤ (wrap64 (((rd_T56 l0 x11_1).f2))) then (if (wrap64 (((rd_T56 l0 x11_1).f2))) < (l2.length : Int) then (valiselaw21_costs.l0 kj6 l0 a1 l2 l3 (wrap64 (x10_1 + (rd l2 (wrap64 (((rd_T56 l0 x11_1).f2)))))) (wrap64 (x11_1 + 1))) else (none)) else (none)) = some (r1, r2) := by rw [if_pos rfl] at H; exact H
                clear H
                have H := H1
                clear H1
                obtain ⟨ji14, hji14⟩ : ∃ j_ : Int, (wrap64 (((rd_T56 l0 x11_1).f2))) = j_ := ⟨_, rfl⟩
                replace H : (if 0 ≤ (ji14) then (if (ji14) < (l2.length : Int) then (valiselaw21_costs.l0 kj6 l0 a1 l2 l3 (wrap64 (x10_1 + (rd l2 (ji14)))) (wrap64 (x11_1 + 1))) else (none)) else (none)) = some (r1, r2) := by first | (rw [hji14] at H; exact H) | (simp only [hji14] at H ⊢; exact H)
                have hji14w : (IntKind.i64.wrap (((rd_T56 l0 x11_1).f2))) = ji14 := (i64_w _).trans hji14
                by_cases c15 : 0 ≤ (ji14)
                · rw [if_pos c15] at H
                  have c15b0 : decide (0 ≤ (ji14)) = true := decide_eq_true c15
                  clear c15
                  by_cases c16 : (ji14) < (l2.length : Int)
                  · rw [if_pos c16] at H
                    have c16b0 : decide ((ji14) < (l2.length : Int)) = true := decide_eq_true c16
                    clear c16
                    have H' := Aside0.mk H
                    clear H
                    have hcz17_0 : wc.cell? ⟨gb273, 0, none⟩ = some (.int .i64 ((rd_T56 l0 x11_1).f0)) := (blk_cell BK273.out 0).trans rfl
                    have hcz17_1 : wc.cell? ⟨gb273, 1, none⟩ = some (.int .i64 ((rd_T56 l0 x11_1).f1)) := (blk_cell BK273.out 1).trans rfl
                    have hcz17_2 : wc.cell? ⟨gb273, 2, none⟩ = some (.int .u8 ((rd_T56 l0 x11_1).f2)) := (blk_cell BK273.out 2).trans rfl
                    have hfz17_0 := blk_frozen BK273.out 0
                    have hfz17_1 := blk_frozen BK273.out 1
                    have hfz17_2 := blk_frozen BK273.out 2
                    have p274 : 0 ≤ ((ji14) : Int) := of_decide_eq_true (by first | (with_reducible assumption) | assumption)
                    have q274 : (ji14) < (l2.length : Int) := of_decide_eq_true (by first | (with_reducible assumption) | assumption)
                    obtain ⟨ad274, e274, hx274_0⟩ := Kd.at_int HR2.out (ji14) p274 q274
                    cases e274
                    replace hx274_0 := (HB.out.cell (World.block_lt_of_cell? w _ hx274_0)).trans hx274_0
                    replace p274 := eq_true p274
                    replace q274 := eq_true q274
                    go_wp2
                    repeat (go_quiet (fail); try go_wp2)
                    go_roundg kj6
                    case measure => have := HK1.out; have := HJ6.out; omega
                    case rel => exact ⟨(wrap64 (x10_1 + (rd l2 (ji14)))), (wrap64 (x11_1 + 1)), (by first | rfl | (simp; done) | (simp only [← hji14] <;> (first | rfl | simp)) | (simp [*]; done)), (by first | rfl | (simp; done) | (simp [*]; done)), H', ⟨by have := HK1.out; have := HJ6.out; omega⟩, ⟨by repeat (first | (with_reducible first | exact HB.out | apply below_alloc | apply pw_below_drewN | apply below_drew1 | refine below_set ?_ GE273.out) | exact HB.out)⟩⟩
                  · rw [if_neg c16] at H
                    exact absurd H (by simp)
                · rw [if_neg c15] at H
                  exact absurd H (by simp)
              · replace c13 := Bool.eq_false_iff.mpr c13
                subst c13
                have H1 : ((block_LengthSymbol.f kj6 ((rd_T56 l0 x11_1).f0)).bind fun bt275 => ((block_DistSymbol.f kj6 ((rd_T56 l0 x11_1).f1)).bind fun bt279 => (if bt275.2.2.2 = 0 then (if bt279.2.2.2 = 0 then (if ((rd_T56 l0 x11_1).f2) = 0 then (if ((rd_T56 l0 x11_1).f1) > a1 then (some (0, false)) else (if bt275.1 < 257 then (some (0, false)) else (if bt275.1 > 285 then (some (0, false)) else (if bt279.1 < 0 then (some (0, false)) else (if bt279.1 > 29 then (some (0, false)) else (if 0 ≤ bt275.1 then (if bt275.1 < (l2.length : Int) then (if 0 ≤ bt279.1 then (if bt279.1 < (l3.length : Int) then (valiselaw21_costs.l0 kj6 l0 a1 l2 l3 (wrap64 ((wrap64 (x10_1 + (rd l2 bt275.1))) + (rd l3 bt279.1))) (wrap64 (x11_1 + 1))) else (none)) else (none)) else (none)) else (none))))))) else (some (0, false))) else (some (0, false))) else (some (0, false))))) = some (r1, r2) := by rw [if_neg (show ¬ (false = true) by decide)] at H; exact H
                clear H
                have H := H1
                clear H1
                replace H := Option.bind_eq_some_iff.mp H
                obtain ⟨⟨t275, t276, t277, t278⟩, A180, H⟩ := H
                replace H : ((block_DistSymbol.f kj6 ((rd_T56 l0 x11_1).f1)).bind fun bt279 => (if t278 = 0 then (if bt279.2.2.2 = 0 then (if ((rd_T56 l0 x11_1).f2) = 0 then (if ((rd_T56 l0 x11_1).f1) > a1 then (some (0, false)) else (if t275 < 257 then (some (0, false)) else (if t275 > 285 then (some (0, false)) else (if bt279.1 < 0 then (some (0, false)) else (if bt279.1 > 29 then (some (0, false)) else (if 0 ≤ t275 then (if t275 < (l2.length : Int) then (if 0 ≤ bt279.1 then (if bt279.1 < (l3.length : Int) then (valiselaw21_costs.l0 kj6 l0 a1 l2 l3 (wrap64 ((wrap64 (x10_1 + (rd l2 t275))) + (rd l3 bt279.1))) (wrap64 (x11_1 + 1))) else (none)) else (none)) else (none)) else (none))))))) else (some (0, false))) else (some (0, false))) else (some (0, false)))) = some (r1, r2) := H
                have A18 := Aside0.mk A180
                clear A180
                replace H := Option.bind_eq_some_iff.mp H
                obtain ⟨⟨t279, t280, t281, t282⟩, A190, H⟩ := H
                replace H : (if t278 = 0 then (if t282 = 0 then (if ((rd_T56 l0 x11_1).f2) = 0 then (if ((rd_T56 l0 x11_1).f1) > a1 then (some (0, false)) else (if t275 < 257 then (some (0, false)) else (if t275 > 285 then (some (0, false)) else (if t279 < 0 then (some (0, false)) else (if t279 > 29 then (some (0, false)) else (if 0 ≤ t275 then (if t275 < (l2.length : Int) then (if 0 ≤ t279 then (if t279 < (l3.length : Int) then (valiselaw21_costs.l0 kj6 l0 a1 l2 l3 (wrap64 ((wrap64 (x10_1 + (rd l2 t275))) + (rd l3 t279))) (wrap64 (x11_1 + 1))) else (none)) else (none)) else (none)) else (none))))))) else (some (0, false))) else (some (0, false))) else (some (0, false))) = some (r1, r2) := H
                have A19 := Aside0.mk A190
                clear A190
                by_cases c20 : t278 = 0
                · rw [if_pos c20] at H
                  have c20b0 : (t278 == 0) = true := beq_iff_eq.mpr c20
                  have c20b1 : (t278 != 0) = false := bne_eq_false_iff_eq.mpr c20
                  clear c20
                  by_cases c21 : t282 = 0
                  · rw [if_pos c21] at H
                    have c21b0 : (t282 == 0) = true := beq_iff_eq.mpr c21
                    have c21b1 : (t282 != 0) = false := bne_eq_false_iff_eq.mpr c21
                    clear c21
                    by_cases c22 : ((rd_T56 l0 x11_1).f2) = 0
                    · rw [if_pos c22] at H
                      have c22b0 : (((rd_T56 l0 x11_1).f2) == 0) = true := beq_iff_eq.mpr c22
                      have c22b1 : (((rd_T56 l0 x11_1).f2) != 0) = false := bne_eq_false_iff_eq.mpr c22
                      clear c22
                      by_cases c23 : ((rd_T56 l0 x11_1).f1) > a1
                      · rw [if_pos c23] at H
                        have c23b0 : decide (a1 < ((rd_T56 l0 x11_1).f1)) = true := decide_eq_true c23
                        clear c23
                        simp only [Option.some.injEq, Prod.mk.injEq] at H
                        obtain ⟨rfl, rfl⟩ := H
                        have hcz24_0 : wc.cell? ⟨gb273, 0, none⟩ = some (.int .i64 ((rd_T56 l0 x11_1).f0)) := (blk_cell BK273.out 0).trans rfl
                        have hcz24_1 : wc.cell? ⟨gb273, 1, none⟩ = some (.int .i64 ((rd_T56 l0 x11_1).f1)) := (blk_cell BK273.out 1).trans rfl
                        have hcz24_2 : wc.cell? ⟨gb273, 2, none⟩ = some (.int .u8 ((rd_T56 l0 x11_1).f2)) := (blk_cell BK273.out 2).trans rfl
                        have hfz24_0 := blk_frozen BK273.out 0
                        have hfz24_1 := blk_frozen BK273.out 1
                        have hfz24_2 := blk_frozen BK273.out 2
                        go_wp2_with (first | (go_at_call 34; (with_reducible refine (block_LengthSymbol.calls kj6 ((rd_T56 l0 x11_1).f0) t275 t276 t277 t278 _ ?side1 A18.out).mono ?_); (case side1 => repeat (first | exact HG.out | exact (Tabs.below HG.out (by repeat (first | (with_reducible first | exact HB.out | apply below_alloc | apply pw_below_drewN | apply below_drew1 | refine below_set ?_ GE273.out) | exact HB.out))) | (with_reducible refine Tabs.alloc ?_ _) | (with_reducible refine Tabs.drewN ?_ _) | (with_reducible refine Tabs.drew ?_))); rintro e w' ⟨rfl, ⟨nd, rfl⟩⟩; (try first | exact ⟨rfl, _, World.drewN_drewN _ _ _⟩ | exact ⟨rfl, _, Eq.trans (World.drewN_drewN _ _ _) (congrArg (World.drewN _) (Nat.add_assoc _ _ _))⟩)) | (go_at_call 35; (with_reducible refine (block_DistSymbol.calls kj6 ((rd_T56 l0 x11_1).f1) t279 t280 t281 t282 _ ?side1 A19.out).mono ?_); (case side1 => repeat (first | exact HG.out | exact (Tabs.below HG.out (by repeat (first | (with_reducible first | exact HB.out | apply below_alloc | apply pw_below_drewN | apply below_drew1 | refine below_set ?_ GE273.out) | exact HB.out))) | (with_reducible refine Tabs.alloc ?_ _) | (with_reducible refine Tabs.drewN ?_ _) | (with_reducible refine Tabs.drew ?_))); rintro e w' ⟨rfl, ⟨nd, rfl⟩⟩; (try first | exact ⟨rfl, _, World.drewN_drewN _ _ _⟩ | exact ⟨rfl, _, Eq.trans (World.drewN_drewN _ _ _) (congrArg (World.drewN _) (Nat.add_assoc _ _ _))⟩)))
                        repeat (go_quiet (first | (go_at_call 34; (with_reducible refine (block_LengthSymbol.calls kj6 ((rd_T56 l0 x11_1).f0) t275 t276 t277 t278 _ ?side1 A18.out).mono ?_); (case side1 => repeat (first | exact HG.out | exact (Tabs.below HG.out (by repeat (first | (with_reducible first | exact HB.out | apply below_alloc | apply pw_below_drewN | apply below_drew1 | refine below_set ?_ GE273.out) | exact HB.out))) | (with_reducible refine Tabs.alloc ?_ _) | (with_reducible refine Tabs.drewN ?_ _) | (with_reducible refine Tabs.drew ?_))); rintro e w' ⟨rfl, ⟨nd, rfl⟩⟩; (try first | exact ⟨rfl, _, World.drewN_drewN _ _ _⟩ | exact ⟨rfl, _, Eq.trans (World.drewN_drewN _ _ _) (congrArg (World.drewN _) (Nat.add_assoc _ _ _))⟩)) | (go_at_call 35; (with_reducible refine (block_DistSymbol.calls kj6 ((rd_T56 l0 x11_1).f1) t279 t280 t281 t282 _ ?side1 A19.out).mono ?_); (case side1 => repeat (first | exact HG.out | exact (Tabs.below HG.out (by repeat (first | (with_reducible first | exact HB.out | apply below_alloc | apply pw_below_drewN | apply below_drew1 | refine below_set ?_ GE273.out) | exact HB.out))) | (with_reducible refine Tabs.alloc ?_ _) | (with_reducible refine Tabs.drewN ?_ _) | (with_reducible refine Tabs.drew ?_))); rintro e w' ⟨rfl, ⟨nd, rfl⟩⟩; (try first | exact ⟨rfl, _, World.drewN_drewN _ _ _⟩ | exact ⟨rfl, _, Eq.trans (World.drewN_drewN _ _ _) (congrArg (World.drewN _) (Nat.add_assoc _ _ _))⟩))); try go_wp2_with (first | (go_at_call 34; (with_reducible refine (block_LengthSymbol.calls kj6 ((rd_T56 l0 x11_1).f0) t275 t276 t277 t278 _ ?side1 A18.out).mono ?_); (case side1 => repeat (first | exact HG.out | exact (Tabs.below HG.out (by repeat (first | (with_reducible first | exact HB.out | apply below_alloc | apply pw_below_drewN | apply below_drew1 | refine below_set ?_ GE273.out) | exact HB.out))) | (with_reducible refine Tabs.alloc ?_ _) | (with_reducible refine Tabs.drewN ?_ _) | (with_reducible refine Tabs.drew ?_))); rintro e w' ⟨rfl, ⟨nd, rfl⟩⟩; (try first | exact ⟨rfl, _, World.drewN_drewN _ _ _⟩ | exact ⟨rfl, _, Eq.trans (World.drewN_drewN _ _ _) (congrArg (World.drewN _) (Nat.add_assoc _ _ _))⟩)) | (go_at_call 35; (with_reducible refine (block_DistSymbol.calls kj6 ((rd_T56 l0 x11_1).f1) t279 t280 t281 t282 _ ?side1 A19.out).mono ?_); (case side1 => repeat (first | exact HG.out | exact (Tabs.below HG.out (by repeat (first | (with_reducible first | exact HB.out | apply below_alloc | apply pw_below_drewN | apply below_drew1 | refine below_set ?_ GE273.out) | exact HB.out))) | (with_reducible refine Tabs.alloc ?_ _) | (with_reducible refine Tabs.drewN ?_ _) | (with_reducible refine Tabs.drew ?_))); rintro e w' ⟨rfl, ⟨nd, rfl⟩⟩; (try first | exact ⟨rfl, _, World.drewN_drewN _ _ _⟩ | exact ⟨rfl, _, Eq.trans (World.drewN_drewN _ _ _) (congrArg (World.drewN _) (Nat.add_assoc _ _ _))⟩))))
                        go_ret2
                        exact ⟨by first | rfl | (simp [errW_none, errW_some] <;> rfl) | (simp [*, errW_none, errW_some] <;> rfl), by repeat (first | (with_reducible first | exact HB.out | apply below_alloc | apply pw_below_drewN | apply below_drew1 | refine below_set ?_ GE273.out) | exact HB.out)⟩
                      · rw [if_neg c23] at H
                        have c23b0 : decide (a1 < ((rd_T56 l0 x11_1).f1)) = false := decide_eq_false c23
                        clear c23
                        by_cases c25 : t275 < 257
                        · rw [if_pos c25] at H
                          have c25b0 : decide (t275 < 257) = true := decide_eq_true c25
                          clear c25
                          simp only [Option.some.injEq, Prod.mk.injEq] at H
                          obtain ⟨rfl, rfl⟩ := H
                          have hcz26_0 : wc.cell? ⟨gb273, 0, none⟩ = some (.int .i64 ((rd_T56 l0 x11_1).f0)) := (blk_cell BK273.out 0).trans rfl
                          have hcz26_1 : wc.cell? ⟨gb273, 1, none⟩ = some (.int .i64 ((rd_T56 l0 x11_1).f1)) := (blk_cell BK273.out 1).trans rfl
                          have hcz26_2 : wc.cell? ⟨gb273, 2, none⟩ = some (.int .u8 ((rd_T56 l0 x11_1).f2)) := (blk_cell BK273.out 2).trans rfl
                          have hfz26_0 := blk_frozen BK273.out 0
                          have hfz26_1 := blk_frozen BK273.out 1
                          have hfz26_2 := blk_frozen BK273.out 2
                          go_wp2_with (first | (go_at_call 34; (with_reducible refine (block_LengthSymbol.calls kj6 ((rd_T56 l0 x11_1).f0) t275 t276 t277 t278 _ ?side1 A18.out).mono ?_); (case side1 => repeat (first | exact HG.out | exact (Tabs.below HG.out (by repeat (first | (with_reducible first | exact HB.out | apply below_alloc | apply pw_below_drewN | apply below_drew1 | refine below_set ?_ GE273.out) | exact HB.out))) | (with_reducible refine Tabs.alloc ?_ _) | (with_reducible refine Tabs.drewN ?_ _) | (with_reducible refine Tabs.drew ?_))); rintro e w' ⟨rfl, ⟨nd, rfl⟩⟩; (try first | exact ⟨rfl, _, World.drewN_drewN _ _ _⟩ | exact ⟨rfl, _, Eq.trans (World.drewN_drewN _ _ _) (congrArg (World.drewN _) (Nat.add_assoc _ _ _))⟩)) | (go_at_call 35; (with_reducible refine (block_DistSymbol.calls kj6 ((rd_T56 l0 x11_1).f1) t279 t280 t281 t282 _ ?side1 A19.out).mono ?_); (case side1 => repeat (first | exact HG.out | exact (Tabs.below HG.out (by repeat (first | (with_reducible first | exact HB.out | apply below_alloc | apply pw_below_drewN | apply below_drew1 | refine below_set ?_ GE273.out) | exact HB.out))) | (with_reducible refine Tabs.alloc ?_ _) | (with_reducible refine Tabs.drewN ?_ _) | (with_reducible refine Tabs.drew ?_))); rintro e w' ⟨rfl, ⟨nd, rfl⟩⟩; (try first | exact ⟨rfl, _, World.drewN_drewN _ _ _⟩ | exact ⟨rfl, _, Eq.trans (World.drewN_drewN _ _ _) (congrArg (World.drewN _) (Nat.add_assoc _ _ _))⟩)))
                          repeat (go_quiet (first | (go_at_call 34; (with_reducible refine (block_LengthSymbol.calls kj6 ((rd_T56 l0 x11_1).f0) t275 t276 t277 t278 _ ?side1 A18.out).mono ?_); (case side1 => repeat (first | exact HG.out | exact (Tabs.below HG.out (by repeat (first | (with_reducible first | exact HB.out | apply below_alloc | apply pw_below_drewN | apply below_drew1 | refine below_set ?_ GE273.out) | exact HB.out))) | (with_reducible refine Tabs.alloc ?_ _) | (with_reducible refine Tabs.drewN ?_ _) | (with_reducible refine Tabs.drew ?_))); rintro e w' ⟨rfl, ⟨nd, rfl⟩⟩; (try first | exact ⟨rfl, _, World.drewN_drewN _ _ _⟩ | exact ⟨rfl, _, Eq.trans (World.drewN_drewN _ _ _) (congrArg (World.drewN _) (Nat.add_assoc _ _ _))⟩)) | (go_at_call 35; (with_reducible refine (block_DistSymbol.calls kj6 ((rd_T56 l0 x11_1).f1) t279 t280 t281 t282 _ ?side1 A19.out).mono ?_); (case side1 => repeat (first | exact HG.out | exact (Tabs.below HG.out (by repeat (first | (with_reducible first | exact HB.out | apply below_alloc | apply pw_below_drewN | apply below_drew1 | refine below_set ?_ GE273.out) | exact HB.out))) | (with_reducible refine Tabs.alloc ?_ _) | (with_reducible refine Tabs.drewN ?_ _) | (with_reducible refine Tabs.drew ?_))); rintro e w' ⟨rfl, ⟨nd, rfl⟩⟩; (try first | exact ⟨rfl, _, World.drewN_drewN _ _ _⟩ | exact ⟨rfl, _, Eq.trans (World.drewN_drewN _ _ _) (congrArg (World.drewN _) (Nat.add_assoc _ _ _))⟩))); try go_wp2_with (first | (go_at_call 34; (with_reducible refine (block_LengthSymbol.calls kj6 ((rd_T56 l0 x11_1).f0) t275 t276 t277 t278 _ ?side1 A18.out).mono ?_); (case side1 => repeat (first | exact HG.out | exact (Tabs.below HG.out (by repeat (first | (with_reducible first | exact HB.out | apply below_alloc | apply pw_below_drewN | apply below_drew1 | refine below_set ?_ GE273.out) | exact HB.out))) | (with_reducible refine Tabs.alloc ?_ _) | (with_reducible refine Tabs.drewN ?_ _) | (with_reducible refine Tabs.drew ?_))); rintro e w' ⟨rfl, ⟨nd, rfl⟩⟩; (try first | exact ⟨rfl, _, World.drewN_drewN _ _ _⟩ | exact ⟨rfl, _, Eq.trans (World.drewN_drewN _ _ _) (congrArg (World.drewN _) (Nat.add_assoc _ _ _))⟩)) | (go_at_call 35; (with_reducible refine (block_DistSymbol.calls kj6 ((rd_T56 l0 x11_1).f1) t279 t280 t281 t282 _ ?side1 A19.out).mono ?_); (case side1 => repeat (first | exact HG.out | exact (Tabs.below HG.out (by repeat (first | (with_reducible first | exact HB.out | apply below_alloc | apply pw_below_drewN | apply below_drew1 | refine below_set ?_ GE273.out) | exact HB.out))) | (with_reducible refine Tabs.alloc ?_ _) | (with_reducible refine Tabs.drewN ?_ _) | (with_reducible refine Tabs.drew ?_))); rintro e w' ⟨rfl, ⟨nd, rfl⟩⟩; (try first | exact ⟨rfl, _, World.drewN_drewN _ _ _⟩ | exact ⟨rfl, _, Eq.trans (World.drewN_drewN _ _ _) (congrArg (World.drewN _) (Nat.add_assoc _ _ _))⟩))))
                          go_ret2
                          exact ⟨by first | rfl | (simp [errW_none, errW_some] <;> rfl) | (simp [*, errW_none, errW_some] <;> rfl), by repeat (first | (with_reducible first | exact HB.out | apply below_alloc | apply pw_below_drewN | apply below_drew1 | refine below_set ?_ GE273.out) | exact HB.out)⟩
                        · rw [if_neg c25] at H
                          have c25b0 : decide (t275 < 257) = false := decide_eq_false c25
                          clear c25
                          by_cases c27 : t275 > 285
                          · rw [if_pos c27] at H
                            have c27b0 : decide (285 < t275) = true := decide_eq_true c27
                            clear c27
                            simp only [Option.some.injEq, Prod.mk.injEq] at H
                            obtain ⟨rfl, rfl⟩ := H
                            have hcz28_0 : wc.cell? ⟨gb273, 0, none⟩ = some (.int .i64 ((rd_T56 l0 x11_1).f0)) := (blk_cell BK273.out 0).trans rfl
                            have hcz28_1 : wc.cell? ⟨gb273, 1, none⟩ = some (.int .i64 ((rd_T56 l0 x11_1).f1)) := (blk_cell BK273.out 1).trans rfl
                            have hcz28_2 : wc.cell? ⟨gb273, 2, none⟩ = some (.int .u8 ((rd_T56 l0 x11_1).f2)) := (blk_cell BK273.out 2).trans rfl
                            have hfz28_0 := blk_frozen BK273.out 0
                            have hfz28_1 := blk_frozen BK273.out 1
                            have hfz28_2 := blk_frozen BK273.out 2
                            go_wp2_with (first | (go_at_call 34; (with_reducible refine (block_LengthSymbol.calls kj6 ((rd_T56 l0 x11_1).f0) t275 t276 t277 t278 _ ?side1 A18.out).mono ?_); (case side1 => repeat (first | exact HG.out | exact (Tabs.below HG.out (by repeat (first | (with_reducible first | exact HB.out | apply below_alloc | apply pw_below_drewN | apply below_drew1 | refine below_set ?_ GE273.out) | exact HB.out))) | (with_reducible refine Tabs.alloc ?_ _) | (with_reducible refine Tabs.drewN ?_ _) | (with_reducible refine Tabs.drew ?_))); rintro e w' ⟨rfl, ⟨nd, rfl⟩⟩; (try first | exact ⟨rfl, _, World.drewN_drewN _ _ _⟩ | exact ⟨rfl, _, Eq.trans (World.drewN_drewN _ _ _) (congrArg (World.drewN _) (Nat.add_assoc _ _ _))⟩)) | (go_at_call 35; (with_reducible refine (block_DistSymbol.calls kj6 ((rd_T56 l0 x11_1).f1) t279 t280 t281 t282 _ ?side1 A19.out).mono ?_); (case side1 => repeat (first | exact HG.out | exact (Tabs.below HG.out (by repeat (first | (with_reducible first | exact HB.out | apply below_alloc | apply pw_below_drewN | apply below_drew1 | refine below_set ?_ GE273.out) | exact HB.out))) | (with_reducible refine Tabs.alloc ?_ _) | (with_reducible refine Tabs.drewN ?_ _) | (with_reducible refine Tabs.drew ?_))); rintro e w' ⟨rfl, ⟨nd, rfl⟩⟩; (try first | exact ⟨rfl, _, World.drewN_drewN _ _ _⟩ | exact ⟨rfl, _, Eq.trans (World.drewN_drewN _ _ _) (congrArg (World.drewN _) (Nat.add_assoc _ _ _))⟩)))
                            repeat (go_quiet (first | (go_at_call 34; (with_reducible refine (block_LengthSymbol.calls kj6 ((rd_T56 l0 x11_1).f0) t275 t276 t277 t278 _ ?side1 A18.out).mono ?_); (case side1 => repeat (first | exact HG.out | exact (Tabs.below HG.out (by repeat (first | (with_reducible first | exact HB.out | apply below_alloc | apply pw_below_drewN | apply below_drew1 | refine below_set ?_ GE273.out) | exact HB.out))) | (with_reducible refine Tabs.alloc ?_ _) | (with_reducible refine Tabs.drewN ?_ _) | (with_reducible refine Tabs.drew ?_))); rintro e w' ⟨rfl, ⟨nd, rfl⟩⟩; (try first | exact ⟨rfl, _, World.drewN_drewN _ _ _⟩ | exact ⟨rfl, _, Eq.trans (World.drewN_drewN _ _ _) (congrArg (World.drewN _) (Nat.add_assoc _ _ _))⟩)) | (go_at_call 35; (with_reducible refine (block_DistSymbol.calls kj6 ((rd_T56 l0 x11_1).f1) t279 t280 t281 t282 _ ?side1 A19.out).mono ?_); (case side1 => repeat (first | exact HG.out | exact (Tabs.below HG.out (by repeat (first | (with_reducible first | exact HB.out | apply below_alloc | apply pw_below_drewN | apply below_drew1 | refine below_set ?_ GE273.out) | exact HB.out))) | (with_reducible refine Tabs.alloc ?_ _) | (with_reducible refine Tabs.drewN ?_ _) | (with_reducible refine Tabs.drew ?_))); rintro e w' ⟨rfl, ⟨nd, rfl⟩⟩; (try first | exact ⟨rfl, _, World.drewN_drewN _ _ _⟩ | exact ⟨rfl, _, Eq.trans (World.drewN_drewN _ _ _) (congrArg (World.drewN _) (Nat.add_assoc _ _ _))⟩))); try go_wp2_with (first | (go_at_call 34; (with_reducible refine (block_LengthSymbol.calls kj6 ((rd_T56 l0 x11_1).f0) t275 t276 t277 t278 _ ?side1 A18.out).mono ?_); (case side1 => repeat (first | exact HG.out | exact (Tabs.below HG.out (by repeat (first | (with_reducible first | exact HB.out | apply below_alloc | apply pw_below_drewN | apply below_drew1 | refine below_set ?_ GE273.out) | exact HB.out))) | (with_reducible refine Tabs.alloc ?_ _) | (with_reducible refine Tabs.drewN ?_ _) | (with_reducible refine Tabs.drew ?_))); rintro e w' ⟨rfl, ⟨nd, rfl⟩⟩; (try first | exact ⟨rfl, _, World.drewN_drewN _ _ _⟩ | exact ⟨rfl, _, Eq.trans (World.drewN_drewN _ _ _) (congrArg (World.drewN _) (Nat.add_assoc _ _ _))⟩)) | (go_at_call 35; (with_reducible refine (block_DistSymbol.calls kj6 ((rd_T56 l0 x11_1).f1) t279 t280 t281 t282 _ ?side1 A19.out).mono ?_); (case side1 => repeat (first | exact HG.out | exact (Tabs.below HG.out (by repeat (first | (with_reducible first | exact HB.out | apply below_alloc | apply pw_below_drewN | apply below_drew1 | refine below_set ?_ GE273.out) | exact HB.out))) | (with_reducible refine Tabs.alloc ?_ _) | (with_reducible refine Tabs.drewN ?_ _) | (with_reducible refine Tabs.drew ?_))); rintro e w' ⟨rfl, ⟨nd, rfl⟩⟩; (try first | exact ⟨rfl, _, World.drewN_drewN _ _ _⟩ | exact ⟨rfl, _, Eq.trans (World.drewN_drewN _ _ _) (congrArg (World.drewN _) (Nat.add_assoc _ _ _))⟩))))
                            go_ret2
                            exact ⟨by first | rfl | (simp [errW_none, errW_some] <;> rfl) | (simp [*, errW_none, errW_some] <;> rfl), by repeat (first | (with_reducible first | exact HB.out | apply below_alloc | apply pw_below_drewN | apply below_drew1 | refine below_set ?_ GE273.out) | exact HB.out)⟩
                          · rw [if_neg c27] at H
                            have c27b0 : decide (285 < t275) = false := decide_eq_false c27
                            clear c27
                            by_cases c29 : t279 < 0
                            · rw [if_pos c29] at H
                              have c29b0 : decide (t279 < 0) = true := decide_eq_true c29
                              clear c29
                              simp only [Option.some.injEq, Prod.mk.injEq] at H
                              obtain ⟨rfl, rfl⟩ := H
                              have hcz30_0 : wc.cell? ⟨gb273, 0, none⟩ = some (.int .i64 ((rd_T56 l0 x11_1).f0)) := (blk_cell BK273.out 0).trans rfl
                              have hcz30_1 : wc.cell? ⟨gb273, 1, none⟩ = some (.int .i64 ((rd_T56 l0 x11_1).f1)) := (blk_cell BK273.out 1).trans rfl
                              have hcz30_2 : wc.cell? ⟨gb273, 2, none⟩ = some (.int .u8 ((rd_T56 l0 x11_1).f2)) := (blk_cell BK273.out 2).trans rfl
                              have hfz30_0 := blk_frozen BK273.out 0
                              have hfz30_1 := blk_frozen BK273.out 1
                              have hfz30_2 := blk_frozen BK273.out 2
                              go_wp2_with (first | (go_at_call 34; (with_reducible refine (block_LengthSymbol.calls kj6 ((rd_T56 l0 x11_1).f0) t275 t276 t277 t278 _ ?side1 A18.out).mono ?_); (case side1 => repeat (first | exact HG.out | exact (Tabs.below HG.out (by repeat (first | (with_reducible first | exact HB.out | apply below_alloc | apply pw_below_drewN | apply below_drew1 | refine below_set ?_ GE273.out) | exact HB.out))) | (with_reducible refine Tabs.alloc ?_ _) | (with_reducible refine Tabs.drewN ?_ _) | (with_reducible refine Tabs.drew ?_))); rintro e w' ⟨rfl, ⟨nd, rfl⟩⟩; (try first | exact ⟨rfl, _, World.drewN_drewN _ _ _⟩ | exact ⟨rfl, _, Eq.trans (World.drewN_drewN _ _ _) (congrArg (World.drewN _) (Nat.add_assoc _ _ _))⟩)) | (go_at_call 35; (with_reducible refine (block_DistSymbol.calls kj6 ((rd_T56 l0 x11_1).f1) t279 t280 t281 t282 _ ?side1 A19.out).mono ?_); (case side1 => repeat (first | exact HG.out | exact (Tabs.below HG.out (by repeat (first | (with_reducible first | exact HB.out | apply below_alloc | apply pw_below_drewN | apply below_drew1 | refine below_set ?_ GE273.out) | exact HB.out))) | (with_reducible refine Tabs.alloc ?_ _) | (with_reducible refine Tabs.drewN ?_ _) | (with_reducible refine Tabs.drew ?_))); rintro e w' ⟨rfl, ⟨nd, rfl⟩⟩; (try first | exact ⟨rfl, _, World.drewN_drewN _ _ _⟩ | exact ⟨rfl, _, Eq.trans (World.drewN_drewN _ _ _) (congrArg (World.drewN _) (Nat.add_assoc _ _ _))⟩)))
                              repeat (go_quiet (first | (go_at_call 34; (with_reducible refine (block_LengthSymbol.calls kj6 ((rd_T56 l0 x11_1).f0) t275 t276 t277 t278 _ ?side1 A18.out).mono ?_); (case side1 => repeat (first | exact HG.out | exact (Tabs.below HG.out (by repeat (first | (with_reducible first | exact HB.out | apply below_alloc | apply pw_below_drewN | apply below_drew1 | refine below_set ?_ GE273.out) | exact HB.out))) | (with_reducible refine Tabs.alloc ?_ _) | (with_reducible refine Tabs.drewN ?_ _) | (with_reducible refine Tabs.drew ?_))); rintro e w' ⟨rfl, ⟨nd, rfl⟩⟩; (try first | exact ⟨rfl, _, World.drewN_drewN _ _ _⟩ | exact ⟨rfl, _, Eq.trans (World.drewN_drewN _ _ _) (congrArg (World.drewN _) (Nat.add_assoc _ _ _))⟩)) | (go_at_call 35; (with_reducible refine (block_DistSymbol.calls kj6 ((rd_T56 l0 x11_1).f1) t279 t280 t281 t282 _ ?side1 A19.out).mono ?_); (case side1 => repeat (first | exact HG.out | exact (Tabs.below HG.out (by repeat (first | (with_reducible first | exact HB.out | apply below_alloc | apply pw_below_drewN | apply below_drew1 | refine below_set ?_ GE273.out) | exact HB.out))) | (with_reducible refine Tabs.alloc ?_ _) | (with_reducible refine Tabs.drewN ?_ _) | (with_reducible refine Tabs.drew ?_))); rintro e w' ⟨rfl, ⟨nd, rfl⟩⟩; (try first | exact ⟨rfl, _, World.drewN_drewN _ _ _⟩ | exact ⟨rfl, _, Eq.trans (World.drewN_drewN _ _ _) (congrArg (World.drewN _) (Nat.add_assoc _ _ _))⟩))); try go_wp2_with (first | (go_at_call 34; (with_reducible refine (block_LengthSymbol.calls kj6 ((rd_T56 l0 x11_1).f0) t275 t276 t277 t278 _ ?side1 A18.out).mono ?_); (case side1 => repeat (first | exact HG.out | exact (Tabs.below HG.out (by repeat (first | (with_reducible first | exact HB.out | apply below_alloc | apply pw_below_drewN | apply below_drew1 | refine below_set ?_ GE273.out) | exact HB.out))) | (with_reducible refine Tabs.alloc ?_ _) | (with_reducible refine Tabs.drewN ?_ _) | (with_reducible refine Tabs.drew ?_))); rintro e w' ⟨rfl, ⟨nd, rfl⟩⟩; (try first | exact ⟨rfl, _, World.drewN_drewN _ _ _⟩ | exact ⟨rfl, _, Eq.trans (World.drewN_drewN _ _ _) (congrArg (World.drewN _) (Nat.add_assoc _ _ _))⟩)) | (go_at_call 35; (with_reducible refine (block_DistSymbol.calls kj6 ((rd_T56 l0 x11_1).f1) t279 t280 t281 t282 _ ?side1 A19.out).mono ?_); (case side1 => repeat (first | exact HG.out | exact (Tabs.below HG.out (by repeat (first | (with_reducible first | exact HB.out | apply below_alloc | apply pw_below_drewN | apply below_drew1 | refine below_set ?_ GE273.out) | exact HB.out))) | (with_reducible refine Tabs.alloc ?_ _) | (with_reducible refine Tabs.drewN ?_ _) | (with_reducible refine Tabs.drew ?_))); rintro e w' ⟨rfl, ⟨nd, rfl⟩⟩; (try first | exact ⟨rfl, _, World.drewN_drewN _ _ _⟩ | exact ⟨rfl, _, Eq.trans (World.drewN_drewN _ _ _) (congrArg (World.drewN _) (Nat.add_assoc _ _ _))⟩))))
                              go_ret2
                              exact ⟨by first | rfl | (simp [errW_none, errW_some] <;> rfl) | (simp [*, errW_none, errW_some] <;> rfl), by repeat (first | (with_reducible first | exact HB.out | apply below_alloc | apply pw_below_drewN | apply below_drew1 | refine below_set ?_ GE273.out) | exact HB.out)⟩
                            · rw [if_neg c29] at H
                              have c29b0 : decide (t279 < 0) = false := decide_eq_false c29
                              clear c29
                              by_cases c31 : t279 > 29
                              · rw [if_pos c31] at H
                                have c31b0 : decide (29 < t279) = true := decide_eq_true c31
                                clear c31
                                simp only [Option.some.injEq, Prod.mk.injEq] at H
                                obtain ⟨rfl, rfl⟩ := H
                                have hcz32_0 : wc.cell? ⟨gb273, 0, none⟩ = some (.int .i64 ((rd_T56 l0 x11_1).f0)) := (blk_cell BK273.out 0).trans rfl
                                have hcz32_1 : wc.cell? ⟨gb273, 1, none⟩ = some (.int .i64 ((rd_T56 l0 x11_1).f1)) := (blk_cell BK273.out 1).trans rfl
                                have hcz32_2 : wc.cell? ⟨gb273, 2, none⟩ = some (.int .u8 ((rd_T56 l0 x11_1).f2)) := (blk_cell BK273.out 2).trans rfl
                                have hfz32_0 := blk_frozen BK273.out 0
                                have hfz32_1 := blk_frozen BK273.out 1
                                have hfz32_2 := blk_frozen BK273.out 2
                                go_wp2_with (first | (go_at_call 34; (with_reducible refine (block_LengthSymbol.calls kj6 ((rd_T56 l0 x11_1).f0) t275 t276 t277 t278 _ ?side1 A18.out).mono ?_); (case side1 => repeat (first | exact HG.out | exact (Tabs.below HG.out (by repeat (first | (with_reducible first | exact HB.out | apply below_alloc | apply pw_below_drewN | apply below_drew1 | refine below_set ?_ GE273.out) | exact HB.out))) | (with_reducible refine Tabs.alloc ?_ _) | (with_reducible refine Tabs.drewN ?_ _) | (with_reducible refine Tabs.drew ?_))); rintro e w' ⟨rfl, ⟨nd, rfl⟩⟩; (try first | exact ⟨rfl, _, World.drewN_drewN _ _ _⟩ | exact ⟨rfl, _, Eq.trans (World.drewN_drewN _ _ _) (congrArg (World.drewN _) (Nat.add_assoc _ _ _))⟩)) | (go_at_call 35; (with_reducible refine (block_DistSymbol.calls kj6 ((rd_T56 l0 x11_1).f1) t279 t280 t281 t282 _ ?side1 A19.out).mono ?_); (case side1 => repeat (first | exact HG.out | exact (Tabs.below HG.out (by repeat (first | (with_reducible first | exact HB.out | apply below_alloc | apply pw_below_drewN | apply below_drew1 | refine below_set ?_ GE273.out) | exact HB.out))) | (with_reducible refine Tabs.alloc ?_ _) | (with_reducible refine Tabs.drewN ?_ _) | (with_reducible refine Tabs.drew ?_))); rintro e w' ⟨rfl, ⟨nd, rfl⟩⟩; (try first | exact ⟨rfl, _, World.drewN_drewN _ _ _⟩ | exact ⟨rfl, _, Eq.trans (World.drewN_drewN _ _ _) (congrArg (World.drewN _) (Nat.add_assoc _ _ _))⟩)))
                                repeat (go_quiet (first | (go_at_call 34; (with_reducible refine (block_LengthSymbol.calls kj6 ((rd_T56 l0 x11_1).f0) t275 t276 t277 t278 _ ?side1 A18.out).mono ?_); (case side1 => repeat (first | exact HG.out | exact (Tabs.below HG.out (by repeat (first | (with_reducible first | exact HB.out | apply below_alloc | apply pw_below_drewN | apply below_drew1 | refine below_set ?_ GE273.out) | exact HB.out))) | (with_reducible refine Tabs.alloc ?_ _) | (with_reducible refine Tabs.drewN ?_ _) | (with_reducible refine Tabs.drew ?_))); rintro e w' ⟨rfl, ⟨nd, rfl⟩⟩; (try first | exact ⟨rfl, _, World.drewN_drewN _ _ _⟩ | exact ⟨rfl, _, Eq.trans (World.drewN_drewN _ _ _) (congrArg (World.drewN _) (Nat.add_assoc _ _ _))⟩)) | (go_at_call 35; (with_reducible refine (block_DistSymbol.calls kj6 ((rd_T56 l0 x11_1).f1) t279 t280 t281 t282 _ ?side1 A19.out).mono ?_); (case side1 => repeat (first | exact HG.out | exact (Tabs.below HG.out (by repeat (first | (with_reducible first | exact HB.out | apply below_alloc | apply pw_below_drewN | apply below_drew1 | refine below_set ?_ GE273.out) | exact HB.out))) | (with_reducible refine Tabs.alloc ?_ _) | (with_reducible refine Tabs.drewN ?_ _) | (with_reducible refine Tabs.drew ?_))); rintro e w' ⟨rfl, ⟨nd, rfl⟩⟩; (try first | exact ⟨rfl, _, World.drewN_drewN _ _ _⟩ | exact ⟨rfl, _, Eq.trans (World.drewN_drewN _ _ _) (congrArg (World.drewN _) (Nat.add_assoc _ _ _))⟩))); try go_wp2_with (first | (go_at_call 34; (with_reducible refine (block_LengthSymbol.calls kj6 ((rd_T56 l0 x11_1).f0) t275 t276 t277 t278 _ ?side1 A18.out).mono ?_); (case side1 => repeat (first | exact HG.out | exact (Tabs.below HG.out (by repeat (first | (with_reducible first | exact HB.out | apply below_alloc | apply pw_below_drewN | apply below_drew1 | refine below_set ?_ GE273.out) | exact HB.out))) | (with_reducible refine Tabs.alloc ?_ _) | (with_reducible refine Tabs.drewN ?_ _) | (with_reducible refine Tabs.drew ?_))); rintro e w' ⟨rfl, ⟨nd, rfl⟩⟩; (try first | exact ⟨rfl, _, World.drewN_drewN _ _ _⟩ | exact ⟨rfl, _, Eq.trans (World.drewN_drewN _ _ _) (congrArg (World.drewN _) (Nat.add_assoc _ _ _))⟩)) | (go_at_call 35; (with_reducible refine (block_DistSymbol.calls kj6 ((rd_T56 l0 x11_1).f1) t279 t280 t281 t282 _ ?side1 A19.out).mono ?_); (case side1 => repeat (first | exact HG.out | exact (Tabs.below HG.out (by repeat (first | (with_reducible first | exact HB.out | apply below_alloc | apply pw_below_drewN | apply below_drew1 | refine below_set ?_ GE273.out) | exact HB.out))) | (with_reducible refine Tabs.alloc ?_ _) | (with_reducible refine Tabs.drewN ?_ _) | (with_reducible refine Tabs.drew ?_))); rintro e w' ⟨rfl, ⟨nd, rfl⟩⟩; (try first | exact ⟨rfl, _, World.drewN_drewN _ _ _⟩ | exact ⟨rfl, _, Eq.trans (World.drewN_drewN _ _ _) (congrArg (World.drewN _) (Nat.add_assoc _ _ _))⟩))))
                                go_ret2
                                exact ⟨by first | rfl | (simp [errW_none, errW_some] <;> rfl) | (simp [*, errW_none, errW_some] <;> rfl), by repeat (first | (with_reducible first | exact HB.out | apply below_alloc | apply pw_below_drewN | apply below_drew1 | refine below_set ?_ GE273.out) | exact HB.out)⟩
                              · rw [if_neg c31] at H
                                have c31b0 : decide (29 < t279) = false := decide_eq_false c31
                                clear c31
                                by_cases c33 : 0 ≤ t275
                                · rw [if_pos c33] at H
                                  have c33b0 : decide (0 ≤ t275) = true := decide_eq_true c33
                                  clear c33
                                  by_cases c34 : t275 < (l2.length : Int)
                                  · rw [if_pos c34] at H
                                    have c34b0 : decide (t275 < (l2.length : Int)) = true := decide_eq_true c34
                                    clear c34
                                    by_cases c35 : 0 ≤ t279
                                    · rw [if_pos c35] at H
                                      have c35b0 : decide (0 ≤ t279) = true := decide_eq_true c35
                                      clear c35
                                      by_cases c36 : t279 < (l3.length : Int)
                                      · rw [if_pos c36] at H
                                        have c36b0 : decide (t279 < (l3.length : Int)) = true := decide_eq_true c36
                                        clear c36
                                        have H' := Aside0.mk H
                                        clear H
                                        have hcz37_0 : wc.cell? ⟨gb273, 0, none⟩ = some (.int .i64 ((rd_T56 l0 x11_1).f0)) := (blk_cell BK273.out 0).trans rfl
                                        have hcz37_1 : wc.cell? ⟨gb273, 1, none⟩ = some (.int .i64 ((rd_T56 l0 x11_1).f1)) := (blk_cell BK273.out 1).trans rfl
                                        have hcz37_2 : wc.cell? ⟨gb273, 2, none⟩ = some (.int .u8 ((rd_T56 l0 x11_1).f2)) := (blk_cell BK273.out 2).trans rfl
                                        have hfz37_0 := blk_frozen BK273.out 0
                                        have hfz37_1 := blk_frozen BK273.out 1
                                        have hfz37_2 := blk_frozen BK273.out 2
                                        go_wp2_with (first | (go_at_call 34; (with_reducible refine (block_LengthSymbol.calls kj6 ((rd_T56 l0 x11_1).f0) t275 t276 t277 t278 _ ?side1 A18.out).mono ?_); (case side1 => repeat (first | exact HG.out | exact (Tabs.below HG.out (by repeat (first | (with_reducible first | exact HB.out | apply below_alloc | apply pw_below_drewN | apply below_drew1 | refine below_set ?_ GE273.out) | exact HB.out))) | (with_reducible refine Tabs.alloc ?_ _) | (with_reducible refine Tabs.drewN ?_ _) | (with_reducible refine Tabs.drew ?_))); rintro e w' ⟨rfl, ⟨nd, rfl⟩⟩; (try first | exact ⟨rfl, _, World.drewN_drewN _ _ _⟩ | exact ⟨rfl, _, Eq.trans (World.drewN_drewN _ _ _) (congrArg (World.drewN _) (Nat.add_assoc _ _ _))⟩)) | (go_at_call 35; (with_reducible refine (block_DistSymbol.calls kj6 ((rd_T56 l0 x11_1).f1) t279 t280 t281 t282 _ ?side1 A19.out).mono ?_); (case side1 => repeat (first | exact HG.out | exact (Tabs.below HG.out (by repeat (first | (with_reducible first | exact HB.out | apply below_alloc | apply pw_below_drewN | apply below_drew1 | refine below_set ?_ GE273.out) | exact HB.out))) | (with_reducible refine Tabs.alloc ?_ _) | (with_reducible refine Tabs.drewN ?_ _) | (with_reducible refine Tabs.drew ?_))); rintro e w' ⟨rfl, ⟨nd, rfl⟩⟩; (try first | exact ⟨rfl, _, World.drewN_drewN _ _ _⟩ | exact ⟨rfl, _, Eq.trans (World.drewN_drewN _ _ _) (congrArg (World.drewN _) (Nat.add_assoc _ _ _))⟩); have p283 : 0 ≤ (t275 : Int) := of_decide_eq_true (by first | (with_reducible assumption) | assumption); have q283 : t275 < (l2.length : Int) := of_decide_eq_true (by first | (with_reducible assumption) | assumption); obtain ⟨ad283, e283, hx283_0⟩ := Kd.at_int HR2.out t275 p283 q283; cases e283; replace hx283_0 := (HB.out.cell (World.block_lt_of_cell? w _ hx283_0)).trans hx283_0; replace p283 := eq_true p283; replace q283 := eq_true q283; have p284 : 0 ≤ (t279 : Int) := of_decide_eq_true (by first | (with_reducible assumption) | assumption); have q284 : t279 < (l3.length : Int) := of_decide_eq_true (by first | (with_reducible assumption) | assumption); obtain ⟨ad284, e284, hx284_0⟩ := Kd.at_int HR3.out t279 p284 q284; cases e284; replace hx284_0 := (HB.out.cell (World.block_lt_of_cell? w _ hx284_0)).trans hx284_0; replace p284 := eq_true p284; replace q284 := eq_true q284))
                                        repeat (go_quiet (first | (go_at_call 34; (with_reducible refine (block_LengthSymbol.calls kj6 ((rd_T56 l0 x11_1).f0) t275 t276 t277 t278 _ ?side1 A18.out).mono ?_); (case side1 => repeat (first | exact HG.out | exact (Tabs.below HG.out (by repeat (first | (with_reducible first | exact HB.out | apply below_alloc | apply pw_below_drewN | apply below_drew1 | refine below_set ?_ GE273.out) | exact HB.out))) | (with_reducible refine Tabs.alloc ?_ _) | (with_reducible refine Tabs.drewN ?_ _) | (with_reducible refine Tabs.drew ?_))); rintro e w' ⟨rfl, ⟨nd, rfl⟩⟩; (try first | exact ⟨rfl, _, World.drewN_drewN _ _ _⟩ | exact ⟨rfl, _, Eq.trans (World.drewN_drewN _ _ _) (congrArg (World.drewN _) (Nat.add_assoc _ _ _))⟩)) | (go_at_call 35; (with_reducible refine (block_DistSymbol.calls kj6 ((rd_T56 l0 x11_1).f1) t279 t280 t281 t282 _ ?side1 A19.out).mono ?_); (case side1 => repeat (first | exact HG.out | exact (Tabs.below HG.out (by repeat (first | (with_reducible first | exact HB.out | apply below_alloc | apply pw_below_drewN | apply below_drew1 | refine below_set ?_ GE273.out) | exact HB.out))) | (with_reducible refine Tabs.alloc ?_ _) | (with_reducible refine Tabs.drewN ?_ _) | (with_reducible refine Tabs.drew ?_))); rintro e w' ⟨rfl, ⟨nd, rfl⟩⟩; (try first | exact ⟨rfl, _, World.drewN_drewN _ _ _⟩ | exact ⟨rfl, _, Eq.trans (World.drewN_drewN _ _ _) (congrArg (World.drewN _) (Nat.add_assoc _ _ _))⟩); have p283 : 0 ≤ (t275 : Int) := of_decide_eq_true (by first | (with_reducible assumption) | assumption); have q283 : t275 < (l2.length : Int) := of_decide_eq_true (by first | (with_reducible assumption) | assumption); obtain ⟨ad283, e283, hx283_0⟩ := Kd.at_int HR2.out t275 p283 q283; cases e283; replace hx283_0 := (HB.out.cell (World.block_lt_of_cell? w _ hx283_0)).trans hx283_0; replace p283 := eq_true p283; replace q283 := eq_true q283; have p284 : 0 ≤ (t279 : Int) := of_decide_eq_true (by first | (with_reducible assumption) | assumption); have q284 : t279 < (l3.length : Int) := of_decide_eq_true (by first | (with_reducible assumption) | assumption); obtain ⟨ad284, e284, hx284_0⟩ := Kd.at_int HR3.out t279 p284 q284; cases e284; replace hx284_0 := (HB.out.cell (World.block_lt_of_cell? w _ hx284_0)).trans hx284_0; replace p284 := eq_true p284; replace q284 := eq_true q284)); try go_wp2_with (first | (go_at_call 34; (with_reducible refine (block_LengthSymbol.calls kj6 ((rd_T56 l0 x11_1).f0) t275 t276 t277 t278 _ ?side1 A18.out).mono ?_); (case side1 => repeat (first | exact HG.out | exact (Tabs.below HG.out (by repeat (first | (with_reducible first | exact HB.out | apply below_alloc | apply pw_below_drewN | apply below_drew1 | refine below_set ?_ GE273.out) | exact HB.out))) | (with_reducible refine Tabs.alloc ?_ _) | (with_reducible refine Tabs.drewN ?_ _) | (with_reducible refine Tabs.drew ?_))); rintro e w' ⟨rfl, ⟨nd, rfl⟩⟩; (try first | exact ⟨rfl, _, World.drewN_drewN _ _ _⟩ | exact ⟨rfl, _, Eq.trans (World.drewN_drewN _ _ _) (congrArg (World.drewN _) (Nat.add_assoc _ _ _))⟩)) | (go_at_call 35; (with_reducible refine (block_DistSymbol.calls kj6 ((rd_T56 l0 x11_1).f1) t279 t280 t281 t282 _ ?side1 A19.out).mono ?_); (case side1 => repeat (first | exact HG.out | exact (Tabs.below HG.out (by repeat (first | (with_reducible first | exact HB.out | apply below_alloc | apply pw_below_drewN | apply below_drew1 | refine below_set ?_ GE273.out) | exact HB.out))) | (with_reducible refine Tabs.alloc ?_ _) | (with_reducible refine Tabs.drewN ?_ _) | (with_reducible refine Tabs.drew ?_))); rintro e w' ⟨rfl, ⟨nd, rfl⟩⟩; (try first | exact ⟨rfl, _, World.drewN_drewN _ _ _⟩ | exact ⟨rfl, _, Eq.trans (World.drewN_drewN _ _ _) (congrArg (World.drewN _) (Nat.add_assoc _ _ _))⟩); have p283 : 0 ≤ (t275 : Int) := of_decide_eq_true (by first | (with_reducible assumption) | assumption); have q283 : t275 < (l2.length : Int) := of_decide_eq_true (by first | (with_reducible assumption) | assumption); obtain ⟨ad283, e283, hx283_0⟩ := Kd.at_int HR2.out t275 p283 q283; cases e283; replace hx283_0 := (HB.out.cell (World.block_lt_of_cell? w _ hx283_0)).trans hx283_0; replace p283 := eq_true p283; replace q283 := eq_true q283; have p284 : 0 ≤ (t279 : Int) := of_decide_eq_true (by first | (with_reducible assumption) | assumption); have q284 : t279 < (l3.length : Int) := of_decide_eq_true (by first | (with_reducible assumption) | assumption); obtain ⟨ad284, e284, hx284_0⟩ := Kd.at_int HR3.out t279 p284 q284; cases e284; replace hx284_0 := (HB.out.cell (World.block_lt_of_cell? w _ hx284_0)).trans hx284_0; replace p284 := eq_true p284; replace q284 := eq_true q284)))
                                        go_roundg kj6
                                        case measure => have := HK1.out; have := HJ6.out; omega
                                        case rel => exact ⟨(wrap64 ((wrap64 (x10_1 + (rd l2 t275))) + (rd l3 t279))), (wrap64 (x11_1 + 1)), (by first | rfl | (simp; done) | (simp [*]; done)), (by first | rfl | (simp; done) | (simp [*]; done)), H', ⟨by have := HK1.out; have := HJ6.out; omega⟩, ⟨by repeat (first | (with_reducible first | exact HB.out | apply below_alloc | apply pw_below_drewN | apply below_drew1 | refine below_set ?_ GE273.out) | exact HB.out)⟩⟩
                                      · rw [if_neg c36] at H
                                        exact absurd H (by simp)
                                    · rw [if_neg c35] at H
                                      exact absurd H (by simp)
                                  · rw [if_neg c34] at H
                                    exact absurd H (by simp)
                                · rw [if_neg c33] at H
                                  exact absurd H (by simp)
                    · rw [if_neg c22] at H
                      have c22b0 : (((rd_T56 l0 x11_1).f2) == 0) = false := beq_eq_false_iff_ne.mpr c22
                      have c22b1 : (((rd_T56 l0 x11_1).f2) != 0) = true := bne_iff_ne.mpr c22
                      simp only [Option.some.injEq, Prod.mk.injEq] at H
                      obtain ⟨rfl, rfl⟩ := H
                      have hcz38_0 : wc.cell? ⟨gb273, 0, none⟩ = some (.int .i64 ((rd_T56 l0 x11_1).f0)) := (blk_cell BK273.out 0).trans rfl
                      have hcz38_1 : wc.cell? ⟨gb273, 1, none⟩ = some (.int .i64 ((rd_T56 l0 x11_1).f1)) := (blk_cell BK273.out 1).trans rfl
                      have hcz38_2 : wc.cell? ⟨gb273, 2, none⟩ = some (.int .u8 ((rd_T56 l0 x11_1).f2)) := (blk_cell BK273.out 2).trans rfl
                      have hfz38_0 := blk_frozen BK273.out 0
                      have hfz38_1 := blk_frozen BK273.out 1
                      have hfz38_2 := blk_frozen BK273.out 2
                      go_wp2_with (first | (go_at_call 34; (with_reducible refine (block_LengthSymbol.calls kj6 ((rd_T56 l0 x11_1).f0) t275 t276 t277 t278 _ ?side1 A18.out).mono ?_); (case side1 => repeat (first | exact HG.out | exact (Tabs.below HG.out (by repeat (first | (with_reducible first | exact HB.out | apply below_alloc | apply pw_below_drewN | apply below_drew1 | refine below_set ?_ GE273.out) | exact HB.out))) | (with_reducible refine Tabs.alloc ?_ _) | (with_reducible refine Tabs.drewN ?_ _) | (with_reducible refine Tabs.drew ?_))); rintro e w' ⟨rfl, ⟨nd, rfl⟩⟩; (try first | exact ⟨rfl, _, World.drewN_drewN _ _ _⟩ | exact ⟨rfl, _, Eq.trans (World.drewN_drewN _ _ _) (congrArg (World.drewN _) (Nat.add_assoc _ _ _))⟩)) | (go_at_call 35; (with_reducible refine (block_DistSymbol.calls kj6 ((rd_T56 l0 x11_1).f1) t279 t280 t281 t282 _ ?side1 A19.out).mono ?_); (case side1 => repeat (first | exact HG.out | exact (Tabs.below HG.out (by repeat (first | (with_reducible first | exact HB.out | apply below_alloc | apply pw_below_drewN | apply below_drew1 | refine below_set ?_ GE273.out) | exact HB.out))) | (with_reducible refine Tabs.alloc ?_ _) | (with_reducible refine Tabs.drewN ?_ _) | (with_reducible refine Tabs.drew ?_))); rintro e w' ⟨rfl, ⟨nd, rfl⟩⟩; (try first | exact ⟨rfl, _, World.drewN_drewN _ _ _⟩ | exact ⟨rfl, _, Eq.trans (World.drewN_drewN _ _ _) (congrArg (World.drewN _) (Nat.add_assoc _ _ _))⟩)))
                      repeat (go_quiet (first | (go_at_call 34; (with_reducible refine (block_LengthSymbol.calls kj6 ((rd_T56 l0 x11_1).f0) t275 t276 t277 t278 _ ?side1 A18.out).mono ?_); (case side1 => repeat (first | exact HG.out | exact (Tabs.below HG.out (by repeat (first | (with_reducible first | exact HB.out | apply below_alloc | apply pw_below_drewN | apply below_drew1 | refine below_set ?_ GE273.out) | exact HB.out))) | (with_reducible refine Tabs.alloc ?_ _) | (with_reducible refine Tabs.drewN ?_ _) | (with_reducible refine Tabs.drew ?_))); rintro e w' ⟨rfl, ⟨nd, rfl⟩⟩; (try first | exact ⟨rfl, _, World.drewN_drewN _ _ _⟩ | exact ⟨rfl, _, Eq.trans (World.drewN_drewN _ _ _) (congrArg (World.drewN _) (Nat.add_assoc _ _ _))⟩)) | (go_at_call 35; (with_reducible refine (block_DistSymbol.calls kj6 ((rd_T56 l0 x11_1).f1) t279 t280 t281 t282 _ ?side1 A19.out).mono ?_); (case side1 => repeat (first | exact HG.out | exact (Tabs.below HG.out (by repeat (first | (with_reducible first | exact HB.out | apply below_alloc | apply pw_below_drewN | apply below_drew1 | refine below_set ?_ GE273.out) | exact HB.out))) | (with_reducible refine Tabs.alloc ?_ _) | (with_reducible refine Tabs.drewN ?_ _) | (with_reducible refine Tabs.drew ?_))); rintro e w' ⟨rfl, ⟨nd, rfl⟩⟩; (try first | exact ⟨rfl, _, World.drewN_drewN _ _ _⟩ | exact ⟨rfl, _, Eq.trans (World.drewN_drewN _ _ _) (congrArg (World.drewN _) (Nat.add_assoc _ _ _))⟩))); try go_wp2_with (first | (go_at_call 34; (with_reducible refine (block_LengthSymbol.calls kj6 ((rd_T56 l0 x11_1).f0) t275 t276 t277 t278 _ ?side1 A18.out).mono ?_); (case side1 => repeat (first | exact HG.out | exact (Tabs.below HG.out (by repeat (first | (with_reducible first | exact HB.out | apply below_alloc | apply pw_below_drewN | apply below_drew1 | refine below_set ?_ GE273.out) | exact HB.out))) | (with_reducible refine Tabs.alloc ?_ _) | (with_reducible refine Tabs.drewN ?_ _) | (with_reducible refine Tabs.drew ?_))); rintro e w' ⟨rfl, ⟨nd, rfl⟩⟩; (try first | exact ⟨rfl, _, World.drewN_drewN _ _ _⟩ | exact ⟨rfl, _, Eq.trans (World.drewN_drewN _ _ _) (congrArg (World.drewN _) (Nat.add_assoc _ _ _))⟩)) | (go_at_call 35; (with_reducible refine (block_DistSymbol.calls kj6 ((rd_T56 l0 x11_1).f1) t279 t280 t281 t282 _ ?side1 A19.out).mono ?_); (case side1 => repeat (first | exact HG.out | exact (Tabs.below HG.out (by repeat (first | (with_reducible first | exact HB.out | apply below_alloc | apply pw_below_drewN | apply below_drew1 | refine below_set ?_ GE273.out) | exact HB.out))) | (with_reducible refine Tabs.alloc ?_ _) | (with_reducible refine Tabs.drewN ?_ _) | (with_reducible refine Tabs.drew ?_))); rintro e w' ⟨rfl, ⟨nd, rfl⟩⟩; (try first | exact ⟨rfl, _, World.drewN_drewN _ _ _⟩ | exact ⟨rfl, _, Eq.trans (World.drewN_drewN _ _ _) (congrArg (World.drewN _) (Nat.add_assoc _ _ _))⟩))))
                      go_ret2
                      exact ⟨by first | rfl | (simp [errW_none, errW_some] <;> rfl) | (simp [*, errW_none, errW_some] <;> rfl), by repeat (first | (with_reducible first | exact HB.out | apply below_alloc | apply pw_below_drewN | apply below_drew1 | refine below_set ?_ GE273.out) | exact HB.out)⟩
                  · rw [if_neg c21] at H
                    have c21b0 : (t282 == 0) = false := beq_eq_false_iff_ne.mpr c21
                    have c21b1 : (t282 != 0) = true := bne_iff_ne.mpr c21
                    simp only [Option.some.injEq, Prod.mk.injEq] at H
                    obtain ⟨rfl, rfl⟩ := H
                    have hcz39_0 : wc.cell? ⟨gb273, 0, none⟩ = some (.int .i64 ((rd_T56 l0 x11_1).f0)) := (blk_cell BK273.out 0).trans rfl
                    have hcz39_1 : wc.cell? ⟨gb273, 1, none⟩ = some (.int .i64 ((rd_T56 l0 x11_1).f1)) := (blk_cell BK273.out 1).trans rfl
                    have hcz39_2 : wc.cell? ⟨gb273, 2, none⟩ = some (.int .u8 ((rd_T56 l0 x11_1).f2)) := (blk_cell BK273.out 2).trans rfl
                    have hfz39_0 := blk_frozen BK273.out 0
                    have hfz39_1 := blk_frozen BK273.out 1
                    have hfz39_2 := blk_frozen BK273.out 2
                    go_wp2_with (first | (go_at_call 34; (with_reducible refine (block_LengthSymbol.calls kj6 ((rd_T56 l0 x11_1).f0) t275 t276 t277 t278 _ ?side1 A18.out).mono ?_); (case side1 => repeat (first | exact HG.out | exact (Tabs.below HG.out (by repeat (first | (with_reducible first | exact HB.out | apply below_alloc | apply pw_below_drewN | apply below_drew1 | refine below_set ?_ GE273.out) | exact HB.out))) | (with_reducible refine Tabs.alloc ?_ _) | (with_reducible refine Tabs.drewN ?_ _) | (with_reducible refine Tabs.drew ?_))); rintro e w' ⟨rfl, ⟨nd, rfl⟩⟩; (try first | exact ⟨rfl, _, World.drewN_drewN _ _ _⟩ | exact ⟨rfl, _, Eq.trans (World.drewN_drewN _ _ _) (congrArg (World.drewN _) (Nat.add_assoc _ _ _))⟩)) | (go_at_call 35; (with_reducible refine (block_DistSymbol.calls kj6 ((rd_T56 l0 x11_1).f1) t279 t280 t281 t282 _ ?side1 A19.out).mono ?_); (case side1 => repeat (first | exact HG.out | exact (Tabs.below HG.out (by repeat (first | (with_reducible first | exact HB.out | apply below_alloc | apply pw_below_drewN | apply below_drew1 | refine below_set ?_ GE273.out) | exact HB.out))) | (with_reducible refine Tabs.alloc ?_ _) | (with_reducible refine Tabs.drewN ?_ _) | (with_reducible refine Tabs.drew ?_))); rintro e w' ⟨rfl, ⟨nd, rfl⟩⟩; (try first | exact ⟨rfl, _, World.drewN_drewN _ _ _⟩ | exact ⟨rfl, _, Eq.trans (World.drewN_drewN _ _ _) (congrArg (World.drewN _) (Nat.add_assoc _ _ _))⟩)))
                    repeat (go_quiet (first | (go_at_call 34; (with_reducible refine (block_LengthSymbol.calls kj6 ((rd_T56 l0 x11_1).f0) t275 t276 t277 t278 _ ?side1 A18.out).mono ?_); (case side1 => repeat (first | exact HG.out | exact (Tabs.below HG.out (by repeat (first | (with_reducible first | exact HB.out | apply below_alloc | apply pw_below_drewN | apply below_drew1 | refine below_set ?_ GE273.out) | exact HB.out))) | (with_reducible refine Tabs.alloc ?_ _) | (with_reducible refine Tabs.drewN ?_ _) | (with_reducible refine Tabs.drew ?_))); rintro e w' ⟨rfl, ⟨nd, rfl⟩⟩; (try first | exact ⟨rfl, _, World.drewN_drewN _ _ _⟩ | exact ⟨rfl, _, Eq.trans (World.drewN_drewN _ _ _) (congrArg (World.drewN _) (Nat.add_assoc _ _ _))⟩)) | (go_at_call 35; (with_reducible refine (block_DistSymbol.calls kj6 ((rd_T56 l0 x11_1).f1) t279 t280 t281 t282 _ ?side1 A19.out).mono ?_); (case side1 => repeat (first | exact HG.out | exact (Tabs.below HG.out (by repeat (first | (with_reducible first | exact HB.out | apply below_alloc | apply pw_below_drewN | apply below_drew1 | refine below_set ?_ GE273.out) | exact HB.out))) | (with_reducible refine Tabs.alloc ?_ _) | (with_reducible refine Tabs.drewN ?_ _) | (with_reducible refine Tabs.drew ?_))); rintro e w' ⟨rfl, ⟨nd, rfl⟩⟩; (try first | exact ⟨rfl, _, World.drewN_drewN _ _ _⟩ | exact ⟨rfl, _, Eq.trans (World.drewN_drewN _ _ _) (congrArg (World.drewN _) (Nat.add_assoc _ _ _))⟩))); try go_wp2_with (first | (go_at_call 34; (with_reducible refine (block_LengthSymbol.calls kj6 ((rd_T56 l0 x11_1).f0) t275 t276 t277 t278 _ ?side1 A18.out).mono ?_); (case side1 => repeat (first | exact HG.out | exact (Tabs.below HG.out (by repeat (first | (with_reducible first | exact HB.out | apply below_alloc | apply pw_below_drewN | apply below_drew1 | refine below_set ?_ GE273.out) | exact HB.out))) | (with_reducible refine Tabs.alloc ?_ _) | (with_reducible refine Tabs.drewN ?_ _) | (with_reducible refine Tabs.drew ?_))); rintro e w' ⟨rfl, ⟨nd, rfl⟩⟩; (try first | exact ⟨rfl, _, World.drewN_drewN _ _ _⟩ | exact ⟨rfl, _, Eq.trans (World.drewN_drewN _ _ _) (congrArg (World.drewN _) (Nat.add_assoc _ _ _))⟩)) | (go_at_call 35; (with_reducible refine (block_DistSymbol.calls kj6 ((rd_T56 l0 x11_1).f1) t279 t280 t281 t282 _ ?side1 A19.out).mono ?_); (case side1 => repeat (first | exact HG.out | exact (Tabs.below HG.out (by repeat (first | (with_reducible first | exact HB.out | apply below_alloc | apply pw_below_drewN | apply below_drew1 | refine below_set ?_ GE273.out) | exact HB.out))) | (with_reducible refine Tabs.alloc ?_ _) | (with_reducible refine Tabs.drewN ?_ _) | (with_reducible refine Tabs.drew ?_))); rintro e w' ⟨rfl, ⟨nd, rfl⟩⟩; (try first | exact ⟨rfl, _, World.drewN_drewN _ _ _⟩ | exact ⟨rfl, _, Eq.trans (World.drewN_drewN _ _ _) (congrArg (World.drewN _) (Nat.add_assoc _ _ _))⟩))))
                    go_ret2
                    exact ⟨by first | rfl | (simp [errW_none, errW_some] <;> rfl) | (simp [*, errW_none, errW_some] <;> rfl), by repeat (first | (with_reducible first | exact HB.out | apply below_alloc | apply pw_below_drewN | apply below_drew1 | refine below_set ?_ GE273.out) | exact HB.out)⟩
                · rw [if_neg c20] at H
                  have c20b0 : (t278 == 0) = false := beq_eq_false_iff_ne.mpr c20
                  have c20b1 : (t278 != 0) = true := bne_iff_ne.mpr c20
                  simp only [Option.some.injEq, Prod.mk.injEq] at H
                  obtain ⟨rfl, rfl⟩ := H
                  have hcz40_0 : wc.cell? ⟨gb273, 0, none⟩ = some (.int .i64 ((rd_T56 l0 x11_1).f0)) := (blk_cell BK273.out 0).trans rfl
                  have hcz40_1 : wc.cell? ⟨gb273, 1, none⟩ = some (.int .i64 ((rd_T56 l0 x11_1).f1)) := (blk_cell BK273.out 1).trans rfl
                  have hcz40_2 : wc.cell? ⟨gb273, 2, none⟩ = some (.int .u8 ((rd_T56 l0 x11_1).f2)) := (blk_cell BK273.out 2).trans rfl
                  have hfz40_0 := blk_frozen BK273.out 0
                  have hfz40_1 := blk_frozen BK273.out 1
                  have hfz40_2 := blk_frozen BK273.out 2
                  go_wp2_with (first | (go_at_call 34; (with_reducible refine (block_LengthSymbol.calls kj6 ((rd_T56 l0 x11_1).f0) t275 t276 t277 t278 _ ?side1 A18.out).mono ?_); (case side1 => repeat (first | exact HG.out | exact (Tabs.below HG.out (by repeat (first | (with_reducible first | exact HB.out | apply below_alloc | apply pw_below_drewN | apply below_drew1 | refine below_set ?_ GE273.out) | exact HB.out))) | (with_reducible refine Tabs.alloc ?_ _) | (with_reducible refine Tabs.drewN ?_ _) | (with_reducible refine Tabs.drew ?_))); rintro e w' ⟨rfl, ⟨nd, rfl⟩⟩; (try first | exact ⟨rfl, _, World.drewN_drewN _ _ _⟩ | exact ⟨rfl, _, Eq.trans (World.drewN_drewN _ _ _) (congrArg (World.drewN _) (Nat.add_assoc _ _ _))⟩)) | (go_at_call 35; (with_reducible refine (block_DistSymbol.calls kj6 ((rd_T56 l0 x11_1).f1) t279 t280 t281 t282 _ ?side1 A19.out).mono ?_); (case side1 => repeat (first | exact HG.out | exact (Tabs.below HG.out (by repeat (first | (with_reducible first | exact HB.out | apply below_alloc | apply pw_below_drewN | apply below_drew1 | refine below_set ?_ GE273.out) | exact HB.out))) | (with_reducible refine Tabs.alloc ?_ _) | (with_reducible refine Tabs.drewN ?_ _) | (with_reducible refine Tabs.drew ?_))); rintro e w' ⟨rfl, ⟨nd, rfl⟩⟩; (try first | exact ⟨rfl, _, World.drewN_drewN _ _ _⟩ | exact ⟨rfl, _, Eq.trans (World.drewN_drewN _ _ _) (congrArg (World.drewN _) (Nat.add_assoc _ _ _))⟩)))
                  repeat (go_quiet (first | (go_at_call 34; (with_reducible refine (block_LengthSymbol.calls kj6 ((rd_T56 l0 x11_1).f0) t275 t276 t277 t278 _ ?side1 A18.out).mono ?_); (case side1 => repeat (first | exact HG.out | exact (Tabs.below HG.out (by repeat (first | (with_reducible first | exact HB.out | apply below_alloc | apply pw_below_drewN | apply below_drew1 | refine below_set ?_ GE273.out) | exact HB.out))) | (with_reducible refine Tabs.alloc ?_ _) | (with_reducible refine Tabs.drewN ?_ _) | (with_reducible refine Tabs.drew ?_))); rintro e w' ⟨rfl, ⟨nd, rfl⟩⟩; (try first | exact ⟨rfl, _, World.drewN_drewN _ _ _⟩ | exact ⟨rfl, _, Eq.trans (World.drewN_drewN _ _ _) (congrArg (World.drewN _) (Nat.add_assoc _ _ _))⟩)) | (go_at_call 35; (with_reducible refine (block_DistSymbol.calls kj6 ((rd_T56 l0 x11_1).f1) t279 t280 t281 t282 _ ?side1 A19.out).mono ?_); (case side1 => repeat (first | exact HG.out | exact (Tabs.below HG.out (by repeat (first | (with_reducible first | exact HB.out | apply below_alloc | apply pw_below_drewN | apply below_drew1 | refine below_set ?_ GE273.out) | exact HB.out))) | (with_reducible refine Tabs.alloc ?_ _) | (with_reducible refine Tabs.drewN ?_ _) | (with_reducible refine Tabs.drew ?_))); rintro e w' ⟨rfl, ⟨nd, rfl⟩⟩; (try first | exact ⟨rfl, _, World.drewN_drewN _ _ _⟩ | exact ⟨rfl, _, Eq.trans (World.drewN_drewN _ _ _) (congrArg (World.drewN _) (Nat.add_assoc _ _ _))⟩))); try go_wp2_with (first | (go_at_call 34; (with_reducible refine (block_LengthSymbol.calls kj6 ((rd_T56 l0 x11_1).f0) t275 t276 t277 t278 _ ?side1 A18.out).mono ?_); (case side1 => repeat (first | exact HG.out | exact (Tabs.below HG.out (by repeat (first | (with_reducible first | exact HB.out | apply below_alloc | apply pw_below_drewN | apply below_drew1 | refine below_set ?_ GE273.out) | exact HB.out))) | (with_reducible refine Tabs.alloc ?_ _) | (with_reducible refine Tabs.drewN ?_ _) | (with_reducible refine Tabs.drew ?_))); rintro e w' ⟨rfl, ⟨nd, rfl⟩⟩; (try first | exact ⟨rfl, _, World.drewN_drewN _ _ _⟩ | exact ⟨rfl, _, Eq.trans (World.drewN_drewN _ _ _) (congrArg (World.drewN _) (Nat.add_assoc _ _ _))⟩)) | (go_at_call 35; (with_reducible refine (block_DistSymbol.calls kj6 ((rd_T56 l0 x11_1).f1) t279 t280 t281 t282 _ ?side1 A19.out).mono ?_); (case side1 => repeat (first | exact HG.out | exact (Tabs.below HG.out (by repeat (first | (with_reducible first | exact HB.out | apply below_alloc | apply pw_below_drewN | apply below_drew1 | refine below_set ?_ GE273.out) | exact HB.out))) | (with_reducible refine Tabs.alloc ?_ _) | (with_reducible refine Tabs.drewN ?_ _) | (with_reducible refine Tabs.drew ?_))); rintro e w' ⟨rfl, ⟨nd, rfl⟩⟩; (try first | exact ⟨rfl, _, World.drewN_drewN _ _ _⟩ | exact ⟨rfl, _, Eq.trans (World.drewN_drewN _ _ _) (congrArg (World.drewN _) (Nat.add_assoc _ _ _))⟩))))
                  go_ret2
                  exact ⟨by first | rfl | (simp [errW_none, errW_some] <;> rfl) | (simp [*, errW_none, errW_some] <;> rfl), by repeat (first | (with_reducible first | exact HB.out | apply below_alloc | apply pw_below_drewN | apply below_drew1 | refine below_set ?_ GE273.out) | exact HB.out)⟩
        · rw [if_neg c6] at H
          exact absurd H (by simp)
      · rw [if_neg c5] at H
        have c5b0 : decide (x11_1 < (l0.length : Int)) = false := decide_eq_false c5
        clear c5
        simp only [Option.some.injEq, Prod.mk.injEq] at H
        obtain ⟨rfl, rfl⟩ := H
        go_wp2
        repeat (go_quiet (fail); try go_wp2)
        go_ret2
        exact ⟨by first | rfl | (simp [errW_none, errW_some] <;> rfl) | (simp [*, errW_none, errW_some] <;> rfl), by repeat (first | (with_reducible first | exact HB.out | apply below_alloc | apply pw_below_drewN | apply below_drew1) | exact HB.out)⟩

/-! ### match_sound: function 42 -/
def match_sound.f (a0_0 : Int) (a0_1 : Int) (a0_2 : Int) : Option (Bool) := if a0_0 = 0 then (some (a0_1 == 0)) else (if a0_0 ≥ 3 then (if a0_0 ≤ 258 then (if a0_1 ≥ 1 then (if a0_1 ≤ 32768 then (some (a0_2 == 0)) else (some false)) else (some false)) else (some false)) else (some false))
set_option maxHeartbeats 8000000 in
set_option maxRecDepth 100000 in
theorem match_sound.calls (a0_0 : Int) (a0_1 : Int) (a0_2 : Int) (r : Bool) (w : World) (h : match_sound.f a0_0 a0_1 a0_2 = some r) :
    Calls Tryd.prog 42 #[.agg #[.int .i64 a0_0, .int .i64 a0_1, .int .u8 a0_2]] w fun e w' => e = .returned (.bool r) ∧ Below w.heap.size w w' := by
  have hu56 := Tryd.underlying56
  have HB := Aside0.mk (Below.refl w.heap.size w)
  have H : (if a0_0 = 0 then (some (a0_1 == 0)) else (if a0_0 ≥ 3 then (if a0_0 ≤ 258 then (if a0_1 ≥ 1 then (if a0_1 ≤ 32768 then (some (a0_2 == 0)) else (some false)) else (some false)) else (some false)) else (some false))) = some r := h
  clear h
  by_cases c2 : a0_0 = 0
  · rw [if_pos c2] at H
    have c2b0 : (a0_0 == 0) = true := beq_iff_eq.mpr c2
    have c2b1 : (a0_0 != 0) = false := bne_eq_false_iff_eq.mpr c2
    clear c2
    obtain rfl := Option.some.inj H
    go_enter Tryd.func42, Tryd.ntmps42
    go_wp2_with (first | ((with_reducible refine gate_dst (N := 1) rfl ?_); refine box_event ?hg (N := 1) ?hd (cs := #[.int .i64 a0_0, .int .i64 a0_1, .int .u8 a0_2]) (t := 56) ?hr ?_; (case hd => rfl); (case hg => rfl); (case hr => first | (go_simp; done) | (go_simp; rfl)); intro gb285 hg w3 hbox hb; have n0_ := Aside0.mk (below_step (by repeat (first | (with_reducible first | exact HB.out | apply below_alloc | apply pw_below_drewN | apply below_drew1) | exact HB.out)) hb); have n1_ := Aside0.mk (hbox); have n2_ := Aside0.mk ((by rw [hg]; exact (below_size (by repeat (first | (with_reducible first | exact HB.out | apply below_alloc | apply pw_below_drewN | apply below_drew1) | exact HB.out))) : w.heap.size ≤ gb285)); have n3_ := Aside0.mk ((by rw [hg]; exact (below_size (by repeat (first | (with_reducible first | exact HB.out | apply below_alloc | apply pw_below_drewN | apply below_drew1) | exact HB.out))) : w.heap.size ≤ gb285)); clear HB; have HB := n0_; have BK285 := n1_; have GW285 := n2_; have GE285 := n3_; clear n0_ n1_ n2_ n3_; clear hb hbox hg; have hcz4_0 : w3.cell? ⟨gb285, 0, none⟩ = some (.int .i64 a0_0) := (blk_cell BK285.out 0).trans rfl; have hcz4_1 : w3.cell? ⟨gb285, 1, none⟩ = some (.int .i64 a0_1) := (blk_cell BK285.out 1).trans rfl; have hcz4_2 : w3.cell? ⟨gb285, 2, none⟩ = some (.int .u8 a0_2) := (blk_cell BK285.out 2).trans rfl; have hfz4_0 := blk_frozen BK285.out 0; have hfz4_1 := blk_frozen BK285.out 1; have hfz4_2 := blk_frozen BK285.out 2))
    go_ret
    exact ⟨by first | rfl | (simp [errW_none, errW_some] <;> rfl) | (simp [*, errW_none, errW_some] <;> rfl), by repeat (first | (with_reducible first | exact HB.out | apply below_alloc | apply pw_below_drewN | apply below_drew1 | refine below_set ?_ GE285.out) | exact HB.out)⟩
  · rw [if_neg c2] at H
    have c2b0 : (a0_0 == 0) = false := beq_eq_false_iff_ne.mpr c2
    have c2b1 : (a0_0 != 0) = true := bne_iff_ne.mpr c2
    by_cases c5 : a0_0 ≥ 3
    · rw [if_pos c5] at H
      have c5b0 : decide (3 ≤ a0_0) = true := decide_eq_true c5
      clear c5
      by_cases c6 : a0_0 ≤ 258
      · rw [if_pos c6] at H
        have c6b0 : decide (a0_0 ≤ 258) = true := decide_eq_true c6
        clear c6
        by_cases c7 : a0_1 ≥ 1
        · rw [if_pos c7] at H
          have c7b0 : decide (1 ≤ a0_1) = true := decide_eq_true c7
          clear c7
          by_cases c8 : a0_1 ≤ 32768
          · rw [if_pos c8] at H
            have c8b0 : decide (a0_1 ≤ 32768) = true := decide_eq_true c8
            clear c8
            obtain rfl := Option.some.inj H
            go_enter Tryd.func42, Tryd.ntmps42
            go_wp2_with (first | ((with_reducible refine gate_dst (N := 1) rfl ?_); refine box_event ?hg (N := 1) ?hd (cs := #[.int .i64 a0_0, .int .i64 a0_1, .int .u8 a0_2]) (t := 56) ?hr ?_; (case hd => rfl); (case hg => rfl); (case hr => first | (go_simp; done) | (go_simp; rfl)); intro gb285 hg w9 hbox hb; have n0_ := Aside0.mk (below_step (by repeat (first | (with_reducible first | exact HB.out | apply below_alloc | apply pw_below_drewN | apply below_drew1) | exact HB.out)) hb); have n1_ := Aside0.mk (hbox); have n2_ := Aside0.mk ((by rw [hg]; exact (below_size (by repeat (first | (with_reducible first | exact HB.out | apply below_alloc | apply pw_below_drewN | apply below_drew1) | exact HB.out))) : w.heap.size ≤ gb285)); have n3_ := Aside0.mk ((by rw [hg]; exact (below_size (by repeat (first | (with_reducible first | exact HB.out | apply below_alloc | apply pw_below_drewN | apply below_drew1) | exact HB.out))) : w.heap.size ≤ gb285)); clear HB; have HB := n0_; have BK285 := n1_; have GW285 := n2_; have GE285 := n3_; clear n0_ n1_ n2_ n3_; clear hb hbox hg; have hcz10_0 : w9.cell? ⟨gb285, 0, none⟩ = some (.int .i64 a0_0) := (blk_cell BK285.out 0).trans rfl; have hcz10_1 : w9.cell? ⟨gb285, 1, none⟩ = some (.int .i64 a0_1) := (blk_cell BK285.out 1).trans rfl; have hcz10_2 : w9.cell? ⟨gb285, 2, none⟩ = some (.int .u8 a0_2) := (blk_cell BK285.out 2).trans rfl; have hfz10_0 := blk_frozen BK285.out 0; have hfz10_1 := blk_frozen BK285.out 1; have hfz10_2 := blk_frozen BK285.out 2))
            go_ret
            exact ⟨by first | rfl | (simp [errW_none, errW_some] <;> rfl) | (simp [*, errW_none, errW_some] <;> rfl), by repeat (first | (with_reducible first | exact HB.out | apply below_alloc | apply pw_below_drewN | apply below_drew1 | refine below_set ?_ GE285.out) | exact HB.out)⟩
          · rw [if_neg c8] at H
            have c8b0 : decide (a0_1 ≤ 32768) = false := decide_eq_false c8
            clear c8
            obtain rfl := Option.some.inj H
            go_enter Tryd.func42, Tryd.ntmps42
            go_wp2_with (first | ((with_reducible refine gate_dst (N := 1) rfl ?_); refine box_event ?hg (N := 1) ?hd (cs := #[.int .i64 a0_0, .int .i64 a0_1, .int .u8 a0_2]) (t := 56) ?hr ?_; (case hd => rfl); (case hg => rfl); (case hr => first | (go_simp; done) | (go_simp; rfl)); intro gb285 hg w11 hbox hb; have n0_ := Aside0.mk (below_step (by repeat (first | (with_reducible first | exact HB.out | apply below_alloc | apply pw_below_drewN | apply below_drew1) | exact HB.out)) hb); have n1_ := Aside0.mk (hbox); have n2_ := Aside0.mk ((by rw [hg]; exact (below_size (by repeat (first | (with_reducible first | exact HB.out | apply below_alloc | apply pw_below_drewN | apply below_drew1) | exact HB.out))) : w.heap.size ≤ gb285)); have n3_ := Aside0.mk ((by rw [hg]; exact (below_size (by repeat (first | (with_reducible first | exact HB.out | apply below_alloc | apply pw_below_drewN | apply below_drew1) | exact HB.out))) : w.heap.size ≤ gb285)); clear HB; have HB := n0_; have BK285 := n1_; have GW285 := n2_; have GE285 := n3_; clear n0_ n1_ n2_ n3_; clear hb hbox hg; have hcz12_0 : w11.cell? ⟨gb285, 0, none⟩ = some (.int .i64 a0_0) := (blk_cell BK285.out 0).trans rfl; have hcz12_1 : w11.cell? ⟨gb285, 1, none⟩ = some (.int .i64 a0_1) := (blk_cell BK285.out 1).trans rfl; have hcz12_2 : w11.cell? ⟨gb285, 2, none⟩ = some (.int .u8 a0_2) := (blk_cell BK285.out 2).trans rfl; have hfz12_0 := blk_frozen BK285.out 0; have hfz12_1 := blk_frozen BK285.out 1; have hfz12_2 := blk_frozen BK285.out 2))
            go_ret
            exact ⟨by first | rfl | (simp [errW_none, errW_some] <;> rfl) | (simp [*, errW_none, errW_some] <;> rfl), by repeat (first | (with_reducible first | exact HB.out | apply below_alloc | apply pw_below_drewN | apply below_drew1 | refine below_set ?_ GE285.out) | exact HB.out)⟩
        · rw [if_neg c7] at H
          have c7b0 : decide (1 ≤ a0_1) = false := decide_eq_false c7
          clear c7
          obtain rfl := Option.some.inj H
          go_enter Tryd.func42, Tryd.ntmps42
          go_wp2_with (first | ((with_reducible refine gate_dst (N := 1) rfl ?_); refine box_event ?hg (N := 1) ?hd (cs := #[.int .i64 a0_0, .int .i64 a0_1, .int .u8 a0_2]) (t := 56) ?hr ?_; (case hd => rfl); (case hg => rfl); (case hr => first | (go_simp; done) | (go_simp; rfl)); intro gb285 hg w13 hbox hb; have n0_ := Aside0.mk (below_step (by repeat (first | (with_reducible first | exact HB.out | apply below_alloc | apply pw_below_drewN | apply below_drew1) | exact HB.out)) hb); have n1_ := Aside0.mk (hbox); have n2_ := Aside0.mk ((by rw [hg]; exact (below_size (by repeat (first | (with_reducible first | exact HB.out | apply below_alloc | apply pw_below_drewN | apply below_drew1) | exact HB.out))) : w.heap.size ≤ gb285)); have n3_ := Aside0.mk ((by rw [hg]; exact (below_size (by repeat (first | (with_reducible first | exact HB.out | apply below_alloc | apply pw_below_drewN | apply below_drew1) | exact HB.out))) : w.heap.size ≤ gb285)); clear HB; have HB := n0_; have BK285 := n1_; have GW285 := n2_; have GE285 := n3_; clear n0_ n1_ n2_ n3_; clear hb hbox hg; have hcz14_0 : w13.cell? ⟨gb285, 0, none⟩ = some (.int .i64 a0_0) := (blk_cell BK285.out 0).trans rfl; have hcz14_1 : w13.cell? ⟨gb285, 1, none⟩ = some (.int .i64 a0_1) := (blk_cell BK285.out 1).trans rfl; have hcz14_2 : w13.cell? ⟨gb285, 2, none⟩ = some (.int .u8 a0_2) := (blk_cell BK285.out 2).trans rfl; have hfz14_0 := blk_frozen BK285.out 0; have hfz14_1 := blk_frozen BK285.out 1; have hfz14_2 := blk_frozen BK285.out 2))
          go_ret
          exact ⟨by first | rfl | (simp [errW_none, errW_some] <;> rfl) | (simp [*, errW_none, errW_some] <;> rfl), by repeat (first | (with_reducible first | exact HB.out | apply below_alloc | apply pw_below_drewN | apply below_drew1 | refine below_set ?_ GE285.out) | exact HB.out)⟩
      · rw [if_neg c6] at H
        have c6b0 : decide (a0_0 ≤ 258) = false := decide_eq_false c6
        clear c6
        obtain rfl := Option.some.inj H
        go_enter Tryd.func42, Tryd.ntmps42
        go_wp2_with (first | ((with_reducible refine gate_dst (N := 1) rfl ?_); refine box_event ?hg (N := 1) ?hd (cs := #[.int .i64 a0_0, .int .i64 a0_1, .int .u8 a0_2]) (t := 56) ?hr ?_; (case hd => rfl); (case hg => rfl); (case hr => first | (go_simp; done) | (go_simp; rfl)); intro gb285 hg w15 hbox hb; have n0_ := Aside0.mk (below_step (by repeat (first | (with_reducible first | exact HB.out | apply below_alloc | apply pw_below_drewN | apply below_drew1) | exact HB.out)) hb); have n1_ := Aside0.mk (hbox); have n2_ := Aside0.mk ((by rw [hg]; exact (below_size (by repeat (first | (with_reducible first | exact HB.out | apply below_alloc | apply pw_below_drewN | apply below_drew1) | exact HB.out))) : w.heap.size ≤ gb285)); have n3_ := Aside0.mk ((by rw [hg]; exact (below_size (by repeat (first | (with_reducible first | exact HB.out | apply below_alloc | apply pw_below_drewN | apply below_drew1) | exact HB.out))) : w.heap.size ≤ gb285)); clear HB; have HB := n0_; have BK285 := n1_; have GW285 := n2_; have GE285 := n3_; clear n0_ n1_ n2_ n3_; clear hb hbox hg; have hcz16_0 : w15.cell? ⟨gb285, 0, none⟩ = some (.int .i64 a0_0) := (blk_cell BK285.out 0).trans rfl; have hcz16_1 : w15.cell? ⟨gb285, 1, none⟩ = some (.int .i64 a0_1) := (blk_cell BK285.out 1).trans rfl; have hcz16_2 : w15.cell? ⟨gb285, 2, none⟩ = some (.int .u8 a0_2) := (blk_cell BK285.out 2).trans rfl; have hfz16_0 := blk_frozen BK285.out 0; have hfz16_1 := blk_frozen BK285.out 1; have hfz16_2 := blk_frozen BK285.out 2))
        go_ret
        exact ⟨by first | rfl | (simp [errW_none, errW_some] <;> rfl) | (simp [*, errW_none, errW_some] <;> rfl), by repeat (first | (with_reducible first | exact HB.out | apply below_alloc | apply pw_below_drewN | apply below_drew1 | refine below_set ?_ GE285.out) | exact HB.out)⟩
    · rw [if_neg c5] at H
      have c5b0 : decide (3 ≤ a0_0) = false := decide_eq_false c5
      clear c5
      obtain rfl := Option.some.inj H
      go_enter Tryd.func42, Tryd.ntmps42
      go_wp2_with (first | ((with_reducible refine gate_dst (N := 1) rfl ?_); refine box_event ?hg (N := 1) ?hd (cs := #[.int .i64 a0_0, .int .i64 a0_1, .int .u8 a0_2]) (t := 56) ?hr ?_; (case hd => rfl); (case hg => rfl); (case hr => first | (go_simp; done) | (go_simp; rfl)); intro gb285 hg w17 hbox hb; have n0_ := Aside0.mk (below_step (by repeat (first | (with_reducible first | exact HB.out | apply below_alloc | apply pw_below_drewN | apply below_drew1) | exact HB.out)) hb); have n1_ := Aside0.mk (hbox); have n2_ := Aside0.mk ((by rw [hg]; exact (below_size (by repeat (first | (with_reducible first | exact HB.out | apply below_alloc | apply pw_below_drewN | apply below_drew1) | exact HB.out))) : w.heap.size ≤ gb285)); have n3_ := Aside0.mk ((by rw [hg]; exact (below_size (by repeat (first | (with_reducible first | exact HB.out | apply below_alloc | apply pw_below_drewN | apply below_drew1) | exact HB.out))) : w.heap.size ≤ gb285)); clear HB; have HB := n0_; have BK285 := n1_; have GW285 := n2_; have GE285 := n3_; clear n0_ n1_ n2_ n3_; clear hb hbox hg; have hcz18_0 : w17.cell? ⟨gb285, 0, none⟩ = some (.int .i64 a0_0) := (blk_cell BK285.out 0).trans rfl; have hcz18_1 : w17.cell? ⟨gb285, 1, none⟩ = some (.int .i64 a0_1) := (blk_cell BK285.out 1).trans rfl; have hcz18_2 : w17.cell? ⟨gb285, 2, none⟩ = some (.int .u8 a0_2) := (blk_cell BK285.out 2).trans rfl; have hfz18_0 := blk_frozen BK285.out 0; have hfz18_1 := blk_frozen BK285.out 1; have hfz18_2 := blk_frozen BK285.out 2))
      go_ret
      exact ⟨by first | rfl | (simp [errW_none, errW_some] <;> rfl) | (simp [*, errW_none, errW_some] <;> rfl), by repeat (first | (with_reducible first | exact HB.out | apply below_alloc | apply pw_below_drewN | apply below_drew1 | refine below_set ?_ GE285.out) | exact HB.out)⟩

end Go.Proofs.YtpndhoefmepfdaaDoor.PSq
