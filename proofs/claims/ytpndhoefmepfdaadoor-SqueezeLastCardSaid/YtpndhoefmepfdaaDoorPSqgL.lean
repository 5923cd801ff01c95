-- WRITTEN BY myprint.py (this claim's own program, over the kit's printer): Lean checks it.
import Derived.Test.YtpndhoefmepfdaaDoorCheapWalk
import Derived.Test.YtpndhoefmepfdaaDoorPSqgA
import Derived.Test.YtpndhoefmepfdaaDoorPSqgB
import Derived.Test.YtpndhoefmepfdaaDoorPSqgE
import Derived.Test.YtpndhoefmepfdaaDoorPSqgF
import Derived.Test.YtpndhoefmepfdaaDoorPSqx0
import Derived.Test.YtpndhoefmepfdaaDoorPSqx1
namespace Go.Proofs.YtpndhoefmepfdaaDoor.PSq
open Go.RowKit Go.Proofs.YtpndhoefmepfdaaDoorW.PrintWords Go.Proofs.YtpndhoefmepfdaaDoorW.PrintLast Go.Proofs.YtpndhoefmepfdaaDoorW.PrintMore
open Go.Proofs.YtpndhoefmepfdaaDoor.More Go.Proofs.YtpndhoefmepfdaaDoor.TS
attribute [local go_sem] max2_int min2_int max_two min_two max_three min_three max_four min_four   -- for this text's walks alone
set_option linter.unusedVariables false
set_option linter.unusedSimpArgs false

/-! ### valiselaw21_fits: function 30 -/
mutual
def valiselaw21_fits.j0 : Nat → List Int → Int → Int → Int → Bool → Option (Bool)
  | 0, _, _, _, _, _ => none
  | k + 1, x0, x1, x2, x9, x39 => if x39 = true then (some false) else (valiselaw21_fits.l0 k x0 x2 x9 (wrap64 (x9 - x1)))
def valiselaw21_fits.l0 : Nat → List Int → Int → Int → Int → Option (Bool)
  | 0, _, _, _, _ => none
  | k + 1, x0, x2, x9, x10 => if x10 < x9 then (if 0 ≤ x10 then (if x10 < (x0.length : Int) then (if 0 ≤ (wrap64 (x10 - x2)) then (if (wrap64 (x10 - x2)) < (x0.length : Int) then (if (rd x0 x10) = (rd x0 (wrap64 (x10 - x2))) then (valiselaw21_fits.l0 k x0 x2 x9 (wrap64 (x10 + 1))) else (some false)) else (none)) else (none)) else (none)) else (none)) else (some true)
end
def valiselaw21_fits.f (k : Nat) (l0 : List Int) (a1 : Int) (a2 : Int) (a3 : Int) : Option (Bool) := if a1 < 3 then (valiselaw21_fits.j0 k l0 a1 a2 (l0.length : Int) true) else (if a1 > 258 then (valiselaw21_fits.j0 k l0 a1 a2 (l0.length : Int) true) else (if a2 < 1 then (valiselaw21_fits.j0 k l0 a1 a2 (l0.length : Int) true) else (if a2 > a3 then (valiselaw21_fits.j0 k l0 a1 a2 (l0.length : Int) true) else (if a1 > (l0.length : Int) then (valiselaw21_fits.j0 k l0 a1 a2 (l0.length : Int) true) else (valiselaw21_fits.j0 k l0 a1 a2 (l0.length : Int) (decide (a2 > (wrap64 ((l0.length : Int) - a1)))))))))
theorem valiselaw21_fits.mono_l : ∀ k, (∀ y0 y1 y2 y3 y4, LeO (valiselaw21_fits.j0 k y0 y1 y2 y3 y4) (valiselaw21_fits.j0 (k + 1) y0 y1 y2 y3 y4)) ∧ (∀ y0 y1 y2 y3, LeO (valiselaw21_fits.l0 k y0 y1 y2 y3) (valiselaw21_fits.l0 (k + 1) y0 y1 y2 y3))
  | 0 => ⟨fun _ _ _ _ _ r h => by simp [valiselaw21_fits.j0] at h, fun _ _ _ _ r h => by simp [valiselaw21_fits.l0] at h⟩
  | k + 1 => by
    obtain ⟨ih0, ih1⟩ := valiselaw21_fits.mono_l k
    refine ⟨?_, ?_⟩
    · intro y0 y1 y2 y3 y4
      unfold valiselaw21_fits.j0
      repeat' first
      | (with_reducible exact ih0 _ _ _ _ _)
      | (with_reducible exact ih1 _ _ _ _)
      | (with_reducible exact LeO.refl _)
      | (with_reducible exact LeO.none _)
      | (with_reducible refine LeO.ite ?_ ?_)
      | (with_reducible refine LeO.bind ?_ (fun _ => ?_))
      | exact ih0 _ _ _ _ _
      | exact ih1 _ _ _ _
      | exact LeO.none _
      | refine LeO.ite ?_ ?_
      | refine LeO.bind ?_ (fun _ => ?_)
    · intro y0 y1 y2 y3
      unfold valiselaw21_fits.l0
      repeat' first
      | (with_reducible exact ih0 _ _ _ _ _)
      | (with_reducible exact ih1 _ _ _ _)
      | (with_reducible exact LeO.refl _)
      | (with_reducible exact LeO.none _)
      | (with_reducible refine LeO.ite ?_ ?_)
      | (with_reducible refine LeO.bind ?_ (fun _ => ?_))
      | exact ih0 _ _ _ _ _
      | exact ih1 _ _ _ _
      | exact LeO.none _
      | refine LeO.ite ?_ ?_
      | refine LeO.bind ?_ (fun _ => ?_)
theorem valiselaw21_fits.mono : ∀ a0 a1 a2 a3 k, LeO (valiselaw21_fits.f k a0 a1 a2 a3) (valiselaw21_fits.f (k + 1) a0 a1 a2 a3) := by
  intro a0 a1 a2 a3 k
  obtain ⟨ih0, ih1⟩ := valiselaw21_fits.mono_l k
  unfold valiselaw21_fits.f
  repeat' first
      | (with_reducible exact ih0 _ _ _ _ _)
      | (with_reducible exact ih1 _ _ _ _)
      | (with_reducible exact LeO.refl _)
      | (with_reducible exact LeO.none _)
      | (with_reducible refine LeO.ite ?_ ?_)
      | (with_reducible refine LeO.bind ?_ (fun _ => ?_))
      | exact ih0 _ _ _ _ _
      | exact ih1 _ _ _ _
      | exact LeO.none _
      | refine LeO.ite ?_ ?_
      | refine LeO.bind ?_ (fun _ => ?_)
set_option maxHeartbeats 8000000 in
set_option maxRecDepth 100000 in
theorem valiselaw21_fits.calls (k : Nat) (A0 : Option Addr) (c0 : Nat) (l0 : List Int) (a1 : Int) (a2 : Int) (a3 : Int) (r : Bool) (w : World) (hr0 : Kd.C (Kd.int .u8) w A0 l0.length l0) (hc0 : l0.length ≤ c0) (h : valiselaw21_fits.f k l0 a1 a2 a3 = some r) :
    Calls Tryd.prog 30 #[.slice A0 l0.length c0, .int .i64 a1, .int .i64 a2, .int .i64 a3] w fun e w' => e = .returned (.bool r) ∧ Drawn0 w w' := by
  have HR0 := Aside0.mk hr0
  have HC0 := Aside0.mk hc0
  clear hr0 hc0
  have H : (if a1 < 3 then (valiselaw21_fits.j0 k l0 a1 a2 (l0.length : Int) true) else (if a1 > 258 then (valiselaw21_fits.j0 k l0 a1 a2 (l0.length : Int) true) else (if a2 < 1 then (valiselaw21_fits.j0 k l0 a1 a2 (l0.length : Int) true) else (if a2 > a3 then (valiselaw21_fits.j0 k l0 a1 a2 (l0.length : Int) true) else (if a1 > (l0.length : Int) then (valiselaw21_fits.j0 k l0 a1 a2 (l0.length : Int) true) else (valiselaw21_fits.j0 k l0 a1 a2 (l0.length : Int) (decide (a2 > (wrap64 ((l0.length : Int) - a1)))))))))) = some r := h
  clear h
  have HC5 := Aside0.mk H
  clear H
  go_enter Tryd.func30, Tryd.ntmps30
  go_upto_region 2 with (fail)
  repeat (go_quiet (fail); go_upto_region 2 with (fail))
  go_cut [39] (fun v39 wc => ∃ (kq : Nat) (x39_4 : Bool), v39 = .bool x39_4 ∧ Aside0 (valiselaw21_fits.j0 kq l0 a1 a2 (l0.length : Int) x39_4 = some r) ∧ Aside0 (kq ≤ k) ∧ Drawn0 w wc)
  case first =>
    have H := HC5.out
    clear HC5
    by_cases c6 : a1 < 3
    · rw [if_pos c6] at H
      have c6b0 : decide (a1 < 3) = true := decide_eq_true c6
      clear c6
      (first | rw [c6b0] | (simp only [i64_w, i32_w]; rw [c6b0]) | skip)
      have H' := Aside0.mk H
      clear H
      go_wp2
      repeat (go_quiet (fail); try go_wp2)
      go_meet
      case rel => exact ⟨_, (true), (by first | rfl | (simp; done) | (simp [*]; done)), H', ⟨by first | omega | exact Nat.le_refl _⟩, by repeat (first | exact Drawn0.refl _ | apply Drawn0.step)⟩
    · rw [if_neg c6] at H
      have c6b0 : decide (a1 < 3) = false := decide_eq_false c6
      clear c6
      (first | rw [c6b0] | (simp only [i64_w, i32_w]; rw [c6b0]) | skip)
      by_cases c7 : a1 > 258
      · rw [if_pos c7] at H
        have c7b0 : decide (258 < a1) = true := decide_eq_true c7
        clear c7
        have H' := Aside0.mk H
        clear H
        go_wp2
        repeat (go_quiet (fail); try go_wp2)
        go_meet
        case rel => exact ⟨_, (true), (by first | rfl | (simp; done) | (simp [*]; done)), H', ⟨by first | omega | exact Nat.le_refl _⟩, by repeat (first | exact Drawn0.refl _ | apply Drawn0.step)⟩
      · rw [if_neg c7] at H
        have c7b0 : decide (258 < a1) = false := decide_eq_false c7
        clear c7
        by_cases c8 : a2 < 1
        · rw [if_pos c8] at H
          have c8b0 : decide (a2 < 1) = true := decide_eq_true c8
          clear c8
          have H' := Aside0.mk H
          clear H
          go_wp2
          repeat (go_quiet (fail); try go_wp2)
          go_meet
          case rel => exact ⟨_, (true), (by first | rfl | (simp; done) | (simp [*]; done)), H', ⟨by first | omega | exact Nat.le_refl _⟩, by repeat (first | exact Drawn0.refl _ | apply Drawn0.step)⟩
        · rw [if_neg c8] at H
          have c8b0 : decide (a2 < 1) = false := decide_eq_false c8
          clear c8
          by_cases c9 : a2 > a3
          · rw [if_pos c9] at H
            have c9b0 : decide (a3 < a2) = true := decide_eq_true c9
            clear c9
            have H' := Aside0.mk H
            clear H
            go_wp2
            repeat (go_quiet (fail); try go_wp2)
            go_meet
            case rel => exact ⟨_, (true), (by first | rfl | (simp; done) | (simp [*]; done)), H', ⟨by first | omega | exact Nat.le_refl _⟩, by repeat (first | exact Drawn0.refl _ | apply Drawn0.step)⟩
          · rw [if_neg c9] at H
            have c9b0 : decide (a3 < a2) = false := decide_eq_false c9
            clear c9
            by_cases c10 : a1 > (l0.length : Int)
            · rw [if_pos c10] at H
              have c10b0 : decide ((l0.length : Int) < a1) = true := decide_eq_true c10
              clear c10
              have H' := Aside0.mk H
              clear H
              go_wp2
              repeat (go_quiet (fail); try go_wp2)
              go_meet
              case rel => exact ⟨_, (true), (by first | rfl | (simp; done) | (simp [*]; done)), H', ⟨by first | omega | exact Nat.le_refl _⟩, by repeat (first | exact Drawn0.refl _ | apply Drawn0.step)⟩
            · rw [if_neg c10] at H
              have c10b0 : decide ((l0.length : Int) < a1) = false := decide_eq_false c10
              clear c10
              have H' := Aside0.mk H
              clear H
              go_wp2
              repeat (go_quiet (fail); try go_wp2)
              go_meet
              case rel => exact ⟨_, (decide (a2 > (wrap64 ((l0.length : Int) - a1)))), (by first | rfl | (simp; done) | (simp [*]; done)), H', ⟨by first | omega | exact Nat.le_refl _⟩, by repeat (first | exact Drawn0.refl _ | apply Drawn0.step)⟩
  case rest =>
    clear HC5
    try clear c1
    try clear p2
    try clear c3
    try clear c6
    try clear c6b0
    try clear p6
    try clear c7
    try clear c7b0
    try clear c8
    try clear c8b0
    try clear c9
    try clear c9b0
    try clear c10
    try clear c10b0
    obtain ⟨kq, x39_4, rfl, HA, HJ4, ⟨mc4, rfl⟩⟩ := hcut
    cases kq with
    | zero => exact absurd HA.out (by simp [valiselaw21_fits.j0])
    | succ kj4 =>
      have H := HA.out
      clear HA
      simp only [valiselaw21_fits.j0] at H
      by_cases c11 : x39_4 = true
      · subst c11
        have H1 : (some false) = some r := by rw [if_pos rfl] at H; exact H
        clear H
        have H := H1
        clear H1
        obtain rfl := Option.some.inj H
        go_wp2
        repeat (go_quiet (fail); try go_wp2)
        go_ret
        exact ⟨by first | rfl | (simp; done) | (simp [*]; done), by repeat (first | exact Drawn0.refl _ | apply Drawn0.step)⟩
      · replace c11 := Bool.eq_false_iff.mpr c11
        subst c11
        have H1 : (valiselaw21_fits.l0 kj4 l0 a2 (l0.length : Int) (wrap64 ((l0.length : Int) - a1))) = some r := by rw [if_neg (show ¬ (false = true) by decide)] at H; exact H
        clear H
        have H := H1
        clear H1
        have H' := Aside0.mk H
        clear H
        go_wp2
        repeat (go_quiet (fail); try go_wp2)
        go_loopg [10] kj4 (fun kq v10 w' => ∃ (x10_2 : Int), v10 = .int .i64 x10_2 ∧ Aside0 (valiselaw21_fits.l0 kq l0 a2 (l0.length : Int) x10_2 = some r) ∧ Aside0 (kq ≤ kj4) ∧ Drawn0 w w')
        case atStart => exact ⟨(wrap64 ((l0.length : Int) - a1)), (by first | rfl | (simp; done) | (simp [*]; done)), H', ⟨Nat.le_refl _⟩, by repeat (first | exact Drawn0.refl _ | apply Drawn0.step)⟩
        case round =>
          clear H'
          try clear c1
          try clear p2
          try clear c3
          try clear c4
          try clear c6
          try clear c6b0
          try clear p6
          try clear c7
          try clear c7b0
          try clear c8
          try clear c8b0
          try clear c9
          try clear c9b0
          try clear c10
          try clear c10b0
          try clear c11
          try clear p2
          try clear p6
          obtain ⟨x10_2, rfl, HA, HK2, ⟨m2, rfl⟩⟩ := hrel
          cases gk with
          | zero => exact absurd HA.out (by simp [valiselaw21_fits.l0])
          | succ k2 =>
            have H := HA.out
            clear HA
            simp only [valiselaw21_fits.l0] at H
            by_cases c12 : x10_2 < (l0.length : Int)
            · rw [if_pos c12] at H
              have c12b0 : decide (x10_2 < (l0.length : Int)) = true := decide_eq_true c12
              clear c12
              by_cases c13 : 0 ≤ x10_2
              · rw [if_pos c13] at H
                have c13b0 : decide (0 ≤ x10_2) = true := decide_eq_true c13
                clear c13
                by_cases c14 : x10_2 < (l0.length : Int)
                · rw [if_pos c14] at H
                  have c14b0 : decide (x10_2 < (l0.length : Int)) = true := decide_eq_true c14
                  clear c14
                  obtain ⟨ji15, hji15⟩ : ∃ j_ : Int, (wrap64 (x10_2 - a2)) = j_ := ⟨_, rfl⟩
                  replace H : (if 0 ≤ (ji15) then (if (ji15) < (l0.length : Int) then (if (rd l0 x10_2) = (rd l0 (ji15)) then (valiselaw21_fits.l0 k2 l0 a2 (l0.length : Int) (wrap64 (x10_2 + 1))) else (some false)) else (none)) else (none)) = some r := by first | (rw [hji15] at H; exact H) | (simp only [hji15] at H ⊢; exact H)
                  have hji15w : (IntKind.i64.wrap (x10_2 - a2)) = ji15 := (i64_w _).trans hji15
                  by_cases c16 : 0 ≤ (ji15)
                  · rw [if_pos c16] at H
                    have c16b0 : decide (0 ≤ (ji15)) = true := decide_eq_true c16
                    clear c16
                    by_cases c17 : (ji15) < (l0.length : Int)
                    · rw [if_pos c17] at H
                      have c17b0 : decide ((ji15) < (l0.length : Int)) = true := decide_eq_true c17
                      clear c17
                      by_cases c18 : (rd l0 x10_2) = (rd l0 (ji15))
                      · rw [if_pos c18] at H
                        have c18b0 : ((rd l0 x10_2) == (rd l0 (ji15))) = true := beq_iff_eq.mpr c18
                        have c18b1 : ((rd l0 x10_2) != (rd l0 (ji15))) = false := bne_eq_false_iff_eq.mpr c18
                        clear c18
                        have H' := Aside0.mk H
                        clear H
                        have p320 : 0 ≤ (x10_2 : Int) := of_decide_eq_true (by first | (with_reducible assumption) | assumption)
                        have q320 : x10_2 < (l0.length : Int) := of_decide_eq_true (by first | (with_reducible assumption) | assumption)
                        obtain ⟨ad320, e320, hx320_0⟩ := Kd.at_int HR0.out x10_2 p320 q320
                        cases e320
                        replace p320 := eq_true p320
                        replace q320 := eq_true q320
                        have p321 : 0 ≤ ((ji15) : Int) := of_decide_eq_true (by first | (with_reducible assumption) | assumption)
                        have q321 : (ji15) < (l0.length : Int) := of_decide_eq_true (by first | (with_reducible assumption) | assumption)
                        obtain ⟨ad321, e321, hx321_0⟩ := Kd.at_int HR0.out (ji15) p321 q321
                        obtain rfl : ad320 = ad321 := (by injection e321)
                        replace p321 := eq_true p321
                        replace q321 := eq_true q321
                        go_wp2
                        repeat (go_quiet (fail); try go_wp2)
                        go_roundg k2
                        case measure => have := HJ4.out; have := HK2.out; omega
                        case rel => exact ⟨(wrap64 (x10_2 + 1)), (by first | rfl | (simp; done) | (simp [*]; done)), H', ⟨by have := HJ4.out; have := HK2.out; omega⟩, by repeat (first | exact Drawn0.refl _ | apply Drawn0.step)⟩
                      · rw [if_neg c18] at H
                        have c18b0 : ((rd l0 x10_2) == (rd l0 (ji15))) = false := beq_eq_false_iff_ne.mpr c18
                        have c18b1 : ((rd l0 x10_2) != (rd l0 (ji15))) = true := bne_iff_ne.mpr c18
                        obtain rfl := Option.some.inj H
                        have p320 : 0 ≤ (x10_2 : Int) := of_decide_eq_true (by first | (with_reducible assumption) | assumption)
                        have q320 : x10_2 < (l0.length : Int) := of_decide_eq_true (by first | (with_reducible assumption) | assumption)
                        obtain ⟨ad320, e320, hx320_0⟩ := Kd.at_int HR0.out x10_2 p320 q320
                        cases e320
                        replace p320 := eq_true p320
                        replace q320 := eq_true q320
                        have p321 : 0 ≤ ((ji15) : Int) := of_decide_eq_true (by first | (with_reducible assumption) | assumption)
                        have q321 : (ji15) < (l0.length : Int) := of_decide_eq_true (by first | (with_reducible assumption) | assumption)
                        obtain ⟨ad321, e321, hx321_0⟩ := Kd.at_int HR0.out (ji15) p321 q321
                        obtain rfl : ad320 = ad321 := (by injection e321)
                        replace p321 := eq_true p321
                        replace q321 := eq_true q321
                        go_wp2
                        repeat (go_quiet (fail); try go_wp2)
                        go_ret
                        exact ⟨by first | rfl | (simp; done) | (simp only [← hji15] <;> (first | rfl | simp)) | (simp [*]; done), by repeat (first | exact Drawn0.refl _ | apply Drawn0.step)⟩
                    · rw [if_neg c17] at H
                      exact absurd H (by simp)
                  · rw [if_neg c16] at H
                    exact absurd H (by simp)
                · rw [if_neg c14] at H
                  exact absurd H (by simp)
              · rw [if_neg c13] at H
                exact absurd H (by simp)
            · rw [if_neg c12] at H
              have c12b0 : decide (x10_2 < (l0.length : Int)) = false := decide_eq_false c12
              clear c12
              obtain rfl := Option.some.inj H
              go_wp2
              repeat (go_quiet (fail); try go_wp2)
              go_ret
              exact ⟨by first | rfl | (simp; done) | (simp [*]; done), by repeat (first | exact Drawn0.refl _ | apply Drawn0.step)⟩

/-! ### valiselaw21_SqueezeLast: function 6 -/
mutual
def valiselaw21_SqueezeLast.j0 : Nat → List Int → Int → List Int → List Int → Int → Int → Int → Int → List (S56) → Bool → Option (Bool)
  | 0, _, _, _, _, _, _, _, _, _, _ => none
  | k + 1, x0, x1, x2, x3, x4, x5, x13, x14, x16, x62 => if x62 = true then (some false) else (if x13 = 0 then (if x14 = 0 then (some ((x16.length : Int) == 0)) else (some false)) else (if (x16.length : Int) = 0 then (some false) else (if 0 ≤ (wrap64 ((x16.length : Int) - 1)) then (if (wrap64 ((x16.length : Int) - 1)) < (x16.length : Int) then ((valiselaw21_span.f ((rd_T56 x16 (wrap64 ((x16.length : Int) - 1))).f0) ((rd_T56 x16 (wrap64 ((x16.length : Int) - 1))).f1) ((rd_T56 x16 (wrap64 ((x16.length : Int) - 1))).f2)).bind fun t340 => (if t340 < 1 then (valiselaw21_SqueezeLast.j1 k x0 x1 x2 x3 x4 x5 x13 x14 true ((rd_T56 x16 (wrap64 ((x16.length : Int) - 1))).f0) ((rd_T56 x16 (wrap64 ((x16.length : Int) - 1))).f1) ((rd_T56 x16 (wrap64 ((x16.length : Int) - 1))).f2)) else ((valiselaw21_span.f ((rd_T56 x16 (wrap64 ((x16.length : Int) - 1))).f0) ((rd_T56 x16 (wrap64 ((x16.length : Int) - 1))).f1) ((rd_T56 x16 (wrap64 ((x16.length : Int) - 1))).f2)).bind fun t341 => (valiselaw21_SqueezeLast.j1 k x0 x1 x2 x3 x4 x5 x13 x14 (decide (t341 > x13)) ((rd_T56 x16 (wrap64 ((x16.length : Int) - 1))).f0) ((rd_T56 x16 (wrap64 ((x16.length : Int) - 1))).f1) ((rd_T56 x16 (wrap64 ((x16.length : Int) - 1))).f2))))) else (none)) else (none))))
def valiselaw21_SqueezeLast.j1 : Nat → List Int → Int → List Int → List Int → Int → Int → Int → Int → Bool → Int → Int → Int → Option (Bool)
  | 0, _, _, _, _, _, _, _, _, _, _, _, _ => none
  | k + 1, x0, x1, x2, x3, x4, x5, x13, x14, x89, x340000, x340001, x340002 => if x89 = true then (some false) else ((valiselaw21_costs.f k (([(⟨x340000, x340001, x340002⟩ : S56)] : List (S56))) x1 x2 x3).bind fun bt345 => ((valiselaw21_span.f x340000 x340001 x340002).bind fun t347 => (if 0 ≤ (wrap64 (x13 - t347)) then (if (wrap64 (x13 - t347)) ≤ (x0.length : Int) then ((valiselaw21_cheapest.f k (x0.take ((wrap64 (x13 - t347)) : Int).toNat) x1 x2 x3).bind fun bt349 => (if bt345.2 = true then (if bt349.2 = true then (valiselaw21_SqueezeLast.j2 k x0 x1 x2 x3 x4 x5 x13 x14 (x14 != (wrap64 (bt349.1 + bt345.1)))) else (valiselaw21_SqueezeLast.j2 k x0 x1 x2 x3 x4 x5 x13 x14 true)) else (valiselaw21_SqueezeLast.j2 k x0 x1 x2 x3 x4 x5 x13 x14 true))) else (none)) else (none))))
def valiselaw21_SqueezeLast.j2 : Nat → List Int → Int → List Int → List Int → Int → Int → Int → Int → Bool → Option (Bool)
  | 0, _, _, _, _, _, _, _, _, _ => none
  | k + 1, x0, x1, x2, x3, x4, x5, x13, x14, x124 => if x124 = true then (some false) else (if 0 ≤ (wrap64 (x13 - 1)) then (if (wrap64 (x13 - 1)) ≤ (x0.length : Int) then ((valiselaw21_cheapest.f k (x0.take ((wrap64 (x13 - 1)) : Int).toNat) x1 x2 x3).bind fun bt352 => (if bt352.2 = true then (if (wrap64 (x13 - 1)) < (x0.length : Int) then (if 0 ≤ (wrap64 (rd x0 (wrap64 (x13 - 1)))) then (if (wrap64 (rd x0 (wrap64 (x13 - 1)))) < (x2.length : Int) then (valiselaw21_SqueezeLast.j3 k x0 x1 x2 x3 x4 x5 x13 x14 (decide (x14 > (wrap64 (bt352.1 + (rd x2 (wrap64 (rd x0 (wrap64 (x13 - 1)))))))))) else (none)) else (none)) else (none)) else (valiselaw21_SqueezeLast.j3 k x0 x1 x2 x3 x4 x5 x13 x14 true))) else (none)) else (none))
def valiselaw21_SqueezeLast.j3 : Nat → List Int → Int → List Int → List Int → Int → Int → Int → Int → Bool → Option (Bool)
  | 0, _, _, _, _, _, _, _, _, _ => none
  | k + 1, x0, x1, x2, x3, x4, x5, x13, x14, x152 => if x152 = true then (some false) else ((valiselaw21_fits.f k x0 x4 x5 x1).bind fun t356 => (if t356 = true then ((valiselaw21_costs.f k (([(⟨x4, x5, 0⟩ : S56)] : List (S56))) x1 x2 x3).bind fun bt360 => (if 0 ≤ (wrap64 (x13 - x4)) then (if (wrap64 (x13 - x4)) ≤ (x0.length : Int) then ((valiselaw21_cheapest.f k (x0.take ((wrap64 (x13 - x4)) : Int).toNat) x1 x2 x3).bind fun bt363 => (if bt360.2 = true then (if bt363.2 = true then (some (decide (x14 ≤ (wrap64 (bt363.1 + bt360.1))))) else (some false)) else (some false))) else (none)) else (none))) else (some true)))
end
def valiselaw21_SqueezeLast.f (k : Nat) (l0 : List Int) (a1 : Int) (l2 : List Int) (l3 : List Int) (a4 : Int) (a5 : Int) : Option (Bool) := (valiselaw21_refused.f (l0.length : Int) a1 l2 l3).bind fun t322 => (if t322 = 0 then ((valiselaw21_cheapest.f k l0 a1 l2 l3).bind fun bt323 => ((valiselaw21_clone.f l0).bind fun t325 => ((valiselaw21_ints.f l2).bind fun t328 => ((valiselaw21_ints.f l3).bind fun t331 => ((squeeze_Cheapest.f t325 a1 t328 t331).bind fun bt334 => (if bt323.2 = true then (valiselaw21_SqueezeLast.j0 k l0 a1 l2 l3 a4 a5 (l0.length : Int) bt323.1 bt334.1 (bt334.2 != 0)) else (valiselaw21_SqueezeLast.j0 k l0 a1 l2 l3 a4 a5 (l0.length : Int) bt323.1 bt334.1 true))))))) else (some true))
theorem valiselaw21_SqueezeLast.mono_l : ∀ k, (∀ y0 y1 y2 y3 y4 y5 y6 y7 y8 y9, LeO (valiselaw21_SqueezeLast.j0 k y0 y1 y2 y3 y4 y5 y6 y7 y8 y9) (valiselaw21_SqueezeLast.j0 (k + 1) y0 y1 y2 y3 y4 y5 y6 y7 y8 y9)) ∧ (∀ y0 y1 y2 y3 y4 y5 y6 y7 y8 y9 y10 y11, LeO (valiselaw21_SqueezeLast.j1 k y0 y1 y2 y3 y4 y5 y6 y7 y8 y9 y10 y11) (valiselaw21_SqueezeLast.j1 (k + 1) y0 y1 y2 y3 y4 y5 y6 y7 y8 y9 y10 y11)) ∧ (∀ y0 y1 y2 y3 y4 y5 y6 y7 y8, LeO (valiselaw21_SqueezeLast.j2 k y0 y1 y2 y3 y4 y5 y6 y7 y8) (valiselaw21_SqueezeLast.j2 (k + 1) y0 y1 y2 y3 y4 y5 y6 y7 y8)) ∧ (∀ y0 y1 y2 y3 y4 y5 y6 y7 y8, LeO (valiselaw21_SqueezeLast.j3 k y0 y1 y2 y3 y4 y5 y6 y7 y8) (valiselaw21_SqueezeLast.j3 (k + 1) y0 y1 y2 y3 y4 y5 y6 y7 y8))
  | 0 => ⟨fun _ _ _ _ _ _ _ _ _ _ r h => by simp [valiselaw21_SqueezeLast.j0] at h, fun _ _ _ _ _ _ _ _ _ _ _ _ r h => by simp [valiselaw21_SqueezeLast.j1] at h, fun _ _ _ _ _ _ _ _ _ r h => by simp [valiselaw21_SqueezeLast.j2] at h, fun _ _ _ _ _ _ _ _ _ r h => by simp [valiselaw21_SqueezeLast.j3] at h⟩
  | k + 1 => by
    obtain ⟨ih0, ih1, ih2, ih3⟩ := valiselaw21_SqueezeLast.mono_l k
    refine ⟨?_, ?_, ?_, ?_⟩
    · intro y0 y1 y2 y3 y4 y5 y6 y7 y8 y9
      unfold valiselaw21_SqueezeLast.j0
      repeat' first
      | (with_reducible exact ih0 _ _ _ _ _ _ _ _ _ _)
      | (with_reducible exact ih1 _ _ _ _ _ _ _ _ _ _ _ _)
      | (with_reducible exact ih2 _ _ _ _ _ _ _ _ _)
      | (with_reducible exact ih3 _ _ _ _ _ _ _ _ _)
      | (with_reducible exact valiselaw21_cheapest.mono _ _ _ _ _)
      | (with_reducible exact valiselaw21_costs.mono _ _ _ _ _)
      | (with_reducible exact valiselaw21_fits.mono _ _ _ _ _)
      | (with_reducible exact LeO.refl _)
      | (with_reducible exact LeO.none _)
      | (with_reducible refine LeO.ite ?_ ?_)
      | (with_reducible refine LeO.bind ?_ (fun _ => ?_))
      | exact ih0 _ _ _ _ _ _ _ _ _ _
      | exact ih1 _ _ _ _ _ _ _ _ _ _ _ _
      | exact ih2 _ _ _ _ _ _ _ _ _
      | exact ih3 _ _ _ _ _ _ _ _ _
      | exact valiselaw21_cheapest.mono _ _ _ _ _
      | exact valiselaw21_costs.mono _ _ _ _ _
      | exact valiselaw21_fits.mono _ _ _ _ _
      | exact LeO.none _
      | refine LeO.ite ?_ ?_
      | refine LeO.bind ?_ (fun _ => ?_)
    · intro y0 y1 y2 y3 y4 y5 y6 y7 y8 y9 y10 y11
      unfold valiselaw21_SqueezeLast.j1
      repeat' first
      | (with_reducible exact ih0 _ _ _ _ _ _ _ _ _ _)
      | (with_reducible exact ih1 _ _ _ _ _ _ _ _ _ _ _ _)
      | (with_reducible exact ih2 _ _ _ _ _ _ _ _ _)
      | (with_reducible exact ih3 _ _ _ _ _ _ _ _ _)
      | (with_reducible exact valiselaw21_cheapest.mono _ _ _ _ _)
      | (with_reducible exact valiselaw21_costs.mono _ _ _ _ _)
      | (with_reducible exact valiselaw21_fits.mono _ _ _ _ _)
      | (with_reducible exact LeO.refl _)
      | (with_reducible exact LeO.none _)
      | (with_reducible refine LeO.ite ?_ ?_)
      | (with_reducible refine LeO.bind ?_ (fun _ => ?_))
      | exact ih0 _ _ _ _ _ _ _ _ _ _
      | exact ih1 _ _ _ _ _ _ _ _ _ _ _ _
      | exact ih2 _ _ _ _ _ _ _ _ _
      | exact ih3 _ _ _ _ _ _ _ _ _
      | exact valiselaw21_cheapest.mono _ _ _ _ _
      | exact valiselaw21_costs.mono _ _ _ _ _
      | exact valiselaw21_fits.mono _ _ _ _ _
      | exact LeO.none _
      | refine LeO.ite ?_ ?_
      | refine LeO.bind ?_ (fun _ => ?_)
    · intro y0 y1 y2 y3 y4 y5 y6 y7 y8
      unfold valiselaw21_SqueezeLast.j2
      repeat' first
      | (with_reducible exact ih0 _ _ _ _ _ _ _ _ _ _)
      | (with_reducible exact ih1 _ _ _ _ _ _ _ _ _ _ _ _)
      | (with_reducible exact ih2 _ _ _ _ _ _ _ _ _)
      | (with_reducible exact ih3 _ _ _ _ _ _ _ _ _)
      | (with_reducible exact valiselaw21_cheapest.mono _ _ _ _ _)
      | (with_reducible exact valiselaw21_costs.mono _ _ _ _ _)
      | (with_reducible exact valiselaw21_fits.mono _ _ _ _ _)
      | (with_reducible exact LeO.refl _)
      | (with_reducible exact LeO.none _)
      | (with_reducible refine LeO.ite ?_ ?_)
      | (with_reducible refine LeO.bind ?_ (fun _ => ?_))
      | exact ih0 _ _ _ _ _ _ _ _ _ _
      | exact ih1 _ _ _ _ _ _ _ _ _ _ _ _
      | exact ih2 _ _ _ _ _ _ _ _ _
      | exact ih3 _ _ _ _ _ _ _ _ _
      | exact valiselaw21_cheapest.mono _ _ _ _ _
      | exact valiselaw21_costs.mono _ _ _ _ _
      | exact valiselaw21_fits.mono _ _ _ _ _
      | exact LeO.none _
      | refine LeO.ite ?_ ?_
      | refine LeO.bind ?_ (fun _ => ?_)
    · intro y0 y1 y2 y3 y4 y5 y6 y7 y8
      unfold valiselaw21_SqueezeLast.j3
      repeat' first
      | (with_reducible exact ih0 _ _ _ _ _ _ _ _ _ _)
      | (with_reducible exact ih1 _ _ _ _ _ _ _ _ _ _ _ _)
      | (with_reducible exact ih2 _ _ _ _ _ _ _ _ _)
      | (with_reducible exact ih3 _ _ _ _ _ _ _ _ _)
      | (with_reducible exact valiselaw21_cheapest.mono _ _ _ _ _)
      | (with_reducible exact valiselaw21_costs.mono _ _ _ _ _)
      | (with_reducible exact valiselaw21_fits.mono _ _ _ _ _)
      | (with_reducible exact LeO.refl _)
      | (with_reducible exact LeO.none _)
      | (with_reducible refine LeO.ite ?_ ?_)
      | (with_reducible refine LeO.bind ?_ (fun _ => ?_))
      | exact ih0 _ _ _ _ _ _ _ _ _ _
      | exact ih1 _ _ _ _ _ _ _ _ _ _ _ _
      | exact ih2 _ _ _ _ _ _ _ _ _
      | exact ih3 _ _ _ _ _ _ _ _ _
      | exact valiselaw21_cheapest.mono _ _ _ _ _
      | exact valiselaw21_costs.mono _ _ _ _ _
      | exact valiselaw21_fits.mono _ _ _ _ _
      | exact LeO.none _
      | refine LeO.ite ?_ ?_
      | refine LeO.bind ?_ (fun _ => ?_)
theorem valiselaw21_SqueezeLast.mono : ∀ a0 a1 a2 a3 a4 a5 k, LeO (valiselaw21_SqueezeLast.f k a0 a1 a2 a3 a4 a5) (valiselaw21_SqueezeLast.f (k + 1) a0 a1 a2 a3 a4 a5) := by
  intro a0 a1 a2 a3 a4 a5 k
  obtain ⟨ih0, ih1, ih2, ih3⟩ := valiselaw21_SqueezeLast.mono_l k
  unfold valiselaw21_SqueezeLast.f
  repeat' first
      | (with_reducible exact ih0 _ _ _ _ _ _ _ _ _ _)
      | (with_reducible exact ih1 _ _ _ _ _ _ _ _ _ _ _ _)
      | (with_reducible exact ih2 _ _ _ _ _ _ _ _ _)
      | (with_reducible exact ih3 _ _ _ _ _ _ _ _ _)
      | (with_reducible exact valiselaw21_cheapest.mono _ _ _ _ _)
      | (with_reducible exact valiselaw21_costs.mono _ _ _ _ _)
      | (with_reducible exact valiselaw21_fits.mono _ _ _ _ _)
      | (with_reducible exact LeO.refl _)
      | (with_reducible exact LeO.none _)
      | (with_reducible refine LeO.ite ?_ ?_)
      | (with_reducible refine LeO.bind ?_ (fun _ => ?_))
      | exact ih0 _ _ _ _ _ _ _ _ _ _
      | exact ih1 _ _ _ _ _ _ _ _ _ _ _ _
      | exact ih2 _ _ _ _ _ _ _ _ _
      | exact ih3 _ _ _ _ _ _ _ _ _
      | exact valiselaw21_cheapest.mono _ _ _ _ _
      | exact valiselaw21_costs.mono _ _ _ _ _
      | exact valiselaw21_fits.mono _ _ _ _ _
      | exact LeO.none _
      | refine LeO.ite ?_ ?_
      | refine LeO.bind ?_ (fun _ => ?_)
set_option maxHeartbeats 8000000 in
set_option maxRecDepth 100000 in
theorem valiselaw21_SqueezeLast.calls (k : Nat) (A0 : Option Addr) (c0 : Nat) (l0 : List Int) (a1 : Int) (A2 : Option Addr) (c2 : Nat) (l2 : List Int) (A3 : Option Addr) (c3 : Nat) (l3 : List Int) (a4 : Int) (a5 : Int) (r : Bool) (w : World) (hr0 : Kd.C (Kd.int .u8) w A0 l0.length l0) (hc0 : l0.length ≤ c0) (hr2 : Kd.C (Kd.int .i64) w A2 l2.length l2) (hc2 : l2.length ≤ c2) (hr3 : Kd.C (Kd.int .i64) w A3 l3.length l3) (hc3 : l3.length ≤ c3) (hG : Tabs w) (h : valiselaw21_SqueezeLast.f k l0 a1 l2 l3 a4 a5 = some r) :
    Calls Tryd.prog 6 #[.slice A0 l0.length c0, .int .i64 a1, .slice A2 l2.length c2, .slice A3 l3.length c3, .int .i64 a4, .int .i64 a5] w fun e w' => e = .returned (.bool r) ∧ Below w.heap.size w w' := by
  have hu56 := Tryd.underlying56
  have HG := Aside0.mk hG
  clear hG
  have HR0 := Aside0.mk hr0
  have HC0 := Aside0.mk hc0
  clear hr0 hc0
  have HR2 := Aside0.mk hr2
  have HC2 := Aside0.mk hc2
  clear hr2 hc2
  have HR3 := Aside0.mk hr3
  have HC3 := Aside0.mk hc3
  clear hr3 hc3
  have HB := Aside0.mk (Below.refl w.heap.size w)
  have H : ((valiselaw21_refused.f (l0.length : Int) a1 l2 l3).bind fun t322 => (if t322 = 0 then ((valiselaw21_cheapest.f k l0 a1 l2 l3).bind fun bt323 => ((valiselaw21_clone.f l0).bind fun t325 => ((valiselaw21_ints.f l2).bind fun t328 => ((valiselaw21_ints.f l3).bind fun t331 => ((squeeze_Cheapest.f t325 a1 t328 t331).bind fun bt334 => (if bt323.2 = true then (valiselaw21_SqueezeLast.j0 k l0 a1 l2 l3 a4 a5 (l0.length : Int) bt323.1 bt334.1 (bt334.2 != 0)) else (valiselaw21_SqueezeLast.j0 k l0 a1 l2 l3 a4 a5 (l0.length : Int) bt323.1 bt334.1 true))))))) else (some true))) = some r := h
  clear h
  replace H := Option.bind_eq_some_iff.mp H
  obtain ⟨t322, A70, H⟩ := H
  replace H : (if t322 = 0 then ((valiselaw21_cheapest.f k l0 a1 l2 l3).bind fun bt323 => ((valiselaw21_clone.f l0).bind fun t325 => ((valiselaw21_ints.f l2).bind fun t328 => ((valiselaw21_ints.f l3).bind fun t331 => ((squeeze_Cheapest.f t325 a1 t328 t331).bind fun bt334 => (if bt323.2 = true then (valiselaw21_SqueezeLast.j0 k l0 a1 l2 l3 a4 a5 (l0.length : Int) bt323.1 bt334.1 (bt334.2 != 0)) else (valiselaw21_SqueezeLast.j0 k l0 a1 l2 l3 a4 a5 (l0.length : Int) bt323.1 bt334.1 true))))))) else (some true)) = some r := H
  have A7 := Aside0.mk A70
  clear A70
  by_cases c8 : t322 = 0
  · rw [if_pos c8] at H
    have c8b0 : (t322 == 0) = true := beq_iff_eq.mpr c8
    have c8b1 : (t322 != 0) = false := bne_eq_false_iff_eq.mpr c8
    clear c8
    replace H := Option.bind_eq_some_iff.mp H
    obtain ⟨⟨t323, t324⟩, A90, H⟩ := H
    replace H : ((valiselaw21_clone.f l0).bind fun t325 => ((valiselaw21_ints.f l2).bind fun t328 => ((valiselaw21_ints.f l3).bind fun t331 => ((squeeze_Cheapest.f t325 a1 t328 t331).bind fun bt334 => (if t324 = true then (valiselaw21_SqueezeLast.j0 k l0 a1 l2 l3 a4 a5 (l0.length : Int) t323 bt334.1 (bt334.2 != 0)) else (valiselaw21_SqueezeLast.j0 k l0 a1 l2 l3 a4 a5 (l0.length : Int) t323 bt334.1 true)))))) = some r := H
    have A9 := Aside0.mk A90
    clear A90
    replace H := Option.bind_eq_some_iff.mp H
    obtain ⟨t325, A100, H⟩ := H
    replace H : ((valiselaw21_ints.f l2).bind fun t328 => ((valiselaw21_ints.f l3).bind fun t331 => ((squeeze_Cheapest.f t325 a1 t328 t331).bind fun bt334 => (if t324 = true then (valiselaw21_SqueezeLast.j0 k l0 a1 l2 l3 a4 a5 (l0.length : Int) t323 bt334.1 (bt334.2 != 0)) else (valiselaw21_SqueezeLast.j0 k l0 a1 l2 l3 a4 a5 (l0.length : Int) t323 bt334.1 true))))) = some r := H
    have A10 := Aside0.mk A100
    clear A100
    replace H := Option.bind_eq_some_iff.mp H
    obtain ⟨t328, A110, H⟩ := H
    replace H : ((valiselaw21_ints.f l3).bind fun t331 => ((squeeze_Cheapest.f t325 a1 t328 t331).bind fun bt334 => (if t324 = true then (valiselaw21_SqueezeLast.j0 k l0 a1 l2 l3 a4 a5 (l0.length : Int) t323 bt334.1 (bt334.2 != 0)) else (valiselaw21_SqueezeLast.j0 k l0 a1 l2 l3 a4 a5 (l0.length : Int) t323 bt334.1 true)))) = some r := H
    have A11 := Aside0.mk A110
    clear A110
    replace H := Option.bind_eq_some_iff.mp H
    obtain ⟨t331, A120, H⟩ := H
    replace H : ((squeeze_Cheapest.f t325 a1 t328 t331).bind fun bt334 => (if t324 = true then (valiselaw21_SqueezeLast.j0 k l0 a1 l2 l3 a4 a5 (l0.length : Int) t323 bt334.1 (bt334.2 != 0)) else (valiselaw21_SqueezeLast.j0 k l0 a1 l2 l3 a4 a5 (l0.length : Int) t323 bt334.1 true))) = some r := H
    have A12 := Aside0.mk A120
    clear A120
    replace H := Option.bind_eq_some_iff.mp H
    obtain ⟨⟨t334, t335⟩, A130, H⟩ := H
    replace H : (if t324 = true then (valiselaw21_SqueezeLast.j0 k l0 a1 l2 l3 a4 a5 (l0.length : Int) t323 t334 (t335 != 0)) else (valiselaw21_SqueezeLast.j0 k l0 a1 l2 l3 a4 a5 (l0.length : Int) t323 t334 true)) = some r := H
    have A13 := Aside0.mk A130
    clear A130
    have HC14 := Aside0.mk H
    clear H
    go_enter Tryd.func6, Tryd.ntmps6
    go_upto_region 6 with (first | ((with_reducible refine gate_callee (f := 26) rfl ?_); refine goesL_ (some 34) rfl rfl Tryd.func26 (by kernel_rfl) rfl #[.int .i64 (l0.length : Int), .int .i64 a1, .slice A2 l2.length c2, .slice A3 l3.length c3] rfl (by (try simp only [List.map_toArray, List.map_cons, List.map_nil]); first | done | rfl | (simp only [List.length_drop, List.length_take]; rfl)) ?_; (with_reducible refine (valiselaw21_refused.calls (l0.length : Int) a1 _ _ l2 _ _ l3 t322 _ ?side1 ?side2 ?side3 ?side4 A7.out).mono ?_); (case side1 => repeat (first | exact HR2.out | (with_reducible refine Kd.C_alloc ?_ _) | (with_reducible refine Kd.C_drewN ?_ _) | (with_reducible refine Kd.C_drew ?_))); (case side2 => exact HC2.out); (case side3 => repeat (first | exact HR3.out | (with_reducible refine Kd.C_alloc ?_ _) | (with_reducible refine Kd.C_drewN ?_ _) | (with_reducible refine Kd.C_drew ?_))); (case side4 => exact HC3.out); rintro e w' ⟨rfl, ⟨nd, rfl⟩⟩; refine ⟨_, rfl, ?_⟩) | ((with_reducible refine gate_callee (f := 27) rfl ?_); refine goesL_ (some 43) rfl rfl Tryd.func27 (by kernel_rfl) rfl #[.slice A0 l0.length c0, .int .i64 a1, .slice A2 l2.length c2, .slice A3 l3.length c3] rfl (by (try simp only [List.map_toArray, List.map_cons, List.map_nil]); first | done | rfl | (simp only [List.length_drop, List.length_take]; rfl)) ?_; (with_reducible refine (valiselaw21_cheapest.calls k _ _ l0 a1 _ _ l2 _ _ l3 t323 t324 _ ?side1 ?side2 ?side3 ?side4 ?side5 ?side6 ?side7 A9.out).mono ?_); (case side1 => repeat (first | exact HR0.out | (with_reducible refine Kd.C_alloc ?_ _) | (with_reducible refine Kd.C_drewN ?_ _) | (with_reducible refine Kd.C_drew ?_))); (case side2 => exact HC0.out); (case side3 => repeat (first | exact HR2.out | (with_reducible refine Kd.C_alloc ?_ _) | (with_reducible refine Kd.C_drewN ?_ _) | (with_reducible refine Kd.C_drew ?_))); (case side4 => exact HC2.out); (case side5 => repeat (first | exact HR3.out | (with_reducible refine Kd.C_alloc ?_ _) | (with_reducible refine Kd.C_drewN ?_ _) | (with_reducible refine Kd.C_drew ?_))); (case side6 => exact HC3.out); (case side7 => repeat (first | exact HG.out | exact (Tabs.below HG.out (by repeat (first | (with_reducible first | exact HB.out | apply below_alloc | apply pw_below_drewN | apply below_drew1) | exact HB.out))) | (with_reducible refine Tabs.alloc ?_ _) | (with_reducible refine Tabs.drewN ?_ _) | (with_reducible refine Tabs.drew ?_))); rintro e w15 ⟨rfl, hb⟩; refine ⟨_, rfl, ?_⟩; have n0_ := Aside0.mk (below_step (by repeat (first | (with_reducible first | exact HB.out | apply below_alloc | apply pw_below_drewN | apply below_drew1) | exact HB.out)) hb); clear HB; have HB := n0_; clear n0_; (try clear hb); (try clear hb2); (try clear hk); (try clear hi)) | ((with_reducible refine gate_callee (f := 22) rfl ?_); refine goesL_ (some 48) rfl rfl Tryd.func22 (by kernel_rfl) rfl #[.slice A0 l0.length c0] rfl (by (try simp only [List.map_toArray, List.map_cons, List.map_nil]); first | done | rfl | (simp only [List.length_drop, List.length_take]; rfl)) ?_; (with_reducible refine (valiselaw21_clone.calls _ _ l0 t325 _ ?side1 ?side2 A10.out).mono ?_); (case side1 => repeat (first | exact (Kd.C_below HR0.out HB.out) | (with_reducible refine Kd.C_alloc ?_ _) | (with_reducible refine Kd.C_drewN ?_ _) | (with_reducible refine Kd.C_drew ?_))); (case side2 => exact HC0.out); rintro e w16 ⟨v326, rfl, ho0, hb⟩; refine ⟨_, rfl, ?_⟩; have n0_ := Aside0.mk (Kd.R_lower ho0 (below_size (by repeat (first | (with_reducible first | exact HB.out | apply below_alloc | apply pw_below_drewN | apply below_drew1) | exact HB.out)))); have n1_ := Aside0.mk (below_step (by repeat (first | (with_reducible first | exact HB.out | apply below_alloc | apply pw_below_drewN | apply below_drew1) | exact HB.out)) hb); clear HB; have HO327 := n0_; have HB := n1_; clear n0_ n1_; (try clear hb); (try clear hb2); (try clear hk); (try clear hi); (try clear ho0)) | ((with_reducible refine gate_callee (f := 16) rfl ?_); refine goesL_ (some 51) rfl rfl Tryd.func16 (by kernel_rfl) rfl #[.slice A2 l2.length c2] rfl (by (try simp only [List.map_toArray, List.map_cons, List.map_nil]); first | done | rfl | (simp only [List.length_drop, List.length_take]; rfl)) ?_; (with_reducible refine (valiselaw21_ints.calls _ _ l2 t328 _ ?side1 ?side2 A11.out).mono ?_); (case side1 => repeat (first | exact (Kd.C_below HR2.out HB.out) | (with_reducible refine Kd.C_alloc ?_ _) | (with_reducible refine Kd.C_drewN ?_ _) | (with_reducible refine Kd.C_drew ?_))); (case side2 => exact HC2.out); rintro e w17 ⟨v329, rfl, ho0, hb⟩; refine ⟨_, rfl, ?_⟩; have n0_ := Aside0.mk (Kd.R_below (by (with_reducible repeat (first | apply Kd.R_alloc | apply Kd.R_drewN | apply Kd.R_drew)); exact HO327.out) hb); have n1_ := Aside0.mk (Kd.R_lower ho0 (below_size (by repeat (first | (with_reducible first | exact HB.out | apply below_alloc | apply pw_below_drewN | apply below_drew1) | exact HB.out)))); have n2_ := Aside0.mk (below_step (by repeat (first | (with_reducible first | exact HB.out | apply below_alloc | apply pw_below_drewN | apply below_drew1) | exact HB.out)) hb); clear HO327; clear HB; have HO327 := n0_; have HO330 := n1_; have HB := n2_; clear n0_ n1_ n2_; (try clear hb); (try clear hb2); (try clear hk); (try clear hi); (try clear ho0)) | ((with_reducible refine gate_callee (f := 16) rfl ?_); refine goesL_ (some 53) rfl rfl Tryd.func16 (by kernel_rfl) rfl #[.slice A3 l3.length c3] rfl (by (try simp only [List.map_toArray, List.map_cons, List.map_nil]); first | done | rfl | (simp only [List.length_drop, List.length_take]; rfl)) ?_; (with_reducible refine (valiselaw21_ints.calls _ _ l3 t331 _ ?side1 ?side2 A12.out).mono ?_); (case side1 => repeat (first | exact (Kd.C_below HR3.out HB.out) | (with_reducible refine Kd.C_alloc ?_ _) | (with_reducible refine Kd.C_drewN ?_ _) | (with_reducible refine Kd.C_drew ?_))); (case side2 => exact HC3.out); rintro e w18 ⟨v332, rfl, ho0, hb⟩; refine ⟨_, rfl, ?_⟩; have n0_ := Aside0.mk (Kd.R_below (by (with_reducible repeat (first | apply Kd.R_alloc | apply Kd.R_drewN | apply Kd.R_drew)); exact HO327.out) hb); have n1_ := Aside0.mk (Kd.R_elder' (by (with_reducible repeat (first | apply Kd.R_alloc | apply Kd.R_drewN | apply Kd.R_drew)); exact HO330.out) (Kd.R_base ho0) hb); have n2_ := Aside0.mk (Kd.R_lower (Kd.R_new' ho0 (Kd.R_lt (by (with_reducible repeat (first | apply Kd.R_alloc | apply Kd.R_drewN | apply Kd.R_drew)); exact HO330.out))) (below_size (by repeat (first | (with_reducible first | exact HB.out | apply below_alloc | apply pw_below_drewN | apply below_drew1) | exact HB.out)))); have n3_ := Aside0.mk (below_step (by repeat (first | (with_reducible first | exact HB.out | apply below_alloc | apply pw_below_drewN | apply below_drew1) | exact HB.out)) hb); clear HO327; clear HO330; clear HB; have HO327 := n0_; have HO330 := n1_; have HO333 := n2_; have HB := n3_; clear n0_ n1_ n2_ n3_; (try clear hb); (try clear hb2); (try clear hk); (try clear hi); (try clear ho0); obtain ⟨Ao19, co19, eo19⟩ := Kd.R_slice HO327.out; subst eo19; obtain ⟨Ao20, co20, eo20⟩ := Kd.R_slice HO330.out; subst eo20; obtain ⟨Ao21, co21, eo21⟩ := Kd.R_slice HO333.out; subst eo21) | ((with_reducible refine gate_callee (f := 23) rfl ?_); refine goesL_ (some 54) rfl rfl Tryd.func23 (by kernel_rfl) rfl #[.slice Ao19 t325.length co19, .int .i64 a1, .slice Ao20 t328.length co20, .slice Ao21 t331.length co21] rfl (by (try simp only [List.map_toArray, List.map_cons, List.map_nil]); first | done | rfl | (simp only [List.length_drop, List.length_take]; rfl)) ?_; (with_reducible refine (squeeze_Cheapest.calls _ _ t325 a1 _ _ t328 _ _ t331 t334 t335 _ ?side1 ?side2 ?side3 ?side4 ?side5 ?side6 ?side7 A13.out).mono ?_); (case side1 => repeat (first | exact (Kd.R_reads' HO327.out).2.2 | (with_reducible refine Kd.C_alloc ?_ _) | (with_reducible refine Kd.C_drewN ?_ _) | (with_reducible refine Kd.C_drew ?_))); (case side2 => exact (Kd.R_reads' HO327.out).2.1); (case side3 => repeat (first | exact (Kd.R_reads' HO330.out).2.2 | (with_reducible refine Kd.C_alloc ?_ _) | (with_reducible refine Kd.C_drewN ?_ _) | (with_reducible refine Kd.C_drew ?_))); (case side4 => exact (Kd.R_reads' HO330.out).2.1); (case side5 => repeat (first | exact (Kd.R_reads' HO333.out).2.2 | (with_reducible refine Kd.C_alloc ?_ _) | (with_reducible refine Kd.C_drewN ?_ _) | (with_reducible refine Kd.C_drew ?_))); (case side6 => exact (Kd.R_reads' HO333.out).2.1); (case side7 => repeat (first | exact HG.out | exact (Tabs.below HG.out (by repeat (first | (with_reducible first | exact HB.out | apply below_alloc | apply pw_below_drewN | apply below_drew1) | exact HB.out))) | (with_reducible refine Tabs.alloc ?_ _) | (with_reducible refine Tabs.drewN ?_ _) | (with_reducible refine Tabs.drew ?_))); rintro e w22 ⟨v336, rfl, ho0, hb⟩; refine ⟨_, rfl, ?_⟩; have n0_ := Aside0.mk (Kd.R_below (by (with_reducible repeat (first | apply Kd.R_alloc | apply Kd.R_drewN | apply Kd.R_drew)); exact HO327.out) hb); have n1_ := Aside0.mk (Kd.R_below (by (with_reducible repeat (first | apply Kd.R_alloc | apply Kd.R_drewN | apply Kd.R_drew)); exact HO330.out) hb); have n2_ := Aside0.mk (Kd.R_below (by (with_reducible repeat (first | apply Kd.R_alloc | apply Kd.R_drewN | apply Kd.R_drew)); exact HO333.out) hb); have n3_ := Aside0.mk (Kd.R_lower ho0 (below_size (by repeat (first | (with_reducible first | exact HB.out | apply below_alloc | apply pw_below_drewN | apply below_drew1) | exact HB.out)))); have n4_ := Aside0.mk (below_step (by repeat (first | (with_reducible first | exact HB.out | apply below_alloc | apply pw_below_drewN | apply below_drew1) | exact HB.out)) hb); clear HO327; clear HO330; clear HO333; clear HB; have HO327 := n0_; have HO330 := n1_; have HO333 := n2_; have HO337 := n3_; have HB := n4_; clear n0_ n1_ n2_ n3_ n4_; (try clear hb); (try clear hb2); (try clear hk); (try clear hi); (try clear ho0)))
    (try simp only [Act.put, List.setIfInBounds_toArray, List.set_cons_zero, List.set_cons_succ])
    go_cut [62] (fun v62 wc => ∃ (kq : Nat) (x62_13 : Bool), v62 = .bool x62_13 ∧ Aside0 (valiselaw21_SqueezeLast.j0 kq l0 a1 l2 l3 a4 a5 (l0.length : Int) t323 t334 x62_13 = some r) ∧ Aside0 (kq ≤ k) ∧ Aside0 (Kd.R k56 56 wc w.heap.size (fun _ => True) v336 t334) ∧ Aside0 (Below w.heap.size w wc))
    case first =>
      have H := HC14.out
      clear HC14
      by_cases c23 : t324 = true
      · subst c23
        have H1 : (valiselaw21_SqueezeLast.j0 k l0 a1 l2 l3 a4 a5 (l0.length : Int) t323 t334 (t335 != 0)) = some r := by rw [if_pos rfl] at H; exact H
        clear H
        have H := H1
        clear H1
        have H' := Aside0.mk H
        clear H
        go_wp2
        go_meet
        case rel => exact ⟨_, ((t335 != 0)), (by first | rfl | (simp; done) | (simp [*]; done)), H', ⟨by first | omega | exact Nat.le_refl _⟩, ⟨by (with_reducible repeat (first | apply Kd.R_alloc | apply Kd.R_drewN | apply Kd.R_drew)); exact HO337.out⟩, ⟨by repeat (first | (with_reducible first | exact HB.out | apply below_alloc | apply pw_below_drewN | apply below_drew1) | exact HB.out)⟩⟩
      · replace c23 := Bool.eq_false_iff.mpr c23
        subst c23
        have H1 : (valiselaw21_SqueezeLast.j0 k l0 a1 l2 l3 a4 a5 (l0.length : Int) t323 t334 true) = some r := by rw [if_neg (show ¬ (false = true) by decide)] at H; exact H
        clear H
        have H := H1
        clear H1
        have H' := Aside0.mk H
        clear H
        go_wp2
        go_meet
        case rel => exact ⟨_, (true), (by first | rfl | (simp; done) | (simp [*]; done)), H', ⟨by first | omega | exact Nat.le_refl _⟩, ⟨by (with_reducible repeat (first | apply Kd.R_alloc | apply Kd.R_drewN | apply Kd.R_drew)); exact HO337.out⟩, ⟨by repeat (first | (with_reducible first | exact HB.out | apply below_alloc | apply pw_below_drewN | apply below_drew1) | exact HB.out)⟩⟩
    case rest =>
      clear HC14
      try clear c1
      try clear c2
      try clear p2
      try clear c3
      try clear c6
      try clear c8
      try clear c8b0
      try clear c8b1
      try clear c16
      try clear c22
      try clear c23
      obtain ⟨kq, x62_13, rfl, HA, HJ13, HO_16, HB⟩ := hcut
      cases kq with
      | zero => exact absurd HA.out (by simp [valiselaw21_SqueezeLast.j0])
      | succ kj13 =>
        have H := HA.out
        clear HA
        simp only [valiselaw21_SqueezeLast.j0] at H
        by_cases c24 : x62_13 = true
        · subst c24
          have H1 : (some false) = some r := by rw [if_pos rfl] at H; exact H
          clear H
          have H := H1
          clear H1
          obtain rfl := Option.some.inj H
          go_wp2
          go_ret
          exact ⟨by first | rfl | (simp [errW_none, errW_some] <;> rfl) | (simp [*, errW_none, errW_some] <;> rfl), by repeat (first | (with_reducible first | exact HB.out | apply below_alloc | apply pw_below_drewN | apply below_drew1) | exact HB.out)⟩
        · replace c24 := Bool.eq_false_iff.mpr c24
          subst c24
          have H1 : (if (l0.length : Int) = 0 then (if t323 = 0 then (some ((t334.length : Int) == 0)) else (some false)) else (if (t334.length : Int) = 0 then (some false) else (if 0 ≤ (wrap64 ((t334.length : Int) - 1)) then (if (wrap64 ((t334.length : Int) - 1)) < (t334.length : Int) then ((valiselaw21_span.f ((rd_T56 t334 (wrap64 ((t334.length : Int) - 1))).f0) ((rd_T56 t334 (wrap64 ((t334.length : Int) - 1))).f1) ((rd_T56 t334 (wrap64 ((t334.length : Int) - 1))).f2)).bind fun t340 => (if t340 < 1 then (valiselaw21_SqueezeLast.j1 kj13 l0 a1 l2 l3 a4 a5 (l0.length : Int) t323 true ((rd_T56 t334 (wrap64 ((t334.length : Int) - 1))).f0) ((rd_T56 t334 (wrap64 ((t334.length : Int) - 1))).f1) ((rd_T56 t334 (wrap64 ((t334.length : Int) - 1))).f2)) else ((valiselaw21_span.f ((rd_T56 t334 (wrap64 ((t334.length : Int) - 1))).f0) ((rd_T56 t334 (wrap64 ((t334.length : Int) - 1))).f1) ((rd_T56 t334 (wrap64 ((t334.length : Int) - 1))).f2)).bind fun t341 => (valiselaw21_SqueezeLast.j1 kj13 l0 a1 l2 l3 a4 a5 (l0.length : Int) t323 (decide (t341 > (l0.length : Int))) ((rd_T56 t334 (wrap64 ((t334.length : Int) - 1))).f0) ((rd_T56 t334 (wrap64 ((t334.length : Int) - 1))).f1) ((rd_T56 t334 (wrap64 ((t334.length : Int) - 1))).f2))))) else (none)) else (none)))) = some r := by rw [if_neg (show ¬ (false = true) by decide)] at H; exact H
          clear H
          have H := H1
          clear H1
          by_cases c25 : (l0.length : Int) = 0
          · rw [if_pos c25] at H
            have c25b0 : ((l0.length : Int) == 0) = true := beq_iff_eq.mpr c25
            have c25b1 : ((l0.length : Int) != 0) = false := bne_eq_false_iff_eq.mpr c25
            clear c25
            by_cases c26 : t323 = 0
            · rw [if_pos c26] at H
              have c26b0 : (t323 == 0) = true := beq_iff_eq.mpr c26
              have c26b1 : (t323 != 0) = false := bne_eq_false_iff_eq.mpr c26
              clear c26
              obtain rfl := Option.some.inj H
              obtain ⟨Ao27, co27, eo27⟩ := Kd.R_slice HO_16.out
              subst eo27
              go_wp2
              go_ret
              exact ⟨by first | rfl | (simp [errW_none, errW_some] <;> rfl) | (simp [*, errW_none, errW_some] <;> rfl), by repeat (first | (with_reducible first | exact HB.out | apply below_alloc | apply pw_below_drewN | apply below_drew1) | exact HB.out)⟩
            · rw [if_neg c26] at H
              have c26b0 : (t323 == 0) = false := beq_eq_false_iff_ne.mpr c26
              have c26b1 : (t323 != 0) = true := bne_iff_ne.mpr c26
              obtain rfl := Option.some.inj H
              go_wp2
              go_ret
              exact ⟨by first | rfl | (simp [errW_none, errW_some] <;> rfl) | (simp [*, errW_none, errW_some] <;> rfl), by repeat (first | (with_reducible first | exact HB.out | apply below_alloc | apply pw_below_drewN | apply below_drew1) | exact HB.out)⟩
          · rw [if_neg c25] at H
            have c25b0 : ((l0.length : Int) == 0) = false := beq_eq_false_iff_ne.mpr c25
            have c25b1 : ((l0.length : Int) != 0) = true := bne_iff_ne.mpr c25
            have c25b2 : ¬ (l0 = []) := fun h_ => c25 (by rw [h_]; rfl)
            by_cases c28 : (t334.length : Int) = 0
            · rw [if_pos c28] at H
              have c28b0 : ((t334.length : Int) == 0) = true := beq_iff_eq.mpr c28
              have c28b1 : ((t334.length : Int) != 0) = false := bne_eq_false_iff_eq.mpr c28
              clear c28
              obtain rfl := Option.some.inj H
              obtain ⟨Ao29, co29, eo29⟩ := Kd.R_slice HO_16.out
              subst eo29
              go_wp2
              go_ret
              exact ⟨by first | rfl | (simp [errW_none, errW_some] <;> rfl) | (simp [*, errW_none, errW_some] <;> rfl), by repeat (first | (with_reducible first | exact HB.out | apply below_alloc | apply pw_below_drewN | apply below_drew1) | exact HB.out)⟩
            · rw [if_neg c28] at H
              have c28b0 : ((t334.length : Int) == 0) = false := beq_eq_false_iff_ne.mpr c28
              have c28b1 : ((t334.length : Int) != 0) = true := bne_iff_ne.mpr c28
              have c28b2 : ¬ (t334 = []) := fun h_ => c28 (by rw [h_]; rfl)
              obtain ⟨ji30, hji30⟩ : ∃ j_ : Int, (wrap64 ((t334.length : Int) - 1)) = j_ := ⟨_, rfl⟩
              replace H : (if 0 ≤ (ji30) then (if (ji30) < (t334.length : Int) then ((valiselaw21_span.f ((rd_T56 t334 (ji30)).f0) ((rd_T56 t334 (ji30)).f1) ((rd_T56 t334 (ji30)).f2)).bind fun t340 => (if t340 < 1 then (valiselaw21_SqueezeLast.j1 kj13 l0 a1 l2 l3 a4 a5 (l0.length : Int) t323 true ((rd_T56 t334 (ji30)).f0) ((rd_T56 t334 (ji30)).f1) ((rd_T56 t334 (ji30)).f2)) else ((valiselaw21_span.f ((rd_T56 t334 (ji30)).f0) ((rd_T56 t334 (ji30)).f1) ((rd_T56 t334 (ji30)).f2)).bind fun t341 => (valiselaw21_SqueezeLast.j1 kj13 l0 a1 l2 l3 a4 a5 (l0.length : Int) t323 (decide (t341 > (l0.length : Int))) ((rd_T56 t334 (ji30)).f0) ((rd_T56 t334 (ji30)).f1) ((rd_T56 t334 (ji30)).f2))))) else (none)) else (none)) = some r := by first | (rw [hji30] at H; exact H) | (simp only [hji30] at H ⊢; exact H)
              have hji30w : (IntKind.i64.wrap ((t334.length : Int) - 1)) = ji30 := (i64_w _).trans hji30
              by_cases c31 : 0 ≤ (ji30)
              · rw [if_pos c31] at H
                have c31b0 : decide (0 ≤ (ji30)) = true := decide_eq_true c31
                clear c31
                by_cases c32 : (ji30) < (t334.length : Int)
                · rw [if_pos c32] at H
                  have c32b0 : decide ((ji30) < (t334.length : Int)) = true := decide_eq_true c32
                  clear c32
                  have HC33 := Aside0.mk H
                  clear H
                  obtain ⟨Ao34, co34, eo34⟩ := Kd.R_slice HO_16.out
                  subst eo34
                  have p338 : 0 ≤ ((ji30) : Int) := of_decide_eq_true (by first | (with_reducible assumption) | assumption)
                  have q338 : (ji30) < (t334.length : Int) := of_decide_eq_true (by first | (with_reducible assumption) | assumption)
                  obtain ⟨ad338, e338, hx338_0, hx338_1, hx338_2⟩ := at_T56 (Kd.R_reads' HO_16.out).2.2 (ji30) p338 q338
                  cases e338
                  replace p338 := eq_true p338
                  replace q338 := eq_true q338
                  go_upto_region 13 with (first | ((with_reducible refine gate_dst (N := 18) rfl ?_); (try (refine gate_guard (by rfl) ?_; dsimp only)); refine box_event ?hg (N := 18) ?hd (cs := #[.int .i64 0, .int .i64 0, .int .u8 0]) (t := 56) ?hr ?_; (case hd => rfl); (case hg => rfl); (case hr => first | (go_simp; done) | (go_simp; rfl)); intro gb339 hg w35 hbox hb; have n0_ := Aside0.mk (Kd.R_below (Kd.R_elderB (by (with_reducible repeat (first | apply Kd.R_alloc | apply Kd.R_drewN | apply Kd.R_drew)); exact HO_16.out) gb339 (Nat.le_of_eq hg.symm)) hb); have n1_ := Aside0.mk (below_step (by repeat (first | (with_reducible first | exact HB.out | apply below_alloc | apply pw_below_drewN | apply below_drew1) | exact HB.out)) hb); have n2_ := Aside0.mk (hbox); have n3_ := Aside0.mk ((by rw [hg]; exact (below_size (by repeat (first | (with_reducible first | exact HB.out | apply below_alloc | apply pw_below_drewN | apply below_drew1) | exact HB.out))) : w.heap.size ≤ gb339)); have n4_ := Aside0.mk ((by rw [hg]; exact (below_size (by repeat (first | (with_reducible first | exact HB.out | apply below_alloc | apply pw_below_drewN | apply below_drew1) | exact HB.out))) : w.heap.size ≤ gb339)); clear HO_16; clear HB; have HO_16 := n0_; have HB := n1_; have BK339 := n2_; have GW339 := n3_; have GE339 := n4_; clear n0_ n1_ n2_ n3_ n4_; clear hb hbox hg; have hcz36_0 : w35.cell? ⟨gb339, 0, none⟩ = some (.int .i64 0) := (blk_cell BK339.out 0).trans rfl; have hcz36_1 : w35.cell? ⟨gb339, 1, none⟩ = some (.int .i64 0) := (blk_cell BK339.out 1).trans rfl; have hcz36_2 : w35.cell? ⟨gb339, 2, none⟩ = some (.int .u8 0) := (blk_cell BK339.out 2).trans rfl; have hfz36_0 := blk_frozen BK339.out 0; have hfz36_1 := blk_frozen BK339.out 1; have hfz36_2 := blk_frozen BK339.out 2))
                  (try simp only [Act.put, List.setIfInBounds_toArray, List.set_cons_zero, List.set_cons_succ])
                  go_cut [89] (fun v89 wc => ∃ (kq : Nat) (x89_32 : Bool), v89 = .bool x89_32 ∧ Aside0 (valiselaw21_SqueezeLast.j1 kq l0 a1 l2 l3 a4 a5 (l0.length : Int) t323 x89_32 ((rd_T56 t334 (ji30)).f0) ((rd_T56 t334 (ji30)).f1) ((rd_T56 t334 (ji30)).f2) = some r) ∧ Aside0 (kq ≤ kj13) ∧ Aside0 (wc.heap[gb339]? = some (.cells #[.int .i64 ((rd_T56 t334 (ji30)).f0), .int .i64 ((rd_T56 t334 (ji30)).f1), .int .u8 ((rd_T56 t334 (ji30)).f2)] 56 (0, 0))) ∧ Aside0 (Below w.heap.size w wc))
                  case first =>
                    have H := HC33.out
                    clear HC33
                    replace H := Option.bind_eq_some_iff.mp H
                    obtain ⟨t340, A370, H⟩ := H
                    replace H : (if t340 < 1 then (valiselaw21_SqueezeLast.j1 kj13 l0 a1 l2 l3 a4 a5 (l0.length : Int) t323 true ((rd_T56 t334 (ji30)).f0) ((rd_T56 t334 (ji30)).f1) ((rd_T56 t334 (ji30)).f2)) else ((valiselaw21_span.f ((rd_T56 t334 (ji30)).f0) ((rd_T56 t334 (ji30)).f1) ((rd_T56 t334 (ji30)).f2)).bind fun t341 => (valiselaw21_SqueezeLast.j1 kj13 l0 a1 l2 l3 a4 a5 (l0.length : Int) t323 (decide (t341 > (l0.length : Int))) ((rd_T56 t334 (ji30)).f0) ((rd_T56 t334 (ji30)).f1) ((rd_T56 t334 (ji30)).f2)))) = some r := H
                    have A37 := Aside0.mk A370
                    clear A370
                    by_cases c38 : t340 < 1
                    · rw [if_pos c38] at H
                      have c38b0 : decide (t340 < 1) = true := decide_eq_true c38
                      clear c38
                      (first | rw [c38b0] | (simp only [i64_w, i32_w]; rw [c38b0]) | skip)
                      have H' := Aside0.mk H
                      clear H
                      have hcz39_0 : w35.cell? ⟨gb339, 0, none⟩ = some (.int .i64 0) := (blk_cell BK339.out 0).trans rfl
                      have hcz39_1 : w35.cell? ⟨gb339, 1, none⟩ = some (.int .i64 0) := (blk_cell BK339.out 1).trans rfl
                      have hcz39_2 : w35.cell? ⟨gb339, 2, none⟩ = some (.int .u8 0) := (blk_cell BK339.out 2).trans rfl
                      have hfz39_0 := blk_frozen BK339.out 0
                      have hfz39_1 := blk_frozen BK339.out 1
                      have hfz39_2 := blk_frozen BK339.out 2
                      go_wp2_with (first | ((with_reducible refine gate_callee (f := 28) rfl ?_); refine goesL_ (some 82) rfl rfl Tryd.func28 (by kernel_rfl) rfl #[.agg #[.int .i64 ((rd_T56 t334 (ji30)).f0), .int .i64 ((rd_T56 t334 (ji30)).f1), .int .u8 ((rd_T56 t334 (ji30)).f2)]] rfl (by (try simp only [List.map_toArray, List.map_cons, List.map_nil]); first | done | (simp only [hji30]; rfl) | rfl | (simp only [List.length_drop, List.length_take]; rfl)) ?_; (with_reducible refine (valiselaw21_span.calls ((rd_T56 t334 (ji30)).f0) ((rd_T56 t334 (ji30)).f1) ((rd_T56 t334 (ji30)).f2) t340 _ A37.out).mono ?_); rintro e w40 ⟨rfl, hb⟩; refine ⟨_, rfl, ?_⟩; have n0_ := Aside0.mk (Kd.R_below (by (with_reducible repeat (first | apply Kd.R_alloc | apply Kd.R_drewN | apply Kd.R_drew)); exact (Kd.R_mono (Kd.R_far (p := ⟨gb339, 2, none⟩) (Kd.R_far (p := ⟨gb339, 1, none⟩) (Kd.R_far (p := ⟨gb339, 0, none⟩) (Kd.R_mono HO_16.out (fun k_ hk => (⟨hk, hk.2⟩ : _ ∧ k_ ≠ gb339))) (fun _ hk => hk.2) (.int .i64 ((rd_T56 t334 (ji30)).f0))) (fun _ hk => hk.2) (.int .i64 ((rd_T56 t334 (ji30)).f1))) (fun _ hk => hk.2) (.int .u8 ((rd_T56 t334 (ji30)).f2))) (fun _ h_ => h_.1))) hb); have n1_ := Aside0.mk (blk_below (g := gb339) (o := .cells #[.int .i64 ((rd_T56 t334 (ji30)).f0), .int .i64 ((rd_T56 t334 (ji30)).f1), .int .u8 ((rd_T56 t334 (ji30)).f2)] 56 (0, 0)) (by (with_reducible repeat (first | refine blk_drewN ?_ _ | refine blk_drew ?_ | refine blk_alloc ?_ _)); refine blk_put (cs := #[.int .i64 ((rd_T56 t334 (ji30)).f0), .int .i64 ((rd_T56 t334 (ji30)).f1), .int .u8 0]) ?_ 2 _ rfl; (with_reducible repeat (first | refine blk_drewN ?_ _ | refine blk_drew ?_ | refine blk_alloc ?_ _)); refine blk_put (cs := #[.int .i64 ((rd_T56 t334 (ji30)).f0), .int .i64 0, .int .u8 0]) ?_ 1 _ rfl; (with_reducible repeat (first | refine blk_drewN ?_ _ | refine blk_drew ?_ | refine blk_alloc ?_ _)); refine blk_put (cs := #[.int .i64 0, .int .i64 0, .int .u8 0]) ?_ 0 _ rfl; (with_reducible repeat (first | refine blk_drewN ?_ _ | refine blk_drew ?_ | refine blk_alloc ?_ _)); exact BK339.out) hb); have n2_ := Aside0.mk (below_step (by repeat (first | (with_reducible first | exact HB.out | apply below_alloc | apply pw_below_drewN | apply below_drew1 | refine below_set ?_ GE339.out) | exact HB.out)) hb); clear HO_16; clear BK339; clear HB; have HO_16 := n0_; have BK339 := n1_; have HB := n2_; clear n0_ n1_ n2_; (try clear hb); (try clear hb2); (try clear hk); (try clear hi)))
                      go_meet
                      case rel => exact ⟨_, (true), (by first | rfl | (simp; done) | (simp [*]; done)), H', ⟨by have := HJ13.out; first | omega | exact Nat.le_refl _⟩, ⟨by (with_reducible repeat (first | refine blk_drewN ?_ _ | refine blk_drew ?_ | refine blk_alloc ?_ _)); exact BK339.out⟩, ⟨by repeat (first | (with_reducible first | exact HB.out | apply below_alloc | apply pw_below_drewN | apply below_drew1 | refine below_set ?_ GE339.out) | exact HB.out)⟩⟩
                    · rw [if_neg c38] at H
                      have c38b0 : decide (t340 < 1) = false := decide_eq_false c38
                      clear c38
                      (first | rw [c38b0] | (simp only [i64_w, i32_w]; rw [c38b0]) | skip)
                      replace H := Option.bind_eq_some_iff.mp H
                      obtain ⟨t341, A410, H⟩ := H
                      replace H : (valiselaw21_SqueezeLast.j1 kj13 l0 a1 l2 l3 a4 a5 (l0.length : Int) t323 (decide (t341 > (l0.length : Int))) ((rd_T56 t334 (ji30)).f0) ((rd_T56 t334 (ji30)).f1) ((rd_T56 t334 (ji30)).f2)) = some r := H
                      have A41 := Aside0.mk A410
                      clear A410
                      have H' := Aside0.mk H
                      clear H
                      have hcz42_0 : w35.cell? ⟨gb339, 0, none⟩ = some (.int .i64 0) := (blk_cell BK339.out 0).trans rfl
                      have hcz42_1 : w35.cell? ⟨gb339, 1, none⟩ = some (.int .i64 0) := (blk_cell BK339.out 1).trans rfl
                      have hcz42_2 : w35.cell? ⟨gb339, 2, none⟩ = some (.int .u8 0) := (blk_cell BK339.out 2).trans rfl
                      have hfz42_0 := blk_frozen BK339.out 0
                      have hfz42_1 := blk_frozen BK339.out 1
                      have hfz42_2 := blk_frozen BK339.out 2
                      go_wp2_with (first | ((with_reducible refine gate_callee (f := 28) rfl ?_); refine goesL_ (some 82) rfl rfl Tryd.func28 (by kernel_rfl) rfl #[.agg #[.int .i64 ((rd_T56 t334 (ji30)).f0), .int .i64 ((rd_T56 t334 (ji30)).f1), .int .u8 ((rd_T56 t334 (ji30)).f2)]] rfl (by (try simp only [List.map_toArray, List.map_cons, List.map_nil]); first | done | (simp only [hji30]; rfl) | rfl | (simp only [List.length_drop, List.length_take]; rfl)) ?_; (with_reducible refine (valiselaw21_span.calls ((rd_T56 t334 (ji30)).f0) ((rd_T56 t334 (ji30)).f1) ((rd_T56 t334 (ji30)).f2) t340 _ A37.out).mono ?_); rintro e w43 ⟨rfl, hb⟩; refine ⟨_, rfl, ?_⟩; have n0_ := Aside0.mk (Kd.R_below (by (with_reducible repeat (first | apply Kd.R_alloc | apply Kd.R_drewN | apply Kd.R_drew)); exact (Kd.R_mono (Kd.R_far (p := ⟨gb339, 2, none⟩) (Kd.R_far (p := ⟨gb339, 1, none⟩) (Kd.R_far (p := ⟨gb339, 0, none⟩) (Kd.R_mono HO_16.out (fun k_ hk => (⟨hk, hk.2⟩ : _ ∧ k_ ≠ gb339))) (fun _ hk => hk.2) (.int .i64 ((rd_T56 t334 (ji30)).f0))) (fun _ hk => hk.2) (.int .i64 ((rd_T56 t334 (ji30)).f1))) (fun _ hk => hk.2) (.int .u8 ((rd_T56 t334 (ji30)).f2))) (fun _ h_ => h_.1))) hb); have n1_ := Aside0.mk (blk_below (g := gb339) (o := .cells #[.int .i64 ((rd_T56 t334 (ji30)).f0), .int .i64 ((rd_T56 t334 (ji30)).f1), .int .u8 ((rd_T56 t334 (ji30)).f2)] 56 (0, 0)) (by (with_reducible repeat (first | refine blk_drewN ?_ _ | refine blk_drew ?_ | refine blk_alloc ?_ _)); refine blk_put (cs := #[.int .i64 ((rd_T56 t334 (ji30)).f0), .int .i64 ((rd_T56 t334 (ji30)).f1), .int .u8 0]) ?_ 2 _ rfl; (with_reducible repeat (first | refine blk_drewN ?_ _ | refine blk_drew ?_ | refine blk_alloc ?_ _)); refine blk_put (cs := #[.int .i64 ((rd_T56 t334 (ji30)).f0), .int .i64 0, .int .u8 0]) ?_ 1 _ rfl; (with_reducible repeat (first | refine blk_drewN ?_ _ | refine blk_drew ?_ | refine blk_alloc ?_ _)); refine blk_put (cs := #[.int .i64 0, .int .i64 0, .int .u8 0]) ?_ 0 _ rfl; (with_reducible repeat (first | refine blk_drewN ?_ _ | refine blk_drew ?_ | refine blk_alloc ?_ _)); exact BK339.out) hb); have n2_ := Aside0.mk (below_step (by repeat (first | (with_reducible first | exact HB.out | apply below_alloc | apply pw_below_drewN | apply below_drew1 | refine below_set ?_ GE339.out) | exact HB.out)) hb); clear HO_16; clear BK339; clear HB; have HO_16 := n0_; have BK339 := n1_; have HB := n2_; clear n0_ n1_ n2_; (try clear hb); (try clear hb2); (try clear hk); (try clear hi); have hcz44_0 : w43.cell? ⟨gb339, 0, none⟩ = some (.int .i64 ((rd_T56 t334 (ji30)).f0)) := (blk_cell BK339.out 0).trans rfl; have hcz44_1 : w43.cell? ⟨gb339, 1, none⟩ = some (.int .i64 ((rd_T56 t334 (ji30)).f1)) := (blk_cell BK339.out 1).trans rfl; have hcz44_2 : w43.cell? ⟨gb339, 2, none⟩ = some (.int .u8 ((rd_T56 t334 (ji30)).f2)) := (blk_cell BK339.out 2).trans rfl; have hfz44_0 := blk_frozen BK339.out 0; have hfz44_1 := blk_frozen BK339.out 1; have hfz44_2 := blk_frozen BK339.out 2) | (go_at_call 28; (with_reducible refine (valiselaw21_span.calls ((rd_T56 t334 (ji30)).f0) ((rd_T56 t334 (ji30)).f1) ((rd_T56 t334 (ji30)).f2) t341 _ A41.out).mono ?_); rintro e w45 ⟨rfl, hb⟩; have n0_ := Aside0.mk (Kd.R_below (by (with_reducible repeat (first | apply Kd.R_alloc | apply Kd.R_drewN | apply Kd.R_drew)); exact HO_16.out) hb); have n1_ := Aside0.mk (blk_below (g := gb339) (o := .cells #[.int .i64 ((rd_T56 t334 (ji30)).f0), .int .i64 ((rd_T56 t334 (ji30)).f1), .int .u8 ((rd_T56 t334 (ji30)).f2)] 56 (0, 0)) (by (with_reducible repeat (first | refine blk_drewN ?_ _ | refine blk_drew ?_ | refine blk_alloc ?_ _)); exact BK339.out) hb); have n2_ := Aside0.mk (below_step (by repeat (first | (with_reducible first | exact HB.out | apply below_alloc | apply pw_below_drewN | apply below_drew1 | refine below_set ?_ GE339.out) | exact HB.out)) hb); clear HO_16; clear BK339; clear HB; have HO_16 := n0_; have BK339 := n1_; have HB := n2_; clear n0_ n1_ n2_; (try clear hb); (try clear hb2); (try clear hk); (try clear hi)))
                      go_meet
                      case rel => exact ⟨_, (decide (t341 > (l0.length : Int))), (by first | rfl | (simp; done) | (simp [*]; done)), H', ⟨by have := HJ13.out; first | omega | exact Nat.le_refl _⟩, ⟨by (with_reducible repeat (first | refine blk_drewN ?_ _ | refine blk_drew ?_ | refine blk_alloc ?_ _)); exact BK339.out⟩, ⟨by repeat (first | (with_reducible first | exact HB.out | apply below_alloc | apply pw_below_drewN | apply below_drew1 | refine below_set ?_ GE339.out) | exact HB.out)⟩⟩
                  case rest =>
                    clear HC33
                    try clear c1
                    try clear c2
                    try clear p2
                    try clear c3
                    try clear p3
                    try clear q3
                    try clear hx3
                    try clear c6
                    try clear p6
                    try clear c8
                    try clear c8b0
                    try clear c8b1
                    try clear c16
                    try clear c22
                    try clear c23
                    try clear c24
                    try clear c25
                    try clear c25b0
                    try clear c25b1
                    try clear c25b2
                    try clear c26
                    try clear c26b0
                    try clear c26b1
                    try clear c27
                    try clear c28
                    try clear c28b0
                    try clear c28b1
                    try clear c28b2
                    try clear c31
                    try clear c31b0
                    try clear c32
                    try clear c32b0
                    try clear p33
                    try clear q33
                    try clear hx33
                    try clear c38
                    try clear c38b0
                    try clear hcz36_0
                    try clear hcz36_1
                    try clear hcz36_2
                    try clear hcz39_0
                    try clear hcz39_1
                    try clear hcz39_2
                    try clear hcz42_0
                    try clear hcz42_1
                    try clear hcz42_2
                    try clear hcz44_0
                    try clear hcz44_1
                    try clear hcz44_2
                    try clear hfz36_0
                    try clear hfz36_1
                    try clear hfz36_2
                    try clear hfz39_0
                    try clear hfz39_1
                    try clear hfz39_2
                    try clear hfz42_0
                    try clear hfz42_1
                    try clear hfz42_2
                    try clear hfz44_0
                    try clear hfz44_1
                    try clear hfz44_2
                    try clear hx338_0
                    try clear hx338_1
                    try clear hx338_2
                    try clear p2
                    try clear p338
                    try clear q338
                    obtain ⟨kq, x89_32, rfl, HA, HJ32, BK339, HB⟩ := hcut
                    cases kq with
                    | zero => exact absurd HA.out (by simp [valiselaw21_SqueezeLast.j1])
                    | succ kj32 =>
                      have H := HA.out
                      clear HA
                      simp only [valiselaw21_SqueezeLast.j1] at H
                      by_cases c46 : x89_32 = true
                      · subst c46
                        have H1 : (some false) = some r := by rw [if_pos rfl] at H; exact H
                        clear H
                        have H := H1
                        clear H1
                        obtain rfl := Option.some.inj H
                        go_wp2
                        go_ret
                        exact ⟨by first | rfl | (simp [errW_none, errW_some] <;> rfl) | (simp only [← hji30]; first | rfl | (simp [errW_none, errW_some] <;> rfl)) | (simp [*, errW_none, errW_some] <;> rfl), by repeat (first | (with_reducible first | exact HB.out | apply below_alloc | apply pw_below_drewN | apply below_drew1 | refine below_set ?_ GE339.out) | exact HB.out)⟩
                      · replace c46 := Bool.eq_false_iff.mpr c46
                        subst c46
                        have H1 : ((valiselaw21_costs.f kj32 (([(⟨((rd_T56 t334 (ji30)).f0), ((rd_T56 t334 (ji30)).f1), ((rd_T56 t334 (ji30)).f2)⟩ : S56)] : List (S56))) a1 l2 l3).bind fun bt345 => ((valiselaw21_span.f ((rd_T56 t334 (ji30)).f0) ((rd_T56 t334 (ji30)).f1) ((rd_T56 t334 (ji30)).f2)).bind fun t347 => (if 0 ≤ (wrap64 ((l0.length : Int) - t347)) then (if (wrap64 ((l0.length : Int) - t347)) ≤ (l0.length : Int) then ((valiselaw21_cheapest.f kj32 (l0.take ((wrap64 ((l0.length : Int) - t347)) : Int).toNat) a1 l2 l3).bind fun bt349 => (if bt345.2 = true then (if bt349.2 = true then (valiselaw21_SqueezeLast.j2 kj32 l0 a1 l2 l3 a4 a5 (l0.length : Int) t323 (t323 != (wrap64 (bt349.1 + bt345.1)))) else (valiselaw21_SqueezeLast.j2 kj32 l0 a1 l2 l3 a4 a5 (l0.length : Int) t323 true)) else (valiselaw21_SqueezeLast.j2 kj32 l0 a1 l2 l3 a4 a5 (l0.length : Int) t323 true))) else (none)) else (none)))) = some r := by rw [if_neg (show ¬ (false = true) by decide)] at H; exact H
                        clear H
                        have H := H1
                        clear H1
                        obtain ⟨y342, hy342⟩ : ∃ y_ : List (S56), y_ = (([(⟨((rd_T56 t334 (ji30)).f0), ((rd_T56 t334 (ji30)).f1), ((rd_T56 t334 (ji30)).f2)⟩ : S56)] : List (S56))) := ⟨_, rfl⟩
                        replace H : ((valiselaw21_costs.f kj32 y342 a1 l2 l3).bind fun bt345 => ((valiselaw21_span.f ((rd_T56 t334 (ji30)).f0) ((rd_T56 t334 (ji30)).f1) ((rd_T56 t334 (ji30)).f2)).bind fun t347 => (if 0 ≤ (wrap64 ((l0.length : Int) - t347)) then (if (wrap64 ((l0.length : Int) - t347)) ≤ (l0.length : Int) then ((valiselaw21_cheapest.f kj32 (l0.take ((wrap64 ((l0.length : Int) - t347)) : Int).toNat) a1 l2 l3).bind fun bt349 => (if bt345.2 = true then (if bt349.2 = true then (valiselaw21_SqueezeLast.j2 kj32 l0 a1 l2 l3 a4 a5 (l0.length : Int) t323 (t323 != (wrap64 (bt349.1 + bt345.1)))) else (valiselaw21_SqueezeLast.j2 kj32 l0 a1 l2 l3 a4 a5 (l0.length : Int) t323 true)) else (valiselaw21_SqueezeLast.j2 kj32 l0 a1 l2 l3 a4 a5 (l0.length : Int) t323 true))) else (none)) else (none)))) = some r := by first | (rw [hy342]; with_reducible exact H) | (have H2_ := (Option.bind_some _ _).symm.trans H; rw [hy342]; with_reducible exact H2_) | (have H2_ := (Option.bind_some _ _).symm.trans H; with_reducible exact H2_) | with_reducible exact H | (rw [hy342]; exact H) | exact H
                        have Ny342 := Aside0.mk hy342
                        clear hy342
                        replace H := Option.bind_eq_some_iff.mp H
                        obtain ⟨⟨t345, t346⟩, A470, H⟩ := H
                        replace H : ((valiselaw21_span.f ((rd_T56 t334 (ji30)).f0) ((rd_T56 t334 (ji30)).f1) ((rd_T56 t334 (ji30)).f2)).bind fun t347 => (if 0 ≤ (wrap64 ((l0.length : Int) - t347)) then (if (wrap64 ((l0.length : Int) - t347)) ≤ (l0.length : Int) then ((valiselaw21_cheapest.f kj32 (l0.take ((wrap64 ((l0.length : Int) - t347)) : Int).toNat) a1 l2 l3).bind fun bt349 => (if t346 = true then (if bt349.2 = true then (valiselaw21_SqueezeLast.j2 kj32 l0 a1 l2 l3 a4 a5 (l0.length : Int) t323 (t323 != (wrap64 (bt349.1 + t345)))) else (valiselaw21_SqueezeLast.j2 kj32 l0 a1 l2 l3 a4 a5 (l0.length : Int) t323 true)) else (valiselaw21_SqueezeLast.j2 kj32 l0 a1 l2 l3 a4 a5 (l0.length : Int) t323 true))) else (none)) else (none))) = some r := H
                        have A47 := Aside0.mk A470
                        clear A470
                        replace H := Option.bind_eq_some_iff.mp H
                        obtain ⟨t347, A480, H⟩ := H
                        replace H : (if 0 ≤ (wrap64 ((l0.length : Int) - t347)) then (if (wrap64 ((l0.length : Int) - t347)) ≤ (l0.length : Int) then ((valiselaw21_cheapest.f kj32 (l0.take ((wrap64 ((l0.length : Int) - t347)) : Int).toNat) a1 l2 l3).bind fun bt349 => (if t346 = true then (if bt349.2 = true then (valiselaw21_SqueezeLast.j2 kj32 l0 a1 l2 l3 a4 a5 (l0.length : Int) t323 (t323 != (wrap64 (bt349.1 + t345)))) else (valiselaw21_SqueezeLast.j2 kj32 l0 a1 l2 l3 a4 a5 (l0.length : Int) t323 true)) else (valiselaw21_SqueezeLast.j2 kj32 l0 a1 l2 l3 a4 a5 (l0.length : Int) t323 true))) else (none)) else (none)) = some r := H
                        have A48 := Aside0.mk A480
                        clear A480
                        obtain ⟨ji49, hji49⟩ : ∃ j_ : Int, (wrap64 ((l0.length : Int) - t347)) = j_ := ⟨_, rfl⟩
                        replace H : (if 0 ≤ (ji49) then (if (ji49) ≤ (l0.length : Int) then ((valiselaw21_cheapest.f kj32 (l0.take ((ji49) : Int).toNat) a1 l2 l3).bind fun bt349 => (if t346 = true then (if bt349.2 = true then (valiselaw21_SqueezeLast.j2 kj32 l0 a1 l2 l3 a4 a5 (l0.length : Int) t323 (t323 != (wrap64 (bt349.1 + t345)))) else (valiselaw21_SqueezeLast.j2 kj32 l0 a1 l2 l3 a4 a5 (l0.length : Int) t323 true)) else (valiselaw21_SqueezeLast.j2 kj32 l0 a1 l2 l3 a4 a5 (l0.length : Int) t323 true))) else (none)) else (none)) = some r := by first | (rw [hji49] at H; exact H) | (simp only [hji49] at H ⊢; exact H)
                        (try rw [hji49] at A47)
                        (try rw [hji49] at A48)
                        have hji49w : (IntKind.i64.wrap ((l0.length : Int) - t347)) = ji49 := (i64_w _).trans hji49
                        by_cases c50 : 0 ≤ (ji49)
                        · rw [if_pos c50] at H
                          have c50b0 := eq_true c50
                          have c50b1 : decide (0 ≤ (ji49)) = true := decide_eq_true c50
                          clear c50
                          by_cases c51 : (ji49) ≤ (l0.length : Int)
                          · rw [if_pos c51] at H
                            have c51b0 := eq_true c51
                            have c51b1 : decide ((ji49) ≤ (l0.length : Int)) = true := decide_eq_true c51
                            clear c51
                            replace H := Option.bind_eq_some_iff.mp H
                            obtain ⟨⟨t349, t350⟩, A520, H⟩ := H
                            replace H : (if t346 = true then (if t350 = true then (valiselaw21_SqueezeLast.j2 kj32 l0 a1 l2 l3 a4 a5 (l0.length : Int) t323 (t323 != (wrap64 (t349 + t345)))) else (valiselaw21_SqueezeLast.j2 kj32 l0 a1 l2 l3 a4 a5 (l0.length : Int) t323 true)) else (valiselaw21_SqueezeLast.j2 kj32 l0 a1 l2 l3 a4 a5 (l0.length : Int) t323 true)) = some r := H
                            have A52 := Aside0.mk A520
                            clear A520
                            have HC53 := Aside0.mk H
                            clear H
                            have hcz54_0 : wc.cell? ⟨gb339, 0, none⟩ = some (.int .i64 ((rd_T56 t334 (ji30)).f0)) := (blk_cell BK339.out 0).trans rfl
                            have hcz54_1 : wc.cell? ⟨gb339, 1, none⟩ = some (.int .i64 ((rd_T56 t334 (ji30)).f1)) := (blk_cell BK339.out 1).trans rfl
                            have hcz54_2 : wc.cell? ⟨gb339, 2, none⟩ = some (.int .u8 ((rd_T56 t334 (ji30)).f2)) := (blk_cell BK339.out 2).trans rfl
                            have hfz54_0 := blk_frozen BK339.out 0
                            have hfz54_1 := blk_frozen BK339.out 1
                            have hfz54_2 := blk_frozen BK339.out 2
                            go_upto_region 17 with (first | ((with_reducible refine gate_dst (N := 92) rfl ?_); (try (refine gate_guard (by rfl) ?_; dsimp only)); refine Kd.R_lit k56 _ 56 ?hg (N := 92) ?hd (xs := ([(⟨((rd_T56 t334 (ji30)).f0), ((rd_T56 t334 (ji30)).f1), ((rd_T56 t334 (ji30)).f2)⟩ : S56)] : List (S56))) (inner := [.int .i64 ((rd_T56 t334 (ji30)).f0), .int .i64 ((rd_T56 t334 (ji30)).f1), .int .u8 ((rd_T56 t334 (ji30)).f2)]) (ok := fun _ => True) (okp := fun _ => True) ?hr ?hp (fun _ hk => hk) trivial (Below.refl _ _) (Nat.le_refl _) (by simp) ?_; (case hd => rfl); (case hg => rfl); (case hr => first | (go_simp; done) | (go_simp; rfl)); (case hp => exact (Reps.c3 (show Kd.M k56 _ _ _ (⟨((rd_T56 t334 (ji30)).f0), ((rd_T56 t334 (ji30)).f1), ((rd_T56 t334 (ji30)).f2)⟩ : S56) [.int .i64 ((rd_T56 t334 (ji30)).f0), .int .i64 ((rd_T56 t334 (ji30)).f1), .int .u8 ((rd_T56 t334 (ji30)).f2)] from (k56_mkM _ _ _ (⟨((rd_T56 t334 (ji30)).f0), ((rd_T56 t334 (ji30)).f1), ((rd_T56 t334 (ji30)).f2)⟩ : S56) )) (Reps.none _ _))); intro v343 w55 ho56 hb hg_ hnew_; clear hg_ hnew_; (first | rw [← Ny342.out] at ho56 | (simp only [Int.reduceToNat] at ho56; rw [← Ny342.out] at ho56)); have n0_ := Aside0.mk (Kd.R_lower (Kd.R_newB ho56 (g := gb339) (o := .cells #[.int .i64 ((rd_T56 t334 (ji30)).f0), .int .i64 ((rd_T56 t334 (ji30)).f1), .int .u8 ((rd_T56 t334 (ji30)).f2)] 56 (0, 0)) (by (with_reducible repeat (first | refine blk_drewN ?_ _ | refine blk_drew ?_ | refine blk_alloc ?_ _)); exact BK339.out)) (below_size (by repeat (first | (with_reducible first | exact HB.out | apply below_alloc | apply pw_below_drewN | apply below_drew1 | refine below_set ?_ GE339.out) | exact HB.out)))); have n1_ := Aside0.mk (blk_below (g := gb339) (o := .cells #[.int .i64 ((rd_T56 t334 (ji30)).f0), .int .i64 ((rd_T56 t334 (ji30)).f1), .int .u8 ((rd_T56 t334 (ji30)).f2)] 56 (0, 0)) (by (with_reducible repeat (first | refine blk_drewN ?_ _ | refine blk_drew ?_ | refine blk_alloc ?_ _)); exact BK339.out) hb); have n2_ := Aside0.mk (below_step (by repeat (first | (with_reducible first | exact HB.out | apply below_alloc | apply pw_below_drewN | apply below_drew1 | refine below_set ?_ GE339.out) | exact HB.out)) hb); clear BK339; clear HB; have HO344 := n0_; have BK339 := n1_; have HB := n2_; clear n0_ n1_ n2_; clear hb ho56; obtain ⟨Ao57, co57, eo57⟩ := Kd.R_slice HO344.out; subst eo57) | ((with_reducible refine gate_callee (f := 29) rfl ?_); refine goesL_ (some 96) rfl rfl Tryd.func29 (by kernel_rfl) rfl #[.slice Ao57 y342.length co57, .int .i64 a1, .slice A2 l2.length c2, .slice A3 l3.length c3] rfl (by (try simp only [List.map_toArray, List.map_cons, List.map_nil]); first | done | rfl | (simp only [List.length_drop, List.length_take]; rfl)) ?_; (with_reducible refine (valiselaw21_costs.calls kj32 _ _ y342 a1 _ _ l2 _ _ l3 t345 t346 _ ?side1 ?side2 ?side3 ?side4 ?side5 ?side6 ?side7 A47.out).mono ?_); (case side1 => repeat (first | exact (Kd.R_reads' HO344.out).2.2 | (with_reducible refine Kd.C_alloc ?_ _) | (with_reducible refine Kd.C_drewN ?_ _) | (with_reducible refine Kd.C_drew ?_))); (case side2 => exact (Kd.R_reads' HO344.out).2.1); (case side3 => repeat (first | exact (Kd.C_below HR2.out HB.out) | (with_reducible refine Kd.C_alloc ?_ _) | (with_reducible refine Kd.C_drewN ?_ _) | (with_reducible refine Kd.C_drew ?_))); (case side4 => exact HC2.out); (case side5 => repeat (first | exact (Kd.C_below HR3.out HB.out) | (with_reducible refine Kd.C_alloc ?_ _) | (with_reducible refine Kd.C_drewN ?_ _) | (with_reducible refine Kd.C_drew ?_))); (case side6 => exact HC3.out); (case side7 => repeat (first | exact HG.out | exact (Tabs.below HG.out (by repeat (first | (with_reducible first | exact HB.out | apply below_alloc | apply pw_below_drewN | apply below_drew1 | refine below_set ?_ GE339.out) | exact HB.out))) | (with_reducible refine Tabs.alloc ?_ _) | (with_reducible refine Tabs.drewN ?_ _) | (with_reducible refine Tabs.drew ?_))); rintro e w58 ⟨rfl, hb⟩; refine ⟨_, rfl, ?_⟩; have n0_ := Aside0.mk (Kd.R_below (by (with_reducible repeat (first | apply Kd.R_alloc | apply Kd.R_drewN | apply Kd.R_drew)); exact HO344.out) hb); have n1_ := Aside0.mk (blk_below (g := gb339) (o := .cells #[.int .i64 ((rd_T56 t334 (ji30)).f0), .int .i64 ((rd_T56 t334 (ji30)).f1), .int .u8 ((rd_T56 t334 (ji30)).f2)] 56 (0, 0)) (by (with_reducible repeat (first | refine blk_drewN ?_ _ | refine blk_drew ?_ | refine blk_alloc ?_ _)); exact BK339.out) hb); have n2_ := Aside0.mk (below_step (by repeat (first | (with_reducible first | exact HB.out | apply below_alloc | apply pw_below_drewN | apply below_drew1 | refine below_set ?_ GE339.out) | exact HB.out)) hb); clear HO344; clear BK339; clear HB; have HO344 := n0_; have BK339 := n1_; have HB := n2_; clear n0_ n1_ n2_; (try clear hb); (try clear hb2); (try clear hk); (try clear hi); have hcz59_0 : w58.cell? ⟨gb339, 0, none⟩ = some (.int .i64 ((rd_T56 t334 (ji30)).f0)) := (blk_cell BK339.out 0).trans rfl; have hcz59_1 : w58.cell? ⟨gb339, 1, none⟩ = some (.int .i64 ((rd_T56 t334 (ji30)).f1)) := (blk_cell BK339.out 1).trans rfl; have hcz59_2 : w58.cell? ⟨gb339, 2, none⟩ = some (.int .u8 ((rd_T56 t334 (ji30)).f2)) := (blk_cell BK339.out 2).trans rfl; have hfz59_0 := blk_frozen BK339.out 0; have hfz59_1 := blk_frozen BK339.out 1; have hfz59_2 := blk_frozen BK339.out 2) | ((with_reducible refine gate_callee (f := 28) rfl ?_); refine goesL_ (some 103) rfl rfl Tryd.func28 (by kernel_rfl) rfl #[.agg #[.int .i64 ((rd_T56 t334 (ji30)).f0), .int .i64 ((rd_T56 t334 (ji30)).f1), .int .u8 ((rd_T56 t334 (ji30)).f2)]] rfl (by (try simp only [List.map_toArray, List.map_cons, List.map_nil]); first | done | (simp only [hji30]; rfl) | rfl | (simp only [List.length_drop, List.length_take]; rfl)) ?_; (with_reducible refine (valiselaw21_span.calls ((rd_T56 t334 (ji30)).f0) ((rd_T56 t334 (ji30)).f1) ((rd_T56 t334 (ji30)).f2) t347 _ A48.out).mono ?_); rintro e w60 ⟨rfl, hb⟩; refine ⟨_, rfl, ?_⟩; have n0_ := Aside0.mk (Kd.R_below (by (with_reducible repeat (first | apply Kd.R_alloc | apply Kd.R_drewN | apply Kd.R_drew)); exact HO344.out) hb); have n1_ := Aside0.mk (blk_below (g := gb339) (o := .cells #[.int .i64 ((rd_T56 t334 (ji30)).f0), .int .i64 ((rd_T56 t334 (ji30)).f1), .int .u8 ((rd_T56 t334 (ji30)).f2)] 56 (0, 0)) (by (with_reducible repeat (first | refine blk_drewN ?_ _ | refine blk_drew ?_ | refine blk_alloc ?_ _)); exact BK339.out) hb); have n2_ := Aside0.mk (below_step (by repeat (first | (with_reducible first | exact HB.out | apply below_alloc | apply pw_below_drewN | apply below_drew1 | refine below_set ?_ GE339.out) | exact HB.out)) hb); clear HO344; clear BK339; clear HB; have HO344 := n0_; have BK339 := n1_; have HB := n2_; clear n0_ n1_ n2_; (try clear hb); (try clear hb2); (try clear hk); (try clear hi); obtain ⟨i061, hi061, _, hsz61, _⟩ := info_parts info5; obtain ⟨hcut61, hA61, hC61⟩ := print_take_of (P := Tryd.prog) (Value.int .u8) 0 44 5 .i64 Tryd.underlying44 hi061 hsz61 A0 c0 l0 (ji49) (of_decide_eq_true (by first | (with_reducible assumption) | assumption)) (of_decide_eq_true (by first | (with_reducible assumption) | assumption)) HC0.out; have HR348 := Aside0.mk (Kd.C_of_reads (h1 := fun _ => rfl) (hA61 _ (Kd.reads_of_C HR0.out))); have HC348 := Aside0.mk hC61; clear hA61 hC61 hi061 hsz61) | ((with_reducible refine gate_callee (f := 27) rfl ?_); refine goesL_ (some 109) rfl rfl Tryd.func27 (by kernel_rfl) rfl #[.slice A0 (l0.take ((ji49) : Int).toNat).length c0, .int .i64 a1, .slice A2 l2.length c2, .slice A3 l3.length c3] rfl (by (try simp only [List.map_toArray, List.map_cons, List.map_nil]); first | done | (rw [show (l0.take ((ji49) : Int).toNat).length = (ji49).toNat from (by rw [List.length_take]; have h_ : ((ji49) : Int) ≤ (l0.length : Int) := of_decide_eq_true (by first | (with_reducible assumption) | assumption); omega)] <;> rfl) | (simp only [hji49]; rfl) | rfl | (simp only [List.length_drop, List.length_take]; rfl)) ?_; (with_reducible refine (valiselaw21_cheapest.calls kj32 _ _ (l0.take ((ji49) : Int).toNat) a1 _ _ l2 _ _ l3 t349 t350 _ ?side1 ?side2 ?side3 ?side4 ?side5 ?side6 ?side7 A52.out).mono ?_); (case side1 => repeat (first | exact (Kd.C_below HR348.out HB.out) | (with_reducible refine Kd.C_alloc ?_ _) | (with_reducible refine Kd.C_drewN ?_ _) | (with_reducible refine Kd.C_drew ?_))); (case side2 => exact HC348.out); (case side3 => repeat (first | exact (Kd.C_below HR2.out HB.out) | (with_reducible refine Kd.C_alloc ?_ _) | (with_reducible refine Kd.C_drewN ?_ _) | (with_reducible refine Kd.C_drew ?_))); (case side4 => exact HC2.out); (case side5 => repeat (first | exact (Kd.C_below HR3.out HB.out) | (with_reducible refine Kd.C_alloc ?_ _) | (with_reducible refine Kd.C_drewN ?_ _) | (with_reducible refine Kd.C_drew ?_))); (case side6 => exact HC3.out); (case side7 => repeat (first | exact HG.out | exact (Tabs.below HG.out (by repeat (first | (with_reducible first | exact HB.out | apply below_alloc | apply pw_below_drewN | apply below_drew1 | refine below_set ?_ GE339.out) | exact HB.out))) | (with_reducible refine Tabs.alloc ?_ _) | (with_reducible refine Tabs.drewN ?_ _) | (with_reducible refine Tabs.drew ?_))); rintro e w62 ⟨rfl, hb⟩; refine ⟨_, rfl, ?_⟩; have n0_ := Aside0.mk (Kd.R_below (by (with_reducible repeat (first | apply Kd.R_alloc | apply Kd.R_drewN | apply Kd.R_drew)); exact HO344.out) hb); have n1_ := Aside0.mk (blk_below (g := gb339) (o := .cells #[.int .i64 ((rd_T56 t334 (ji30)).f0), .int .i64 ((rd_T56 t334 (ji30)).f1), .int .u8 ((rd_T56 t334 (ji30)).f2)] 56 (0, 0)) (by (with_reducible repeat (first | refine blk_drewN ?_ _ | refine blk_drew ?_ | refine blk_alloc ?_ _)); exact BK339.out) hb); have n2_ := Aside0.mk (below_step (by repeat (first | (with_reducible first | exact HB.out | apply below_alloc | apply pw_below_drewN | apply below_drew1 | refine below_set ?_ GE339.out) | exact HB.out)) hb); clear HO344; clear BK339; clear HB; have HO344 := n0_; have BK339 := n1_; have HB := n2_; clear n0_ n1_ n2_; (try clear hb); (try clear hb2); (try clear hk); (try clear hi)))
                            (try simp only [Act.put, List.setIfInBounds_toArray, List.set_cons_zero, List.set_cons_succ])
                            go_cut [124] (fun v124 wc => ∃ (kq : Nat) (x124_52 : Bool), v124 = .bool x124_52 ∧ Aside0 (valiselaw21_SqueezeLast.j2 kq l0 a1 l2 l3 a4 a5 (l0.length : Int) t323 x124_52 = some r) ∧ Aside0 (kq ≤ kj32) ∧ Aside0 (wc.heap[gb339]? = some (.cells #[.int .i64 ((rd_T56 t334 (ji30)).f0), .int .i64 ((rd_T56 t334 (ji30)).f1), .int .u8 ((rd_T56 t334 (ji30)).f2)] 56 (0, 0))) ∧ Aside0 (Below w.heap.size w wc))
                            case first =>
                              have H := HC53.out
                              clear HC53
                              by_cases c63 : t346 = true
                              · subst c63
                                have H1 : (if t350 = true then (valiselaw21_SqueezeLast.j2 kj32 l0 a1 l2 l3 a4 a5 (l0.length : Int) t323 (t323 != (wrap64 (t349 + t345)))) else (valiselaw21_SqueezeLast.j2 kj32 l0 a1 l2 l3 a4 a5 (l0.length : Int) t323 true)) = some r := by rw [if_pos rfl] at H; exact H
                                clear H
                                have H := H1
                                clear H1
                                by_cases c64 : t350 = true
                                · subst c64
                                  have H1 : (valiselaw21_SqueezeLast.j2 kj32 l0 a1 l2 l3 a4 a5 (l0.length : Int) t323 (t323 != (wrap64 (t349 + t345)))) = some r := by rw [if_pos rfl] at H; exact H
                                  clear H
                                  have H := H1
                                  clear H1
                                  have H' := Aside0.mk H
                                  clear H
                                  go_wp2
                                  go_meet
                                  case rel => exact ⟨_, ((t323 != (wrap64 (t349 + t345)))), (by first | rfl | (simp; done) | (simp [*]; done)), H', ⟨by have := HJ13.out; have := HJ32.out; first | omega | exact Nat.le_refl _⟩, ⟨by (with_reducible repeat (first | refine blk_drewN ?_ _ | refine blk_drew ?_ | refine blk_alloc ?_ _)); exact BK339.out⟩, ⟨by repeat (first | (with_reducible first | exact HB.out | apply below_alloc | apply pw_below_drewN | apply below_drew1 | refine below_set ?_ GE339.out) | exact HB.out)⟩⟩
                                · replace c64 := Bool.eq_false_iff.mpr c64
                                  subst c64
                                  have H1 : (valiselaw21_SqueezeLast.j2 kj32 l0 a1 l2 l3 a4 a5 (l0.length : Int) t323 true) = some r := by rw [if_neg (show ¬ (false = true) by decide)] at H; exact H
                                  clear H
                                  have H := H1
                                  clear H1
                                  have H' := Aside0.mk H
                                  clear H
                                  go_wp2
                                  go_meet
                                  case rel => exact ⟨_, (true), (by first | rfl | (simp; done) | (simp [*]; done)), H', ⟨by have := HJ13.out; have := HJ32.out; first | omega | exact Nat.le_refl _⟩, ⟨by (with_reducible repeat (first | refine blk_drewN ?_ _ | refine blk_drew ?_ | refine blk_alloc ?_ _)); exact BK339.out⟩, ⟨by repeat (first | (with_reducible first | exact HB.out | apply below_alloc | apply pw_below_drewN | apply below_drew1 | refine below_set ?_ GE339.out) | exact HB.out)⟩⟩
                              · replace c63 := Bool.eq_false_iff.mpr c63
                                subst c63
                                have H1 : (valiselaw21_SqueezeLast.j2 kj32 l0 a1 l2 l3 a4 a5 (l0.length : Int) t323 true) = some r := by rw [if_neg (show ¬ (false = true) by decide)] at H; exact H
                                clear H
                                have H := H1
                                clear H1
                                have H' := Aside0.mk H
                                clear H
                                go_wp2
                                go_meet
                                case rel => exact ⟨_, (true), (by first | rfl | (simp; done) | (simp [*]; done)), H', ⟨by have := HJ13.out; have := HJ32.out; first | omega | exact Nat.le_refl _⟩, ⟨by (with_reducible repeat (first | refine blk_drewN ?_ _ | refine blk_drew ?_ | refine blk_alloc ?_ _)); exact BK339.out⟩, ⟨by repeat (first | (with_reducible first | exact HB.out | apply below_alloc | apply pw_below_drewN | apply below_drew1 | refine below_set ?_ GE339.out) | exact HB.out)⟩⟩
                            case rest =>
                              clear HC53
                              try clear c1
                              try clear c2
                              try clear p2
                              try clear c3
                              try clear p3
                              try clear q3
                              try clear hx3
                              try clear c4
                              try clear c5
                              try clear c6
                              try clear p6
                              try clear c8
                              try clear c8b0
                              try clear c8b1
                              try clear c16
                              try clear c22
                              try clear c23
                              try clear c24
                              try clear c25
                              try clear c25b0
                              try clear c25b1
                              try clear c25b2
                              try clear c26
                              try clear c26b0
                              try clear c26b1
                              try clear c27
                              try clear c28
                              try clear c28b0
                              try clear c28b1
                              try clear c28b2
                              try clear c29
                              try clear c31
                              try clear c31b0
                              try clear c32
                              try clear c32b0
                              try clear p33
                              try clear q33
                              try clear hx33
                              try clear c38
                              try clear c38b0
                              try clear c46
                              try clear c50
                              try clear c50b0
                              try clear c50b1
                              try clear c51
                              try clear c51b0
                              try clear c51b1
                              try clear c63
                              try clear c64
                              try clear p64
                              try clear hcz36_0
                              try clear hcz36_1
                              try clear hcz36_2
                              try clear hcz39_0
                              try clear hcz39_1
                              try clear hcz39_2
                              try clear hcz42_0
                              try clear hcz42_1
                              try clear hcz42_2
                              try clear hcz44_0
                              try clear hcz44_1
                              try clear hcz44_2
                              try clear hcz54_0
                              try clear hcz54_1
                              try clear hcz54_2
                              try clear hcz59_0
                              try clear hcz59_1
                              try clear hcz59_2
                              try clear hfz36_0
                              try clear hfz36_1
                              try clear hfz36_2
                              try clear hfz39_0
                              try clear hfz39_1
                              try clear hfz39_2
                              try clear hfz42_0
                              try clear hfz42_1
                              try clear hfz42_2
                              try clear hfz44_0
                              try clear hfz44_1
                              try clear hfz44_2
                              try clear hfz54_0
                              try clear hfz54_1
                              try clear hfz54_2
                              try clear hfz59_0
                              try clear hfz59_1
                              try clear hfz59_2
                              try clear hx338_0
                              try clear hx338_1
                              try clear hx338_2
                              try clear p2
                              try clear p3
                              try clear p33
                              try clear p338
                              try clear p6
                              try clear q3
                              try clear q33
                              try clear q338
                              obtain ⟨kq, x124_52, rfl, HA, HJ52, BK339, HB⟩ := hcut
                              cases kq with
                              | zero => exact absurd HA.out (by simp [valiselaw21_SqueezeLast.j2])
                              | succ kj52 =>
                                have H := HA.out
                                clear HA
                                simp only [valiselaw21_SqueezeLast.j2] at H
                                by_cases c65 : x124_52 = true
                                · subst c65
                                  have H1 : (some false) = some r := by rw [if_pos rfl] at H; exact H
                                  clear H
                                  have H := H1
                                  clear H1
                                  obtain rfl := Option.some.inj H
                                  go_wp2
                                  go_ret
                                  exact ⟨by first | rfl | (simp [errW_none, errW_some] <;> rfl) | (simp only [← hji30, ← hji49]; first | rfl | (simp [errW_none, errW_some] <;> rfl)) | (simp [*, errW_none, errW_some] <;> rfl), by repeat (first | (with_reducible first | exact HB.out | apply below_alloc | apply pw_below_drewN | apply below_drew1 | refine below_set ?_ GE339.out) | exact HB.out)⟩
                                · replace c65 := Bool.eq_false_iff.mpr c65
                                  subst c65
                                  have H1 : (if 0 ≤ (wrap64 ((l0.length : Int) - 1)) then (if (wrap64 ((l0.length : Int) - 1)) ≤ (l0.length : Int) then ((valiselaw21_cheapest.f kj52 (l0.take ((wrap64 ((l0.length : Int) - 1)) : Int).toNat) a1 l2 l3).bind fun bt352 => (if bt352.2 = true then (if (wrap64 ((l0.length : Int) - 1)) < (l0.length : Int) then (if 0 ≤ (wrap64 (rd l0 (wrap64 ((l0.length : Int) - 1)))) then (if (wrap64 (rd l0 (wrap64 ((l0.length : Int) - 1)))) < (l2.length : Int) then (valiselaw21_SqueezeLast.j3 kj52 l0 a1 l2 l3 a4 a5 (l0.length : Int) t323 (decide (t323 > (wrap64 (bt352.1 + (rd l2 (wrap64 (rd l0 (wrap64 ((l0.length : Int) - 1)))))))))) else (none)) else (none)) else (none)) else (valiselaw21_SqueezeLast.j3 kj52 l0 a1 l2 l3 a4 a5 (l0.length : Int) t323 true))) else (none)) else (none)) = some r := by rw [if_neg (show ¬ (false = true) by decide)] at H; exact H
                                  clear H
                                  have H := H1
                                  clear H1
                                  obtain ⟨ji66, hji66⟩ : ∃ j_ : Int, (wrap64 ((l0.length : Int) - 1)) = j_ := ⟨_, rfl⟩
                                  replace H : (if 0 ≤ (ji66) then (if (ji66) ≤ (l0.length : Int) then ((valiselaw21_cheapest.f kj52 (l0.take ((ji66) : Int).toNat) a1 l2 l3).bind fun bt352 => (if bt352.2 = true then (if (ji66) < (l0.length : Int) then (if 0 ≤ (wrap64 (rd l0 (ji66))) then (if (wrap64 (rd l0 (ji66))) < (l2.length : Int) then (valiselaw21_SqueezeLast.j3 kj52 l0 a1 l2 l3 a4 a5 (l0.length : Int) t323 (decide (t323 > (wrap64 (bt352.1 + (rd l2 (wrap64 (rd l0 (ji66))))))))) else (none)) else (none)) else (none)) else (valiselaw21_SqueezeLast.j3 kj52 l0 a1 l2 l3 a4 a5 (l0.length : Int) t323 true))) else (none)) else (none)) = some r := by first | (rw [hji66] at H; exact H) | (simp only [hji66] at H ⊢; exact H)
                                  have hji66w : (IntKind.i64.wrap ((l0.length : Int) - 1)) = ji66 := (i64_w _).trans hji66
                                  by_cases c67 : 0 ≤ (ji66)
                                  · rw [if_pos c67] at H
                                    have c67b0 := eq_true c67
                                    have c67b1 : decide (0 ≤ (ji66)) = true := decide_eq_true c67
                                    clear c67
                                    by_cases c68 : (ji66) ≤ (l0.length : Int)
                                    · rw [if_pos c68] at H
                                      have c68b0 := eq_true c68
                                      have c68b1 : decide ((ji66) ≤ (l0.length : Int)) = true := decide_eq_true c68
                                      clear c68
                                      replace H := Option.bind_eq_some_iff.mp H
                                      obtain ⟨⟨t352, t353⟩, A690, H⟩ := H
                                      replace H : (if t353 = true then (if (ji66) < (l0.length : Int) then (if 0 ≤ (wrap64 (rd l0 (ji66))) then (if (wrap64 (rd l0 (ji66))) < (l2.length : Int) then (valiselaw21_SqueezeLast.j3 kj52 l0 a1 l2 l3 a4 a5 (l0.length : Int) t323 (decide (t323 > (wrap64 (t352 + (rd l2 (wrap64 (rd l0 (ji66))))))))) else (none)) else (none)) else (none)) else (valiselaw21_SqueezeLast.j3 kj52 l0 a1 l2 l3 a4 a5 (l0.length : Int) t323 true)) = some r := H
                                      have A69 := Aside0.mk A690
                                      clear A690
                                      have HC70 := Aside0.mk H
                                      clear H
                                      obtain ⟨i071, hi071, _, hsz71, _⟩ := info_parts info5
                                      obtain ⟨hcut71, hA71, hC71⟩ := print_take_of (P := Tryd.prog) (Value.int .u8) 0 44 5 .i64 Tryd.underlying44 hi071 hsz71 A0 c0 l0 (ji66) (of_decide_eq_true (by first | (with_reducible assumption) | assumption)) (of_decide_eq_true (by first | (with_reducible assumption) | assumption)) HC0.out
                                      have HR351 := Aside0.mk (Kd.C_of_reads (h1 := fun _ => rfl) (hA71 _ (Kd.reads_of_C HR0.out)))
                                      have HC351 := Aside0.mk hC71
                                      clear hA71 hC71 hi071 hsz71
                                      go_upto_region 20 with (first | ((with_reducible refine gate_callee (f := 27) rfl ?_); refine goesL_ (some 133) rfl rfl Tryd.func27 (by kernel_rfl) rfl #[.slice A0 (l0.take ((ji66) : Int).toNat).length c0, .int .i64 a1, .slice A2 l2.length c2, .slice A3 l3.length c3] rfl (by (try simp only [List.map_toArray, List.map_cons, List.map_nil]); first | done | (rw [show (l0.take ((ji66) : Int).toNat).length = (ji66).toNat from (by rw [List.length_take]; have h_ : ((ji66) : Int) ≤ (l0.length : Int) := of_decide_eq_true (by first | (with_reducible assumption) | assumption); omega)] <;> rfl) | (simp only [hji66]; rfl) | rfl | (simp only [List.length_drop, List.length_take]; rfl)) ?_; (with_reducible refine (valiselaw21_cheapest.calls kj52 _ _ (l0.take ((ji66) : Int).toNat) a1 _ _ l2 _ _ l3 t352 t353 _ ?side1 ?side2 ?side3 ?side4 ?side5 ?side6 ?side7 A69.out).mono ?_); (case side1 => repeat (first | exact (Kd.C_below HR351.out HB.out) | (with_reducible refine Kd.C_alloc ?_ _) | (with_reducible refine Kd.C_drewN ?_ _) | (with_reducible refine Kd.C_drew ?_))); (case side2 => exact HC351.out); (case side3 => repeat (first | exact (Kd.C_below HR2.out HB.out) | (with_reducible refine Kd.C_alloc ?_ _) | (with_reducible refine Kd.C_drewN ?_ _) | (with_reducible refine Kd.C_drew ?_))); (case side4 => exact HC2.out); (case side5 => repeat (first | exact (Kd.C_below HR3.out HB.out) | (with_reducible refine Kd.C_alloc ?_ _) | (with_reducible refine Kd.C_drewN ?_ _) | (with_reducible refine Kd.C_drew ?_))); (case side6 => exact HC3.out); (case side7 => repeat (first | exact HG.out | exact (Tabs.below HG.out (by repeat (first | (with_reducible first | exact HB.out | apply below_alloc | apply pw_below_drewN | apply below_drew1 | refine below_set ?_ GE339.out) | exact HB.out))) | (with_reducible refine Tabs.alloc ?_ _) | (with_reducible refine Tabs.drewN ?_ _) | (with_reducible refine Tabs.drew ?_))); rintro e w72 ⟨rfl, hb⟩; refine ⟨_, rfl, ?_⟩; have n0_ := Aside0.mk (blk_below (g := gb339) (o := .cells #[.int .i64 ((rd_T56 t334 (ji30)).f0), .int .i64 ((rd_T56 t334 (ji30)).f1), .int .u8 ((rd_T56 t334 (ji30)).f2)] 56 (0, 0)) (by (with_reducible repeat (first | refine blk_drewN ?_ _ | refine blk_drew ?_ | refine blk_alloc ?_ _)); exact BK339.out) hb); have n1_ := Aside0.mk (below_step (by repeat (first | (with_reducible first | exact HB.out | apply below_alloc | apply pw_below_drewN | apply below_drew1 | refine below_set ?_ GE339.out) | exact HB.out)) hb); clear BK339; clear HB; have BK339 := n0_; have HB := n1_; clear n0_ n1_; (try clear hb); (try clear hb2); (try clear hk); (try clear hi)))
                                      (try simp only [Act.put, List.setIfInBounds_toArray, List.set_cons_zero, List.set_cons_succ])
                                      go_cut [152] (fun v152 wc => ∃ (kq : Nat) (x152_69 : Bool), v152 = .bool x152_69 ∧ Aside0 (valiselaw21_SqueezeLast.j3 kq l0 a1 l2 l3 a4 a5 (l0.length : Int) t323 x152_69 = some r) ∧ Aside0 (kq ≤ kj52) ∧ Aside0 (wc.heap[gb339]? = some (.cells #[.int .i64 ((rd_T56 t334 (ji30)).f0), .int .i64 ((rd_T56 t334 (ji30)).f1), .int .u8 ((rd_T56 t334 (ji30)).f2)] 56 (0, 0))) ∧ Aside0 (Below w.heap.size w wc))
                                      case first =>
                                        have H := HC70.out
                                        clear HC70
                                        by_cases c73 : t353 = true
                                        · subst c73
                                          have H1 : (if (ji66) < (l0.length : Int) then (if 0 ≤ (wrap64 (rd l0 (ji66))) then (if (wrap64 (rd l0 (ji66))) < (l2.length : Int) then (valiselaw21_SqueezeLast.j3 kj52 l0 a1 l2 l3 a4 a5 (l0.length : Int) t323 (decide (t323 > (wrap64 (t352 + (rd l2 (wrap64 (rd l0 (ji66))))))))) else (none)) else (none)) else (none)) = some r := by rw [if_pos rfl] at H; exact H
                                          clear H
                                          have H := H1
                                          clear H1
                                          by_cases c74 : (ji66) < (l0.length : Int)
                                          · rw [if_pos c74] at H
                                            have c74b0 : decide ((ji66) < (l0.length : Int)) = true := decide_eq_true c74
                                            clear c74
                                            (first | rw [c74b0] | (simp only [i64_w, i32_w]; rw [c74b0]) | skip)
                                            obtain ⟨ji75, hji75⟩ : ∃ j_ : Int, (wrap64 (rd l0 (ji66))) = j_ := ⟨_, rfl⟩
                                            replace H : (if 0 ≤ (ji75) then (if (ji75) < (l2.length : Int) then (valiselaw21_SqueezeLast.j3 kj52 l0 a1 l2 l3 a4 a5 (l0.length : Int) t323 (decide (t323 > (wrap64 (t352 + (rd l2 (ji75))))))) else (none)) else (none)) = some r := by first | (rw [hji75] at H; exact H) | (simp only [hji75] at H ⊢; exact H)
                                            have hji75w : (IntKind.i64.wrap (rd l0 (ji66))) = ji75 := (i64_w _).trans hji75
                                            by_cases c76 : 0 ≤ (ji75)
                                            · rw [if_pos c76] at H
                                              have c76b0 : decide (0 ≤ (ji75)) = true := decide_eq_true c76
                                              clear c76
                                              by_cases c77 : (ji75) < (l2.length : Int)
                                              · rw [if_pos c77] at H
                                                have c77b0 : decide ((ji75) < (l2.length : Int)) = true := decide_eq_true c77
                                                clear c77
                                                have H' := Aside0.mk H
                                                clear H
                                                have p354 : 0 ≤ ((ji66) : Int) := of_decide_eq_true (by first | (with_reducible assumption) | assumption)
                                                have q354 : (ji66) < (l0.length : Int) := of_decide_eq_true (by first | (with_reducible assumption) | assumption)
                                                obtain ⟨ad354, e354, hx354_0⟩ := Kd.at_int HR0.out (ji66) p354 q354
                                                cases e354
                                                replace hx354_0 := (HB.out.cell (World.block_lt_of_cell? w _ hx354_0)).trans hx354_0
                                                replace p354 := eq_true p354
                                                replace q354 := eq_true q354
                                                have p355 : 0 ≤ ((ji75) : Int) := of_decide_eq_true (by first | (with_reducible assumption) | assumption)
                                                have q355 : (ji75) < (l2.length : Int) := of_decide_eq_true (by first | (with_reducible assumption) | assumption)
                                                obtain ⟨ad355, e355, hx355_0⟩ := Kd.at_int HR2.out (ji75) p355 q355
                                                cases e355
                                                replace hx355_0 := (HB.out.cell (World.block_lt_of_cell? w _ hx355_0)).trans hx355_0
                                                replace p355 := eq_true p355
                                                replace q355 := eq_true q355
                                                go_wp2
                                                go_meet
                                                case rel => exact ⟨_, (decide (t323 > (wrap64 (t352 + (rd l2 (ji75)))))), (by first | rfl | (simp; done) | (simp only [← hji75] <;> (first | rfl | simp)) | (simp [*]; done)), H', ⟨by have := HJ13.out; have := HJ32.out; have := HJ52.out; first | omega | exact Nat.le_refl _⟩, ⟨by (with_reducible repeat (first | refine blk_drewN ?_ _ | refine blk_drew ?_ | refine blk_alloc ?_ _)); exact BK339.out⟩, ⟨by repeat (first | (with_reducible first | exact HB.out | apply below_alloc | apply pw_below_drewN | apply below_drew1 | refine below_set ?_ GE339.out) | exact HB.out)⟩⟩
                                              · rw [if_neg c77] at H
                                                exact absurd H (by simp)
                                            · rw [if_neg c76] at H
                                              exact absurd H (by simp)
                                          · rw [if_neg c74] at H
                                            exact absurd H (by simp)
                                        · replace c73 := Bool.eq_false_iff.mpr c73
                                          subst c73
                                          have H1 : (valiselaw21_SqueezeLast.j3 kj52 l0 a1 l2 l3 a4 a5 (l0.length : Int) t323 true) = some r := by rw [if_neg (show ¬ (false = true) by decide)] at H; exact H
                                          clear H
                                          have H := H1
                                          clear H1
                                          have H' := Aside0.mk H
                                          clear H
                                          go_wp2
                                          go_meet
                                          case rel => exact ⟨_, (true), (by first | rfl | (simp; done) | (simp [*]; done)), H', ⟨by have := HJ13.out; have := HJ32.out; have := HJ52.out; first | omega | exact Nat.le_refl _⟩, ⟨by (with_reducible repeat (first | refine blk_drewN ?_ _ | refine blk_drew ?_ | refine blk_alloc ?_ _)); exact BK339.out⟩, ⟨by repeat (first | (with_reducible first | exact HB.out | apply below_alloc | apply pw_below_drewN | apply below_drew1 | refine below_set ?_ GE339.out) | exact HB.out)⟩⟩
                                      case rest =>
                                        clear HC70
                                        try clear c1
                                        try clear c2
                                        try clear p2
                                        try clear c3
                                        try clear p3
                                        try clear q3
                                        try clear hx3
                                        try clear c4
                                        try clear c5
                                        try clear c6
                                        try clear p6
                                        try clear c7
                                        try clear c8
                                        try clear c8b0
                                        try clear c8b1
                                        try clear c16
                                        try clear c22
                                        try clear c23
                                        try clear c24
                                        try clear c25
                                        try clear c25b0
                                        try clear c25b1
                                        try clear c25b2
                                        try clear c26
                                        try clear c26b0
                                        try clear c26b1
                                        try clear c27
                                        try clear c28
                                        try clear c28b0
                                        try clear c28b1
                                        try clear c28b2
                                        try clear c29
                                        try clear c31
                                        try clear c31b0
                                        try clear c32
                                        try clear c32b0
                                        try clear p33
                                        try clear q33
                                        try clear hx33
                                        try clear p35
                                        try clear q35
                                        try clear hx35
                                        try clear c38
                                        try clear c38b0
                                        try clear c46
                                        try clear c50
                                        try clear c50b0
                                        try clear c50b1
                                        try clear c51
                                        try clear c51b0
                                        try clear c51b1
                                        try clear c63
                                        try clear c64
                                        try clear p64
                                        try clear c65
                                        try clear c67
                                        try clear c67b0
                                        try clear c67b1
                                        try clear c68
                                        try clear c68b0
                                        try clear c68b1
                                        try clear c73
                                        try clear c74
                                        try clear c74b0
                                        try clear c76
                                        try clear c76b0
                                        try clear c77
                                        try clear c77b0
                                        try clear hcz36_0
                                        try clear hcz36_1
                                        try clear hcz36_2
                                        try clear hcz39_0
                                        try clear hcz39_1
                                        try clear hcz39_2
                                        try clear hcz42_0
                                        try clear hcz42_1
                                        try clear hcz42_2
                                        try clear hcz44_0
                                        try clear hcz44_1
                                        try clear hcz44_2
                                        try clear hcz54_0
                                        try clear hcz54_1
                                        try clear hcz54_2
                                        try clear hcz59_0
                                        try clear hcz59_1
                                        try clear hcz59_2
                                        try clear hfz36_0
                                        try clear hfz36_1
                                        try clear hfz36_2
                                        try clear hfz39_0
                                        try clear hfz39_1
                                        try clear hfz39_2
                                        try clear hfz42_0
                                        try clear hfz42_1
                                        try clear hfz42_2
                                        try clear hfz44_0
                                        try clear hfz44_1
                                        try clear hfz44_2
                                        try clear hfz54_0
                                        try clear hfz54_1
                                        try clear hfz54_2
                                        try clear hfz59_0
                                        try clear hfz59_1
                                        try clear hfz59_2
                                        try clear hx338_0
                                        try clear hx338_1
                                        try clear hx338_2
                                        try clear hx354_0
                                        try clear hx355_0
                                        try clear p2
                                        try clear p3
                                        try clear p33
                                        try clear p338
                                        try clear p354
                                        try clear p355
                                        try clear p6
                                        try clear p64
                                        try clear q3
                                        try clear q33
                                        try clear q338
                                        try clear q354
                                        try clear q355
                                        obtain ⟨kq, x152_69, rfl, HA, HJ69, BK339, HB⟩ := hcut
                                        cases kq with
                                        | zero => exact absurd HA.out (by simp [valiselaw21_SqueezeLast.j3])
                                        | succ kj69 =>
                                          have H := HA.out
                                          clear HA
                                          simp only [valiselaw21_SqueezeLast.j3] at H
                                          by_cases c78 : x152_69 = true
                                          · subst c78
                                            have H1 : (some false) = some r := by rw [if_pos rfl] at H; exact H
                                            clear H
                                            have H := H1
                                            clear H1
                                            obtain rfl := Option.some.inj H
                                            go_wp2
                                            go_ret
                                            exact ⟨by first | rfl | (simp [errW_none, errW_some] <;> rfl) | (simp only [← hji30, ← hji49, ← hji66]; first | rfl | (simp [errW_none, errW_some] <;> rfl)) | (simp [*, errW_none, errW_some] <;> rfl), by repeat (first | (with_reducible first | exact HB.out | apply below_alloc | apply pw_below_drewN | apply below_drew1 | refine below_set ?_ GE339.out) | exact HB.out)⟩
                                          · replace c78 := Bool.eq_false_iff.mpr c78
                                            subst c78
                                            have H1 : ((valiselaw21_fits.f kj69 l0 a4 a5 a1).bind fun t356 => (if t356 = true then ((valiselaw21_costs.f kj69 (([(⟨a4, a5, 0⟩ : S56)] : List (S56))) a1 l2 l3).bind fun bt360 => (if 0 ≤ (wrap64 ((l0.length : Int) - a4)) then (if (wrap64 ((l0.length : Int) - a4)) ≤ (l0.length : Int) then ((valiselaw21_cheapest.f kj69 (l0.take ((wrap64 ((l0.length : Int) - a4)) : Int).toNat) a1 l2 l3).bind fun bt363 => (if bt360.2 = true then (if bt363.2 = true then (some (decide (t323 ≤ (wrap64 (bt363.1 + bt360.1))))) else (some false)) else (some false))) else (none)) else (none))) else (some true))) = some r := by rw [if_neg (show ¬ (false = true) by decide)] at H; exact H
                                            clear H
                                            have H := H1
                                            clear H1
                                            replace H := Option.bind_eq_some_iff.mp H
                                            obtain ⟨t356, A790, H⟩ := H
                                            replace H : (if t356 = true then ((valiselaw21_costs.f kj69 (([(⟨a4, a5, 0⟩ : S56)] : List (S56))) a1 l2 l3).bind fun bt360 => (if 0 ≤ (wrap64 ((l0.length : Int) - a4)) then (if (wrap64 ((l0.length : Int) - a4)) ≤ (l0.length : Int) then ((valiselaw21_cheapest.f kj69 (l0.take ((wrap64 ((l0.length : Int) - a4)) : Int).toNat) a1 l2 l3).bind fun bt363 => (if bt360.2 = true then (if bt363.2 = true then (some (decide (t323 ≤ (wrap64 (bt363.1 + bt360.1))))) else (some false)) else (some false))) else (none)) else (none))) else (some true)) = some r := H
                                            have A79 := Aside0.mk A790
                                            clear A790
                                            by_cases c80 : t356 = true
                                            · subst c80
                                              have H1 : ((valiselaw21_costs.f kj69 (([(⟨a4, a5, 0⟩ : S56)] : List (S56))) a1 l2 l3).bind fun bt360 => (if 0 ≤ (wrap64 ((l0.length : Int) - a4)) then (if (wrap64 ((l0.length : Int) - a4)) ≤ (l0.length : Int) then ((valiselaw21_cheapest.f kj69 (l0.take ((wrap64 ((l0.length : Int) - a4)) : Int).toNat) a1 l2 l3).bind fun bt363 => (if bt360.2 = true then (if bt363.2 = true then (some (decide (t323 ≤ (wrap64 (bt363.1 + bt360.1))))) else (some false)) else (some false))) else (none)) else (none))) = some r := by rw [if_pos rfl] at H; exact H
                                              clear H
                                              have H := H1
                                              clear H1
                                              obtain ⟨y357, hy357⟩ : ∃ y_ : List (S56), y_ = (([(⟨a4, a5, 0⟩ : S56)] : List (S56))) := ⟨_, rfl⟩
                                              replace H : ((valiselaw21_costs.f kj69 y357 a1 l2 l3).bind fun bt360 => (if 0 ≤ (wrap64 ((l0.length : Int) - a4)) then (if (wrap64 ((l0.length : Int) - a4)) ≤ (l0.length : Int) then ((valiselaw21_cheapest.f kj69 (l0.take ((wrap64 ((l0.length : Int) - a4)) : Int).toNat) a1 l2 l3).bind fun bt363 => (if bt360.2 = true then (if bt363.2 = true then (some (decide (t323 ≤ (wrap64 (bt363.1 + bt360.1))))) else (some false)) else (some false))) else (none)) else (none))) = some r := by first | (rw [hy357]; with_reducible exact H) | (have H2_ := (Option.bind_some _ _).symm.trans H; rw [hy357]; with_reducible exact H2_) | (have H2_ := (Option.bind_some _ _).symm.trans H; with_reducible exact H2_) | with_reducible exact H | (rw [hy357]; exact H) | exact H
                                              have Ny357 := Aside0.mk hy357
                                              clear hy357
                                              replace H := Option.bind_eq_some_iff.mp H
                                              obtain ⟨⟨t360, t361⟩, A810, H⟩ := H
                                              replace H : (if 0 ≤ (wrap64 ((l0.length : Int) - a4)) then (if (wrap64 ((l0.length : Int) - a4)) ≤ (l0.length : Int) then ((valiselaw21_cheapest.f kj69 (l0.take ((wrap64 ((l0.length : Int) - a4)) : Int).toNat) a1 l2 l3).bind fun bt363 => (if t361 = true then (if bt363.2 = true then (some (decide (t323 ≤ (wrap64 (bt363.1 + t360))))) else (some false)) else (some false))) else (none)) else (none)) = some r := H
                                              have A81 := Aside0.mk A810
                                              clear A810
                                              obtain ⟨ji82, hji82⟩ : ∃ j_ : Int, (wrap64 ((l0.length : Int) - a4)) = j_ := ⟨_, rfl⟩
                                              replace H : (if 0 ≤ (ji82) then (if (ji82) ≤ (l0.length : Int) then ((valiselaw21_cheapest.f kj69 (l0.take ((ji82) : Int).toNat) a1 l2 l3).bind fun bt363 => (if t361 = true then (if bt363.2 = true then (some (decide (t323 ≤ (wrap64 (bt363.1 + t360))))) else (some false)) else (some false))) else (none)) else (none)) = some r := by first | (rw [hji82] at H; exact H) | (simp only [hji82] at H ⊢; exact H)
                                              (try rw [hji82] at A79)
                                              (try rw [hji82] at A81)
                                              have hji82w : (IntKind.i64.wrap ((l0.length : Int) - a4)) = ji82 := (i64_w _).trans hji82
                                              by_cases c83 : 0 ≤ (ji82)
                                              · rw [if_pos c83] at H
                                                have c83b0 := eq_true c83
                                                have c83b1 : decide (0 ≤ (ji82)) = true := decide_eq_true c83
                                                clear c83
                                                by_cases c84 : (ji82) ≤ (l0.length : Int)
                                                · rw [if_pos c84] at H
                                                  have c84b0 := eq_true c84
                                                  have c84b1 : decide ((ji82) ≤ (l0.length : Int)) = true := decide_eq_true c84
                                                  clear c84
                                                  replace H := Option.bind_eq_some_iff.mp H
                                                  obtain ⟨⟨t363, t364⟩, A850, H⟩ := H
                                                  replace H : (if t361 = true then (if t364 = true then (some (decide (t323 ≤ (wrap64 (t363 + t360))))) else (some false)) else (some false)) = some r := H
                                                  have A85 := Aside0.mk A850
                                                  clear A850
                                                  by_cases c86 : t361 = true
                                                  · subst c86
                                                    have H1 : (if t364 = true then (some (decide (t323 ≤ (wrap64 (t363 + t360))))) else (some false)) = some r := by rw [if_pos rfl] at H; exact H
                                                    clear H
                                                    have H := H1
                                                    clear H1
                                                    by_cases c87 : t364 = true
                                                    · subst c87
                                                      have H1 : (some (decide (t323 ≤ (wrap64 (t363 + t360))))) = some r := by rw [if_pos rfl] at H; exact H
                                                      clear H
                                                      have H := H1
                                                      clear H1
                                                      obtain rfl := Option.some.inj H
                                                      go_wp2_with (first | ((with_reducible refine gate_callee (f := 30) rfl ?_); refine goesL_ (some 157) rfl rfl Tryd.func30 (by kernel_rfl) rfl #[.slice A0 l0.length c0, .int .i64 a4, .int .i64 a5, .int .i64 a1] rfl (by (try simp only [List.map_toArray, List.map_cons, List.map_nil]); first | done | rfl | (simp only [List.length_drop, List.length_take]; rfl)) ?_; (with_reducible refine (valiselaw21_fits.calls kj69 _ _ l0 a4 a5 a1 true _ ?side1 ?side2 A79.out).mono ?_); (case side1 => repeat (first | exact (Kd.C_below HR0.out HB.out) | (with_reducible refine Kd.C_alloc ?_ _) | (with_reducible refine Kd.C_drewN ?_ _) | (with_reducible refine Kd.C_drew ?_))); (case side2 => exact HC0.out); rintro e w' ⟨rfl, ⟨nd, rfl⟩⟩; refine ⟨_, rfl, ?_⟩) | ((with_reducible refine gate_dst (N := 163) rfl ?_); (try (refine gate_guard (by rfl) ?_; dsimp only)); refine Kd.R_lit k56 _ 56 ?hg (N := 163) ?hd (xs := ([(⟨a4, a5, 0⟩ : S56)] : List (S56))) (inner := [.int .i64 a4, .int .i64 a5, .int .u8 0]) (ok := fun _ => True) (okp := fun _ => True) ?hr ?hp (fun _ hk => hk) trivial (Below.refl _ _) (Nat.le_refl _) (by simp) ?_; (case hd => rfl); (case hg => rfl); (case hr => first | (go_simp; done) | (go_simp; rfl)); (case hp => exact (Reps.c3 (show Kd.M k56 _ _ _ (⟨a4, a5, 0⟩ : S56) [.int .i64 a4, .int .i64 a5, .int .u8 0] from (k56_mkM _ _ _ (⟨a4, a5, 0⟩ : S56) )) (Reps.none _ _))); intro v358 w88 ho89 hb hg_ hnew_; clear hg_ hnew_; (first | rw [← Ny357.out] at ho89 | (simp only [Int.reduceToNat] at ho89; rw [← Ny357.out] at ho89)); have n0_ := Aside0.mk (Kd.R_lower (Kd.R_newB ho89 (g := gb339) (o := .cells #[.int .i64 ((rd_T56 t334 (ji30)).f0), .int .i64 ((rd_T56 t334 (ji30)).f1), .int .u8 ((rd_T56 t334 (ji30)).f2)] 56 (0, 0)) (by (with_reducible repeat (first | refine blk_drewN ?_ _ | refine blk_drew ?_ | refine blk_alloc ?_ _)); exact BK339.out)) (below_size (by repeat (first | (with_reducible first | exact HB.out | apply below_alloc | apply pw_below_drewN | apply below_drew1 | refine below_set ?_ GE339.out) | exact HB.out)))); have n1_ := Aside0.mk (blk_below (g := gb339) (o := .cells #[.int .i64 ((rd_T56 t334 (ji30)).f0), .int .i64 ((rd_T56 t334 (ji30)).f1), .int .u8 ((rd_T56 t334 (ji30)).f2)] 56 (0, 0)) (by (with_reducible repeat (first | refine blk_drewN ?_ _ | refine blk_drew ?_ | refine blk_alloc ?_ _)); exact BK339.out) hb); have n2_ := Aside0.mk (below_step (by repeat (first | (with_reducible first | exact HB.out | apply below_alloc | apply pw_below_drewN | apply below_drew1 | refine below_set ?_ GE339.out) | exact HB.out)) hb); clear BK339; clear HB; have HO359 := n0_; have BK339 := n1_; have HB := n2_; clear n0_ n1_ n2_; clear hb ho89; obtain ⟨Ao90, co90, eo90⟩ := Kd.R_slice HO359.out; subst eo90) | ((with_reducible refine gate_callee (f := 29) rfl ?_); refine goesL_ (some 167) rfl rfl Tryd.func29 (by kernel_rfl) rfl #[.slice Ao90 y357.length co90, .int .i64 a1, .slice A2 l2.length c2, .slice A3 l3.length c3] rfl (by (try simp only [List.map_toArray, List.map_cons, List.map_nil]); first | done | rfl | (simp only [List.length_drop, List.length_take]; rfl)) ?_; (with_reducible refine (valiselaw21_costs.calls kj69 _ _ y357 a1 _ _ l2 _ _ l3 t360 true _ ?side1 ?side2 ?side3 ?side4 ?side5 ?side6 ?side7 A81.out).mono ?_); (case side1 => repeat (first | exact (Kd.R_reads' HO359.out).2.2 | (with_reducible refine Kd.C_alloc ?_ _) | (with_reducible refine Kd.C_drewN ?_ _) | (with_reducible refine Kd.C_drew ?_))); (case side2 => exact (Kd.R_reads' HO359.out).2.1); (case side3 => repeat (first | exact (Kd.C_below HR2.out HB.out) | (with_reducible refine Kd.C_alloc ?_ _) | (with_reducible refine Kd.C_drewN ?_ _) | (with_reducible refine Kd.C_drew ?_))); (case side4 => exact HC2.out); (case side5 => repeat (first | exact (Kd.C_below HR3.out HB.out) | (with_reducible refine Kd.C_alloc ?_ _) | (with_reducible refine Kd.C_drewN ?_ _) | (with_reducible refine Kd.C_drew ?_))); (case side6 => exact HC3.out); (case side7 => repeat (first | exact HG.out | exact (Tabs.below HG.out (by repeat (first | (with_reducible first | exact HB.out | apply below_alloc | apply pw_below_drewN | apply below_drew1 | refine below_set ?_ GE339.out) | exact HB.out))) | (with_reducible refine Tabs.alloc ?_ _) | (with_reducible refine Tabs.drewN ?_ _) | (with_reducible refine Tabs.drew ?_))); rintro e w91 ⟨rfl, hb⟩; refine ⟨_, rfl, ?_⟩; have n0_ := Aside0.mk (Kd.R_below (by (with_reducible repeat (first | apply Kd.R_alloc | apply Kd.R_drewN | apply Kd.R_drew)); exact HO359.out) hb); have n1_ := Aside0.mk (blk_below (g := gb339) (o := .cells #[.int .i64 ((rd_T56 t334 (ji30)).f0), .int .i64 ((rd_T56 t334 (ji30)).f1), .int .u8 ((rd_T56 t334 (ji30)).f2)] 56 (0, 0)) (by (with_reducible repeat (first | refine blk_drewN ?_ _ | refine blk_drew ?_ | refine blk_alloc ?_ _)); exact BK339.out) hb); have n2_ := Aside0.mk (below_step (by repeat (first | (with_reducible first | exact HB.out | apply below_alloc | apply pw_below_drewN | apply below_drew1 | refine below_set ?_ GE339.out) | exact HB.out)) hb); clear HO359; clear BK339; clear HB; have HO359 := n0_; have BK339 := n1_; have HB := n2_; clear n0_ n1_ n2_; (try clear hb); (try clear hb2); (try clear hk); (try clear hi); obtain ⟨i092, hi092, _, hsz92, _⟩ := info_parts info5; obtain ⟨hcut92, hA92, hC92⟩ := print_take_of (P := Tryd.prog) (Value.int .u8) 0 44 5 .i64 Tryd.underlying44 hi092 hsz92 A0 c0 l0 (ji82) (of_decide_eq_true (by first | (with_reducible assumption) | assumption)) (of_decide_eq_true (by first | (with_reducible assumption) | assumption)) HC0.out; have HR362 := Aside0.mk (Kd.C_of_reads (h1 := fun _ => rfl) (hA92 _ (Kd.reads_of_C HR0.out))); have HC362 := Aside0.mk hC92; clear hA92 hC92 hi092 hsz92) | ((with_reducible refine gate_callee (f := 27) rfl ?_); refine goesL_ (some 179) rfl rfl Tryd.func27 (by kernel_rfl) rfl #[.slice A0 (l0.take ((ji82) : Int).toNat).length c0, .int .i64 a1, .slice A2 l2.length c2, .slice A3 l3.length c3] rfl (by (try simp only [List.map_toArray, List.map_cons, List.map_nil]); first | done | (rw [show (l0.take ((ji82) : Int).toNat).length = (ji82).toNat from (by rw [List.length_take]; have h_ : ((ji82) : Int) ≤ (l0.length : Int) := of_decide_eq_true (by first | (with_reducible assumption) | assumption); omega)] <;> rfl) | (simp only [hji82]; rfl) | rfl | (simp only [List.length_drop, List.length_take]; rfl)) ?_; (with_reducible refine (valiselaw21_cheapest.calls kj69 _ _ (l0.take ((ji82) : Int).toNat) a1 _ _ l2 _ _ l3 t363 true _ ?side1 ?side2 ?side3 ?side4 ?side5 ?side6 ?side7 A85.out).mono ?_); (case side1 => repeat (first | exact (Kd.C_below HR362.out HB.out) | (with_reducible refine Kd.C_alloc ?_ _) | (with_reducible refine Kd.C_drewN ?_ _) | (with_reducible refine Kd.C_drew ?_))); (case side2 => exact HC362.out); (case side3 => repeat (first | exact (Kd.C_below HR2.out HB.out) | (with_reducible refine Kd.C_alloc ?_ _) | (with_reducible refine Kd.C_drewN ?_ _) | (with_reducible refine Kd.C_drew ?_))); (case side4 => exact HC2.out); (case side5 => repeat (first | exact (Kd.C_below HR3.out HB.out) | (with_reducible refine Kd.C_alloc ?_ _) | (with_reducible refine Kd.C_drewN ?_ _) | (with_reducible refine Kd.C_drew ?_))); (case side6 => exact HC3.out); (case side7 => repeat (first | exact HG.out | exact (Tabs.below HG.out (by repeat (first | (with_reducible first | exact HB.out | apply below_alloc | apply pw_below_drewN | apply below_drew1 | refine below_set ?_ GE339.out) | exact HB.out))) | (with_reducible refine Tabs.alloc ?_ _) | (with_reducible refine Tabs.drewN ?_ _) | (with_reducible refine Tabs.drew ?_))); rintro e w93 ⟨rfl, hb⟩; refine ⟨_, rfl, ?_⟩; have n0_ := Aside0.mk (Kd.R_below (by (with_reducible repeat (first | apply Kd.R_alloc | apply Kd.R_drewN | apply Kd.R_drew)); exact HO359.out) hb); have n1_ := Aside0.mk (blk_below (g := gb339) (o := .cells #[.int .i64 ((rd_T56 t334 (ji30)).f0), .int .i64 ((rd_T56 t334 (ji30)).f1), .int .u8 ((rd_T56 t334 (ji30)).f2)] 56 (0, 0)) (by (with_reducible repeat (first | refine blk_drewN ?_ _ | refine blk_drew ?_ | refine blk_alloc ?_ _)); exact BK339.out) hb); have n2_ := Aside0.mk (below_step (by repeat (first | (with_reducible first | exact HB.out | apply below_alloc | apply pw_below_drewN | apply below_drew1 | refine below_set ?_ GE339.out) | exact HB.out)) hb); clear HO359; clear BK339; clear HB; have HO359 := n0_; have BK339 := n1_; have HB := n2_; clear n0_ n1_ n2_; (try clear hb); (try clear hb2); (try clear hk); (try clear hi)))
                                                      go_ret
                                                      exact ⟨by first | rfl | (simp [errW_none, errW_some] <;> rfl) | (simp only [← hji30, ← hji49, ← hji66, ← hji82]; first | rfl | (simp [errW_none, errW_some] <;> rfl)) | (simp [*, errW_none, errW_some] <;> rfl), by repeat (first | (with_reducible first | exact HB.out | apply below_alloc | apply pw_below_drewN | apply below_drew1 | refine below_set ?_ GE339.out) | exact HB.out)⟩
                                                    · replace c87 := Bool.eq_false_iff.mpr c87
                                                      subst c87
                                                      have H1 : (some false) = some r := by rw [if_neg (show ¬ (false = true) by decide)] at H; exact H
                                                      clear H
                                                      have H := H1
                                                      clear H1
                                                      obtain rfl := Option.some.inj H
                                                      go_wp2_with (first | ((with_reducible refine gate_callee (f := 30) rfl ?_); refine goesL_ (some 157) rfl rfl Tryd.func30 (by kernel_rfl) rfl #[.slice A0 l0.length c0, .int .i64 a4, .int .i64 a5, .int .i64 a1] rfl (by (try simp only [List.map_toArray, List.map_cons, List.map_nil]); first | done | rfl | (simp only [List.length_drop, List.length_take]; rfl)) ?_; (with_reducible refine (valiselaw21_fits.calls kj69 _ _ l0 a4 a5 a1 true _ ?side1 ?side2 A79.out).mono ?_); (case side1 => repeat (first | exact (Kd.C_below HR0.out HB.out) | (with_reducible refine Kd.C_alloc ?_ _) | (with_reducible refine Kd.C_drewN ?_ _) | (with_reducible refine Kd.C_drew ?_))); (case side2 => exact HC0.out); rintro e w' ⟨rfl, ⟨nd, rfl⟩⟩; refine ⟨_, rfl, ?_⟩) | ((with_reducible refine gate_dst (N := 163) rfl ?_); (try (refine gate_guard (by rfl) ?_; dsimp only)); refine Kd.R_lit k56 _ 56 ?hg (N := 163) ?hd (xs := ([(⟨a4, a5, 0⟩ : S56)] : List (S56))) (inner := [.int .i64 a4, .int .i64 a5, .int .u8 0]) (ok := fun _ => True) (okp := fun _ => True) ?hr ?hp (fun _ hk => hk) trivial (Below.refl _ _) (Nat.le_refl _) (by simp) ?_; (case hd => rfl); (case hg => rfl); (case hr => first | (go_simp; done) | (go_simp; rfl)); (case hp => exact (Reps.c3 (show Kd.M k56 _ _ _ (⟨a4, a5, 0⟩ : S56) [.int .i64 a4, .int .i64 a5, .int .u8 0] from (k56_mkM _ _ _ (⟨a4, a5, 0⟩ : S56) )) (Reps.none _ _))); intro v358 w94 ho95 hb hg_ hnew_; clear hg_ hnew_; (first | rw [← Ny357.out] at ho95 | (simp only [Int.reduceToNat] at ho95; rw [← Ny357.out] at ho95)); have n0_ := Aside0.mk (Kd.R_lower (Kd.R_newB ho95 (g := gb339) (o := .cells #[.int .i64 ((rd_T56 t334 (ji30)).f0), .int .i64 ((rd_T56 t334 (ji30)).f1), .int .u8 ((rd_T56 t334 (ji30)).f2)] 56 (0, 0)) (by (with_reducible repeat (first | refine blk_drewN ?_ _ | refine blk_drew ?_ | refine blk_alloc ?_ _)); exact BK339.out)) (below_size (by repeat (first | (with_reducible first | exact HB.out | apply below_alloc | apply pw_below_drewN | apply below_drew1 | refine below_set ?_ GE339.out) | exact HB.out)))); have n1_ := Aside0.mk (blk_below (g := gb339) (o := .cells #[.int .i64 ((rd_T56 t334 (ji30)).f0), .int .i64 ((rd_T56 t334 (ji30)).f1), .int .u8 ((rd_T56 t334 (ji30)).f2)] 56 (0, 0)) (by (with_reducible repeat (first | refine blk_drewN ?_ _ | refine blk_drew ?_ | refine blk_alloc ?_ _)); exact BK339.out) hb); have n2_ := Aside0.mk (below_step (by repeat (first | (with_reducible first | exact HB.out | apply below_alloc | apply pw_below_drewN | apply below_drew1 | refine below_set ?_ GE339.out) | exact HB.out)) hb); clear BK339; clear HB; have HO359 := n0_; have BK339 := n1_; have HB := n2_; clear n0_ n1_ n2_; clear hb ho95; obtain ⟨Ao96, co96, eo96⟩ := Kd.R_slice HO359.out; subst eo96) | ((with_reducible refine gate_callee (f := 29) rfl ?_); refine goesL_ (some 167) rfl rfl Tryd.func29 (by kernel_rfl) rfl #[.slice Ao96 y357.length co96, .int .i64 a1, .slice A2 l2.length c2, .slice A3 l3.length c3] rfl (by (try simp only [List.map_toArray, List.map_cons, List.map_nil]); first | done | rfl | (simp only [List.length_drop, List.length_take]; rfl)) ?_; (with_reducible refine (valiselaw21_costs.calls kj69 _ _ y357 a1 _ _ l2 _ _ l3 t360 true _ ?side1 ?side2 ?side3 ?side4 ?side5 ?side6 ?side7 A81.out).mono ?_); (case side1 => repeat (first | exact (Kd.R_reads' HO359.out).2.2 | (with_reducible refine Kd.C_alloc ?_ _) | (with_reducible refine Kd.C_drewN ?_ _) | (with_reducible refine Kd.C_drew ?_))); (case side2 => exact (Kd.R_reads' HO359.out).2.1); (case side3 => repeat (first | exact (Kd.C_below HR2.out HB.out) | (with_reducible refine Kd.C_alloc ?_ _) | (with_reducible refine Kd.C_drewN ?_ _) | (with_reducible refine Kd.C_drew ?_))); (case side4 => exact HC2.out); (case side5 => repeat (first | exact (Kd.C_below HR3.out HB.out) | (with_reducible refine Kd.C_alloc ?_ _) | (with_reducible refine Kd.C_drewN ?_ _) | (with_reducible refine Kd.C_drew ?_))); (case side6 => exact HC3.out); (case side7 => repeat (first | exact HG.out | exact (Tabs.below HG.out (by repeat (first | (with_reducible first | exact HB.out | apply below_alloc | apply pw_below_drewN | apply below_drew1 | refine below_set ?_ GE339.out) | exact HB.out))) | (with_reducible refine Tabs.alloc ?_ _) | (with_reducible refine Tabs.drewN ?_ _) | (with_reducible refine Tabs.drew ?_))); rintro e w97 ⟨rfl, hb⟩; refine ⟨_, rfl, ?_⟩; have n0_ := Aside0.mk (Kd.R_below (by (with_reducible repeat (first | apply Kd.R_alloc | apply Kd.R_drewN | apply Kd.R_drew)); exact HO359.out) hb); have n1_ := Aside0.mk (blk_below (g := gb339) (o := .cells #[.int .i64 ((rd_T56 t334 (ji30)).f0), .int .i64 ((rd_T56 t334 (ji30)).f1), .int .u8 ((rd_T56 t334 (ji30)).f2)] 56 (0, 0)) (by (with_reducible repeat (first | refine blk_drewN ?_ _ | refine blk_drew ?_ | refine blk_alloc ?_ _)); exact BK339.out) hb); have n2_ := Aside0.mk (below_step (by repeat (first | (with_reducible first | exact HB.out | apply below_alloc | apply pw_below_drewN | apply below_drew1 | refine below_set ?_ GE339.out) | exact HB.out)) hb); clear HO359; clear BK339; clear HB; have HO359 := n0_; have BK339 := n1_; have HB := n2_; clear n0_ n1_ n2_; (try clear hb); (try clear hb2); (try clear hk); (try clear hi); obtain ⟨i098, hi098, _, hsz98, _⟩ := info_parts info5; obtain ⟨hcut98, hA98, hC98⟩ := print_take_of (P := Tryd.prog) (Value.int .u8) 0 44 5 .i64 Tryd.underlying44 hi098 hsz98 A0 c0 l0 (ji82) (of_decide_eq_true (by first | (with_reducible assumption) | assumption)) (of_decide_eq_true (by first | (with_reducible assumption) | assumption)) HC0.out; have HR362 := Aside0.mk (Kd.C_of_reads (h1 := fun _ => rfl) (hA98 _ (Kd.reads_of_C HR0.out))); have HC362 := Aside0.mk hC98; clear hA98 hC98 hi098 hsz98) | ((with_reducible refine gate_callee (f := 27) rfl ?_); refine goesL_ (some 179) rfl rfl Tryd.func27 (by kernel_rfl) rfl #[.slice A0 (l0.take ((ji82) : Int).toNat).length c0, .int .i64 a1, .slice A2 l2.length c2, .slice A3 l3.length c3] rfl (by (try simp only [List.map_toArray, List.map_cons, List.map_nil]); first | done | (rw [show (l0.take ((ji82) : Int).toNat).length = (ji82).toNat from (by rw [List.length_take]; have h_ : ((ji82) : Int) ≤ (l0.length : Int) := of_decide_eq_true (by first | (with_reducible assumption) | assumption); omega)] <;> rfl) | (simp only [hji82]; rfl) | rfl | (simp only [List.length_drop, List.length_take]; rfl)) ?_; (with_reducible refine (valiselaw21_cheapest.calls kj69 _ _ (l0.take ((ji82) : Int).toNat) a1 _ _ l2 _ _ l3 t363 false _ ?side1 ?side2 ?side3 ?side4 ?side5 ?side6 ?side7 A85.out).mono ?_); (case side1 => repeat (first | exact (Kd.C_below HR362.out HB.out) | (with_reducible refine Kd.C_alloc ?_ _) | (with_reducible refine Kd.C_drewN ?_ _) | (with_reducible refine Kd.C_drew ?_))); (case side2 => exact HC362.out); (case side3 => repeat (first | exact (Kd.C_below HR2.out HB.out) | (with_reducible refine Kd.C_alloc ?_ _) | (with_reducible refine Kd.C_drewN ?_ _) | (with_reducible refine Kd.C_drew ?_))); (case side4 => exact HC2.out); (case side5 => repeat (first | exact (Kd.C_below HR3.out HB.out) | (with_reducible refine Kd.C_alloc ?_ _) | (with_reducible refine Kd.C_drewN ?_ _) | (with_reducible refine Kd.C_drew ?_))); (case side6 => exact HC3.out); (case side7 => repeat (first | exact HG.out | exact (Tabs.below HG.out (by repeat (first | (with_reducible first | exact HB.out | apply below_alloc | apply pw_below_drewN | apply below_drew1 | refine below_set ?_ GE339.out) | exact HB.out))) | (with_reducible refine Tabs.alloc ?_ _) | (with_reducible refine Tabs.drewN ?_ _) | (with_reducible refine Tabs.drew ?_))); rintro e w99 ⟨rfl, hb⟩; refine ⟨_, rfl, ?_⟩; have n0_ := Aside0.mk (Kd.R_below (by (with_reducible repeat (first | apply Kd.R_alloc | apply Kd.R_drewN | apply Kd.R_drew)); exact HO359.out) hb); have n1_ := Aside0.mk (blk_below (g := gb339) (o := .cells #[.int .i64 ((rd_T56 t334 (ji30)).f0), .int .i64 ((rd_T56 t334 (ji30)).f1), .int .u8 ((rd_T56 t334 (ji30)).f2)] 56 (0, 0)) (by (with_reducible repeat (first | refine blk_drewN ?_ _ | refine blk_drew ?_ | refine blk_alloc ?_ _)); exact BK339.out) hb); have n2_ := Aside0.mk (below_step (by repeat (first | (with_reducible first | exact HB.out | apply below_alloc | apply pw_below_drewN | apply below_drew1 | refine below_set ?_ GE339.out) | exact HB.out)) hb); clear HO359; clear BK339; clear HB; have HO359 := n0_; have BK339 := n1_; have HB := n2_; clear n0_ n1_ n2_; (try clear hb); (try clear hb2); (try clear hk); (try clear hi)))
                                                      go_ret
                                                      exact ⟨by first | rfl | (simp [errW_none, errW_some] <;> rfl) | (simp only [← hji30, ← hji49, ← hji66, ← hji82]; first | rfl | (simp [errW_none, errW_some] <;> rfl)) | (simp [*, errW_none, errW_some] <;> rfl), by repeat (first | (with_reducible first | exact HB.out | apply below_alloc | apply pw_below_drewN | apply below_drew1 | refine below_set ?_ GE339.out) | exact HB.out)⟩
                                                  · replace c86 := Bool.eq_false_iff.mpr c86
                                                    subst c86
                                                    have H1 : (some false) = some r := by rw [if_neg (show ¬ (false = true) by decide)] at H; exact H
                                                    clear H
                                                    have H := H1
                                                    clear H1
                                                    obtain rfl := Option.some.inj H
                                                    go_wp2_with (first | ((with_reducible refine gate_callee (f := 30) rfl ?_); refine goesL_ (some 157) rfl rfl Tryd.func30 (by kernel_rfl) rfl #[.slice A0 l0.length c0, .int .i64 a4, .int .i64 a5, .int .i64 a1] rfl (by (try simp only [List.map_toArray, List.map_cons, List.map_nil]); first | done | rfl | (simp only [List.length_drop, List.length_take]; rfl)) ?_; (with_reducible refine (valiselaw21_fits.calls kj69 _ _ l0 a4 a5 a1 true _ ?side1 ?side2 A79.out).mono ?_); (case side1 => repeat (first | exact (Kd.C_below HR0.out HB.out) | (with_reducible refine Kd.C_alloc ?_ _) | (with_reducible refine Kd.C_drewN ?_ _) | (with_reducible refine Kd.C_drew ?_))); (case side2 => exact HC0.out); rintro e w' ⟨rfl, ⟨nd, rfl⟩⟩; refine ⟨_, rfl, ?_⟩) | ((with_reducible refine gate_dst (N := 163) rfl ?_); (try (refine gate_guard (by rfl) ?_; dsimp only)); refine Kd.R_lit k56 _ 56 ?hg (N := 163) ?hd (xs := ([(⟨a4, a5, 0⟩ : S56)] : List (S56))) (inner := [.int .i64 a4, .int .i64 a5, .int .u8 0]) (ok := fun _ => True) (okp := fun _ => True) ?hr ?hp (fun _ hk => hk) trivial (Below.refl _ _) (Nat.le_refl _) (by simp) ?_; (case hd => rfl); (case hg => rfl); (case hr => first | (go_simp; done) | (go_simp; rfl)); (case hp => exact (Reps.c3 (show Kd.M k56 _ _ _ (⟨a4, a5, 0⟩ : S56) [.int .i64 a4, .int .i64 a5, .int .u8 0] from (k56_mkM _ _ _ (⟨a4, a5, 0⟩ : S56) )) (Reps.none _ _))); intro v358 w100 ho101 hb hg_ hnew_; clear hg_ hnew_; (first | rw [← Ny357.out] at ho101 | (simp only [Int.reduceToNat] at ho101; rw [← Ny357.out] at ho101)); have n0_ := Aside0.mk (Kd.R_lower (Kd.R_newB ho101 (g := gb339) (o := .cells #[.int .i64 ((rd_T56 t334 (ji30)).f0), .int .i64 ((rd_T56 t334 (ji30)).f1), .int .u8 ((rd_T56 t334 (ji30)).f2)] 56 (0, 0)) (by (with_reducible repeat (first | refine blk_drewN ?_ _ | refine blk_drew ?_ | refine blk_alloc ?_ _)); exact BK339.out)) (below_size (by repeat (first | (with_reducible first | exact HB.out | apply below_alloc | apply pw_below_drewN | apply below_drew1 | refine below_set ?_ GE339.out) | exact HB.out)))); have n1_ := Aside0.mk (blk_below (g := gb339) (o := .cells #[.int .i64 ((rd_T56 t334 (ji30)).f0), .int .i64 ((rd_T56 t334 (ji30)).f1), .int .u8 ((rd_T56 t334 (ji30)).f2)] 56 (0, 0)) (by (with_reducible repeat (first | refine blk_drewN ?_ _ | refine blk_drew ?_ | refine blk_alloc ?_ _)); exact BK339.out) hb); have n2_ := Aside0.mk (below_step (by repeat (first | (with_reducible first | exact HB.out | apply below_alloc | apply pw_below_drewN | apply below_drew1 | refine below_set ?_ GE339.out) | exact HB.out)) hb); clear BK339; clear HB; have HO359 := n0_; have BK339 := n1_; have HB := n2_; clear n0_ n1_ n2_; clear hb ho101; obtain ⟨Ao102, co102, eo102⟩ := Kd.R_slice HO359.out; subst eo102) | ((with_reducible refine gate_callee (f := 29) rfl ?_); refine goesL_ (some 167) rfl rfl Tryd.func29 (by kernel_rfl) rfl #[.slice Ao102 y357.length co102, .int .i64 a1, .slice A2 l2.length c2, .slice A3 l3.length c3] rfl (by (try simp only [List.map_toArray, List.map_cons, List.map_nil]); first | done | rfl | (simp only [List.length_drop, List.length_take]; rfl)) ?_; (with_reducible refine (valiselaw21_costs.calls kj69 _ _ y357 a1 _ _ l2 _ _ l3 t360 false _ ?side1 ?side2 ?side3 ?side4 ?side5 ?side6 ?side7 A81.out).mono ?_); (case side1 => repeat (first | exact (Kd.R_reads' HO359.out).2.2 | (with_reducible refine Kd.C_alloc ?_ _) | (with_reducible refine Kd.C_drewN ?_ _) | (with_reducible refine Kd.C_drew ?_))); (case side2 => exact (Kd.R_reads' HO359.out).2.1); (case side3 => repeat (first | exact (Kd.C_below HR2.out HB.out) | (with_reducible refine Kd.C_alloc ?_ _) | (with_reducible refine Kd.C_drewN ?_ _) | (with_reducible refine Kd.C_drew ?_))); (case side4 => exact HC2.out); (case side5 => repeat (first | exact (Kd.C_below HR3.out HB.out) | (with_reducible refine Kd.C_alloc ?_ _) | (with_reducible refine Kd.C_drewN ?_ _) | (with_reducible refine Kd.C_drew ?_))); (case side6 => exact HC3.out); (case side7 => repeat (first | exact HG.out | exact (Tabs.below HG.out (by repeat (first | (with_reducible first | exact HB.out | apply below_alloc | apply pw_below_drewN | apply below_drew1 | refine below_set ?_ GE339.out) | exact HB.out))) | (with_reducible refine Tabs.alloc ?_ _) | (with_reducible refine Tabs.drewN ?_ _) | (with_reducible refine Tabs.drew ?_))); rintro e w103 ⟨rfl, hb⟩; refine ⟨_, rfl, ?_⟩; have n0_ := Aside0.mk (Kd.R_below (by (with_reducible repeat (first | apply Kd.R_alloc | apply Kd.R_drewN | apply Kd.R_drew)); exact HO359.out) hb); have n1_ := Aside0.mk (blk_below (g := gb339) (o := .cells #[.int .i64 ((rd_T56 t334 (ji30)).f0), .int .i64 ((rd_T56 t334 (ji30)).f1), .int .u8 ((rd_T56 t334 (ji30)).f2)] 56 (0, 0)) (by (with_reducible repeat (first | refine blk_drewN ?_ _ | refine blk_drew ?_ | refine blk_alloc ?_ _)); exact BK339.out) hb); have n2_ := Aside0.mk (below_step (by repeat (first | (with_reducible first | exact HB.out | apply below_alloc | apply pw_below_drewN | apply below_drew1 | refine below_set ?_ GE339.out) | exact HB.out)) hb); clear HO359; clear BK339; clear HB; have HO359 := n0_; have BK339 := n1_; have HB := n2_; clear n0_ n1_ n2_; (try clear hb); (try clear hb2); (try clear hk); (try clear hi); obtain ⟨i0104, hi0104, _, hsz104, _⟩ := info_parts info5; obtain ⟨hcut104, hA104, hC104⟩ := print_take_of (P := Tryd.prog) (Value.int .u8) 0 44 5 .i64 Tryd.underlying44 hi0104 hsz104 A0 c0 l0 (ji82) (of_decide_eq_true (by first | (with_reducible assumption) | assumption)) (of_decide_eq_true (by first | (with_reducible assumption) | assumption)) HC0.out; have HR362 := Aside0.mk (Kd.C_of_reads (h1 := fun _ => rfl) (hA104 _ (Kd.reads_of_C HR0.out))); have HC362 := Aside0.mk hC104; clear hA104 hC104 hi0104 hsz104) | ((with_reducible refine gate_callee (f := 27) rfl ?_); refine goesL_ (some 179) rfl rfl Tryd.func27 (by kernel_rfl) rfl #[.slice A0 (l0.take ((ji82) : Int).toNat).length c0, .int .i64 a1, .slice A2 l2.length c2, .slice A3 l3.length c3] rfl (by (try simp only [List.map_toArray, List.map_cons, List.map_nil]); first | done | (rw [show (l0.take ((ji82) : Int).toNat).length = (ji82).toNat from (by rw [List.length_take]; have h_ : ((ji82) : Int) ≤ (l0.length : Int) := of_decide_eq_true (by first | (with_reducible assumption) | assumption); omega)] <;> rfl) | (simp only [hji82]; rfl) | rfl | (simp only [List.length_drop, List.length_take]; rfl)) ?_; (with_reducible refine (valiselaw21_cheapest.calls kj69 _ _ (l0.take ((ji82) : Int).toNat) a1 _ _ l2 _ _ l3 t363 t364 _ ?side1 ?side2 ?side3 ?side4 ?side5 ?side6 ?side7 A85.out).mono ?_); (case side1 => repeat (first | exact (Kd.C_below HR362.out HB.out) | (with_reducible refine Kd.C_alloc ?_ _) | (with_reducible refine Kd.C_drewN ?_ _) | (with_reducible refine Kd.C_drew ?_))); (case side2 => exact HC362.out); (case side3 => repeat (first | exact (Kd.C_below HR2.out HB.out) | (with_reducible refine Kd.C_alloc ?_ _) | (with_reducible refine Kd.C_drewN ?_ _) | (with_reducible refine Kd.C_drew ?_))); (case side4 => exact HC2.out); (case side5 => repeat (first | exact (Kd.C_below HR3.out HB.out) | (with_reducible refine Kd.C_alloc ?_ _) | (with_reducible refine Kd.C_drewN ?_ _) | (with_reducible refine Kd.C_drew ?_))); (case side6 => exact HC3.out); (case side7 => repeat (first | exact HG.out | exact (Tabs.below HG.out (by repeat (first | (with_reducible first | exact HB.out | apply below_alloc | apply pw_below_drewN | apply below_drew1 | refine below_set ?_ GE339.out) | exact HB.out))) | (with_reducible refine Tabs.alloc ?_ _) | (with_reducible refine Tabs.drewN ?_ _) | (with_reducible refine Tabs.drew ?_))); rintro e w105 ⟨rfl, hb⟩; refine ⟨_, rfl, ?_⟩; have n0_ := Aside0.mk (Kd.R_below (by (with_reducible repeat (first | apply Kd.R_alloc | apply Kd.R_drewN | apply Kd.R_drew)); exact HO359.out) hb); have n1_ := Aside0.mk (blk_below (g := gb339) (o := .cells #[.int .i64 ((rd_T56 t334 (ji30)).f0), .int .i64 ((rd_T56 t334 (ji30)).f1), .int .u8 ((rd_T56 t334 (ji30)).f2)] 56 (0, 0)) (by (with_reducible repeat (first | refine blk_drewN ?_ _ | refine blk_drew ?_ | refine blk_alloc ?_ _)); exact BK339.out) hb); have n2_ := Aside0.mk (below_step (by repeat (first | (with_reducible first | exact HB.out | apply below_alloc | apply pw_below_drewN | apply below_drew1 | refine below_set ?_ GE339.out) | exact HB.out)) hb); clear HO359; clear BK339; clear HB; have HO359 := n0_; have BK339 := n1_; have HB := n2_; clear n0_ n1_ n2_; (try clear hb); (try clear hb2); (try clear hk); (try clear hi)))
                                                    go_ret
                                                    exact ⟨by first | rfl | (simp [errW_none, errW_some] <;> rfl) | (simp only [← hji30, ← hji49, ← hji66, ← hji82]; first | rfl | (simp [errW_none, errW_some] <;> rfl)) | (simp [*, errW_none, errW_some] <;> rfl), by repeat (first | (with_reducible first | exact HB.out | apply below_alloc | apply pw_below_drewN | apply below_drew1 | refine below_set ?_ GE339.out) | exact HB.out)⟩
                                                · rw [if_neg c84] at H
                                                  exact absurd H (by simp)
                                              · rw [if_neg c83] at H
                                                exact absurd H (by simp)
                                            · replace c80 := Bool.eq_false_iff.mpr c80
                                              subst c80
                                              have H1 : (some true) = some r := by rw [if_neg (show ¬ (false = true) by decide)] at H; exact H
                                              clear H
                                              have H := H1
                                              clear H1
                                              obtain rfl := Option.some.inj H
                                              go_wp2_with (first | ((with_reducible refine gate_callee (f := 30) rfl ?_); refine goesL_ (some 157) rfl rfl Tryd.func30 (by kernel_rfl) rfl #[.slice A0 l0.length c0, .int .i64 a4, .int .i64 a5, .int .i64 a1] rfl (by (try simp only [List.map_toArray, List.map_cons, List.map_nil]); first | done | rfl | (simp only [List.length_drop, List.length_take]; rfl)) ?_; (with_reducible refine (valiselaw21_fits.calls kj69 _ _ l0 a4 a5 a1 false _ ?side1 ?side2 A79.out).mono ?_); (case side1 => repeat (first | exact (Kd.C_below HR0.out HB.out) | (with_reducible refine Kd.C_alloc ?_ _) | (with_reducible refine Kd.C_drewN ?_ _) | (with_reducible refine Kd.C_drew ?_))); (case side2 => exact HC0.out); rintro e w' ⟨rfl, ⟨nd, rfl⟩⟩; refine ⟨_, rfl, ?_⟩))
                                              go_ret
                                              exact ⟨by first | rfl | (simp [errW_none, errW_some] <;> rfl) | (simp only [← hji30, ← hji49, ← hji66]; first | rfl | (simp [errW_none, errW_some] <;> rfl)) | (simp [*, errW_none, errW_some] <;> rfl), by repeat (first | (with_reducible first | exact HB.out | apply below_alloc | apply pw_below_drewN | apply below_drew1 | refine below_set ?_ GE339.out) | exact HB.out)⟩
                                    · rw [if_neg c68] at H
                                      exact absurd H (by simp)
                                  · rw [if_neg c67] at H
                                    exact absurd H (by simp)
                          · rw [if_neg c51] at H
                            exact absurd H (by simp)
                        · rw [if_neg c50] at H
                          exact absurd H (by simp)
                · rw [if_neg c32] at H
                  exact absurd H (by simp)
              · rw [if_neg c31] at H
                exact absurd H (by simp)
  · rw [if_neg c8] at H
    have c8b0 : (t322 == 0) = false := beq_eq_false_iff_ne.mpr c8
    have c8b1 : (t322 != 0) = true := bne_iff_ne.mpr c8
    obtain rfl := Option.some.inj H
    go_enter Tryd.func6, Tryd.ntmps6
    go_wp2_with (first | ((with_reducible refine gate_callee (f := 26) rfl ?_); refine goesL_ (some 34) rfl rfl Tryd.func26 (by kernel_rfl) rfl #[.int .i64 (l0.length : Int), .int .i64 a1, .slice A2 l2.length c2, .slice A3 l3.length c3] rfl (by (try simp only [List.map_toArray, List.map_cons, List.map_nil]); first | done | rfl | (simp only [List.length_drop, List.length_take]; rfl)) ?_; (with_reducible refine (valiselaw21_refused.calls (l0.length : Int) a1 _ _ l2 _ _ l3 t322 _ ?side1 ?side2 ?side3 ?side4 A7.out).mono ?_); (case side1 => repeat (first | exact HR2.out | (with_reducible refine Kd.C_alloc ?_ _) | (with_reducible refine Kd.C_drewN ?_ _) | (with_reducible refine Kd.C_drew ?_))); (case side2 => exact HC2.out); (case side3 => repeat (first | exact HR3.out | (with_reducible refine Kd.C_alloc ?_ _) | (with_reducible refine Kd.C_drewN ?_ _) | (with_reducible refine Kd.C_drew ?_))); (case side4 => exact HC3.out); rintro e w' ⟨rfl, ⟨nd, rfl⟩⟩; refine ⟨_, rfl, ?_⟩))
    go_ret
    exact ⟨by first | rfl | (simp [errW_none, errW_some] <;> rfl) | (simp [*, errW_none, errW_some] <;> rfl), by repeat (first | (with_reducible first | exact HB.out | apply below_alloc | apply pw_below_drewN | apply below_drew1) | exact HB.out)⟩

/-- THE ONE PURE STATEMENT of valiselaw21_SqueezeLast: yours. -/
def valiselaw21_SqueezeLast.Pure : Prop := ∀ (l0 : List Int) (a1 : Int) (l2 : List Int) (l3 : List Int) (a4 : Int) (a5 : Int), l0.length ≤ maxLen → l0.length * 1 ≤ 140737488351232 → (∀ x ∈ l0, (Lit.int .u8 x).wf = true) → (Lit.int .i64 a1).wf = true → l2.length ≤ maxLen → l2.length * 8 ≤ 140737488351232 → (∀ x ∈ l2, (Lit.int .i64 x).wf = true) → l3.length ≤ maxLen → l3.length * 8 ≤ 140737488351232 → (∀ x ∈ l3, (Lit.int .i64 x).wf = true) → (Lit.int .i64 a4).wf = true → (Lit.int .i64 a5).wf = true → ∃ k, valiselaw21_SqueezeLast.f k l0 a1 l2 l3 a4 a5 = some true
theorem valiselaw21_SqueezeLast.walk (P : valiselaw21_SqueezeLast.Pure) (a0 : Option Addr) (len0 cap0 : Nat) (z0 : List Int) (a1 : Int) (a2 : Option Addr) (len2 cap2 : Nat) (z2 : List Int) (a3 : Option Addr) (len3 cap3 : Nat) (z3 : List Int) (a4 : Int) (a5 : Int) (w : World) (w0 : (a0 = none ∧ len0 = 0 ∧ cap0 = 0 ∧ z0 = []) ∨ ∃ x, a0 = some x ∧ len0 ≤ cap0 ∧ cap0 ≤ maxLen ∧ z0.length = cap0 ∧ (∀ i, i < z0.length → w.cell? (x.add i) = some (.int .u8 (z0.getD i 0))) ∧ ∀ n ∈ z0, (Lit.int .u8 n).wf = true) (y0 : len0 * 1 ≤ 140737488351232) (w1 : (Lit.int .i64 a1).wf = true) (w2 : (a2 = none ∧ len2 = 0 ∧ cap2 = 0 ∧ z2 = []) ∨ ∃ x, a2 = some x ∧ len2 ≤ cap2 ∧ cap2 ≤ maxLen ∧ z2.length = cap2 ∧ (∀ i, i < z2.length → w.cell? (x.add i) = some (.int .i64 (z2.getD i 0))) ∧ ∀ n ∈ z2, (Lit.int .i64 n).wf = true) (y2 : len2 * 8 ≤ 140737488351232) (w3 : (a3 = none ∧ len3 = 0 ∧ cap3 = 0 ∧ z3 = []) ∨ ∃ x, a3 = some x ∧ len3 ≤ cap3 ∧ cap3 ≤ maxLen ∧ z3.length = cap3 ∧ (∀ i, i < z3.length → w.cell? (x.add i) = some (.int .i64 (z3.getD i 0))) ∧ ∀ n ∈ z3, (Lit.int .i64 n).wf = true) (y3 : len3 * 8 ≤ 140737488351232) (w4 : (Lit.int .i64 a4).wf = true) (w5 : (Lit.int .i64 a5).wf = true) (hG : Tabs w) :
    Calls Tryd.prog 6 #[.slice a0 len0 cap0, .int .i64 a1, .slice a2 len2 cap2, .slice a3 len3 cap3, .int .i64 a4, .int .i64 a5] w fun e w' => e = .returned (.bool true) ∧ Below w.heap.size w w' := by
  obtain ⟨l0, rfl, hr0, hm0, hw0, hc0⟩ := ReadsInt.ofRowC w0
  obtain ⟨l2, rfl, hr2, hm2, hw2, hc2⟩ := ReadsInt.ofRowC w2
  obtain ⟨l3, rfl, hr3, hm3, hw3, hc3⟩ := ReadsInt.ofRowC w3
  obtain ⟨k, h⟩ := P l0 a1 l2 l3 a4 a5 hm0 y0 hw0 w1 hm2 y2 hw2 hm3 y3 hw3 w4 w5
  refine (valiselaw21_SqueezeLast.calls k _ _ l0 a1 _ _ l2 _ _ l3 a4 a5 true w (Kd.C_of_reads (d := (0 : Int)) (h1 := fun _ => rfl) hr0) hc0 (Kd.C_of_reads (d := (0 : Int)) (h1 := fun _ => rfl) hr2) hc2 (Kd.C_of_reads (d := (0 : Int)) (h1 := fun _ => rfl) hr3) hc3 hG h).mono ?_
  rintro e w' ⟨rfl, hd⟩
  exact ⟨rfl, hd⟩

end Go.Proofs.YtpndhoefmepfdaaDoor.PSq
