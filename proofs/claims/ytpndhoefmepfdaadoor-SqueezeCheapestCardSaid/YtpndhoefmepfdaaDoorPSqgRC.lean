-- WRITTEN BY myprint.py (this claim's own program, over the kit's printer): Lean checks it.
import Derived.Test.YtpndhoefmepfdaaDoorPSqgC
import Derived.Test.YtpndhoefmepfdaaDoorPSqgR
import Derived.Test.YtpndhoefmepfdaaDoorPSqx0
import Derived.Test.YtpndhoefmepfdaaDoorPSqx1
namespace Go.Proofs.YtpndhoefmepfdaaDoor.PSq
open Go.RowKit Go.Proofs.YtpndhoefmepfdaaDoorW.PrintWords Go.Proofs.YtpndhoefmepfdaaDoorW.PrintLast Go.Proofs.YtpndhoefmepfdaaDoorW.PrintMore
open Go.Proofs.YtpndhoefmepfdaaDoor.More Go.Proofs.YtpndhoefmepfdaaDoor.TS
attribute [local go_sem] max2_int min2_int max_two min_two max_three min_three max_four min_four   -- for this text's walks alone
set_option linter.unusedVariables false
set_option linter.unusedSimpArgs false

/-! ### valiseref21_Cheapest: function 24 -/
mutual
def valiseref21_Cheapest.j0 : Nat → List Int → Int → List Int → List Int → Bool → Option ((List (S56)) × Int)
  | 0, _, _, _, _, _ => none
  | k + 1, x0, x1, x2, x3, x36 => if x36 = true then (some (([] : List (S56)), 1)) else ((valiseref21_all.f k x2 286).bind fun t212 => ((valiseref21_all.f k x3 30).bind fun t213 => (if t212 = true then (valiseref21_Cheapest.j1 k x0 x1 x2 x3 (!t213)) else (valiseref21_Cheapest.j1 k x0 x1 x2 x3 true))))
def valiseref21_Cheapest.j1 : Nat → List Int → Int → List Int → List Int → Bool → Option ((List (S56)) × Int)
  | 0, _, _, _, _, _ => none
  | k + 1, x0, x1, x2, x3, x46 => if x46 = true then (some (([] : List (S56)), 210)) else ((valiseref21_table.f k x2 x3 (mn x1 (x0.length : Int))).bind fun bt214 => (if 0 ≤ (wrap64 ((x0.length : Int) + 1)) then (if (wrap64 ((x0.length : Int) + 1) : Int).toNat ≤ 35184372088832 then (if (wrap64 ((x0.length : Int) + 1) : Int).toNat ≤ 11728124029610 then (valiseref21_Cheapest.l0 k x0 x1 x2 (x0.length : Int) bt214.1 bt214.2 (List.replicate (wrap64 ((x0.length : Int) + 1) : Int).toNat 0) (List.replicate (wrap64 ((x0.length : Int) + 1) : Int).toNat z56) (wrap64 ((x0.length : Int) - 1))) else (none)) else (none)) else (none)))
def valiseref21_Cheapest.l0 : Nat → List Int → Int → List Int → Int → List Int → List Int → List Int → List (S56) → Int → Option ((List (S56)) × Int)
  | 0, _, _, _, _, _, _, _, _, _ => none
  | k + 1, x0, x1, x2, x12, x14, x15, x16, x17, x18 => if x18 ≥ 0 then (if 0 ≤ x18 then (if x18 < (x0.length : Int) then (if x18 < (x17.length : Int) then (if 0 ≤ (wrap64 (rd x0 x18)) then (if (wrap64 (rd x0 x18)) < (x2.length : Int) then (if 0 ≤ (wrap64 (x18 + 1)) then (if (wrap64 (x18 + 1)) < (x16.length : Int) then (if x18 < (x16.length : Int) then (valiseref21_Cheapest.l1 k x0 x1 x2 x12 x14 x15 (x16.set (x18 : Int).toNat (wrap64 ((rd x2 (wrap64 (rd x0 x18))) + (rd x16 (wrap64 (x18 + 1)))))) (x17.set (x18 : Int).toNat (⟨0, 0, rd x0 x18⟩ : S56)) x18 1 1) else (none)) else (none)) else (none)) else (none)) else (none)) else (none)) else (none)) else (none)) else (valiseref21_Cheapest.l3 k x12 x17 ([] : List (S56)) 0)
def valiseref21_Cheapest.l1 : Nat → List Int → Int → List Int → Int → List Int → List Int → List Int → List (S56) → Int → Int → Int → Option ((List (S56)) × Int)
  | 0, _, _, _, _, _, _, _, _, _, _, _ => none
  | k + 1, x0, x1, x2, x12, x14, x15, x16, x17, x18, x19, x20 => if x20 ≤ x1 then (valiseref21_Cheapest.j4 k x0 x1 x2 x12 x14 x15 x16 x17 x18 x19 x20 (decide (x20 ≤ x18))) else (valiseref21_Cheapest.j4 k x0 x1 x2 x12 x14 x15 x16 x17 x18 x19 x20 false)
def valiseref21_Cheapest.j4 : Nat → List Int → Int → List Int → Int → List Int → List Int → List Int → List (S56) → Int → Int → Int → Bool → Option ((List (S56)) × Int)
  | 0, _, _, _, _, _, _, _, _, _, _, _, _ => none
  | k + 1, x0, x1, x2, x12, x14, x15, x16, x17, x18, x19, x20, x103 => if x103 = true then ((valiseref21_run.f x0 x18 x20).bind fun t232 => (valiseref21_Cheapest.l2 k x0 x1 x2 x12 x14 x15 x16 x17 x18 x19 x20 t232 3)) else (valiseref21_Cheapest.l0 k x0 x1 x2 x12 x14 x15 x16 x17 (wrap64 (x18 - 1)))
def valiseref21_Cheapest.l2 : Nat → List Int → Int → List Int → Int → List Int → List Int → List Int → List (S56) → Int → Int → Int → Int → Int → Option ((List (S56)) × Int)
  | 0, _, _, _, _, _, _, _, _, _, _, _, _, _ => none
  | k + 1, x0, x1, x2, x12, x14, x15, x16, x17, x18, x19, x20, x21, x22 => if x22 ≤ x21 then (if 0 ≤ x22 then (if x22 < (x14.length : Int) then (if 0 ≤ x20 then (if x20 < (x15.length : Int) then (if 0 ≤ (wrap64 (x18 + x22)) then (if (wrap64 (x18 + x22)) < (x16.length : Int) then (if 0 ≤ x18 then (if x18 < (x16.length : Int) then (if (wrap64 ((wrap64 ((rd x14 x22) + (rd x15 x20))) + (rd x16 (wrap64 (x18 + x22))))) < (rd x16 x18) then (if x18 < (x17.length : Int) then (valiseref21_Cheapest.l2 k x0 x1 x2 x12 x14 x15 (x16.set (x18 : Int).toNat (wrap64 ((wrap64 ((rd x14 x22) + (rd x15 x20))) + (rd x16 (wrap64 (x18 + x22)))))) (x17.set (x18 : Int).toNat (⟨x22, x20, 0⟩ : S56)) x18 x22 x20 x21 (wrap64 (x22 + 1))) else (none)) else (if (wrap64 ((wrap64 ((rd x14 x22) + (rd x15 x20))) + (rd x16 (wrap64 (x18 + x22))))) = (rd x16 x18) then (if x22 > x19 then (if x18 < (x17.length : Int) then (valiseref21_Cheapest.l2 k x0 x1 x2 x12 x14 x15 (x16.set (x18 : Int).toNat (wrap64 ((wrap64 ((rd x14 x22) + (rd x15 x20))) + (rd x16 (wrap64 (x18 + x22)))))) (x17.set (x18 : Int).toNat (⟨x22, x20, 0⟩ : S56)) x18 x22 x20 x21 (wrap64 (x22 + 1))) else (none)) else (valiseref21_Cheapest.l2 k x0 x1 x2 x12 x14 x15 x16 x17 x18 x19 x20 x21 (wrap64 (x22 + 1)))) else (valiseref21_Cheapest.l2 k x0 x1 x2 x12 x14 x15 x16 x17 x18 x19 x20 x21 (wrap64 (x22 + 1))))) else (none)) else (none)) else (none)) else (none)) else (none)) else (none)) else (none)) else (none)) else (valiseref21_Cheapest.l1 k x0 x1 x2 x12 x14 x15 x16 x17 x18 x19 (wrap64 (x20 + 1)))
def valiseref21_Cheapest.l3 : Nat → Int → List (S56) → List (S56) → Int → Option ((List (S56)) × Int)
  | 0, _, _, _, _ => none
  | k + 1, x12, x17, x24, x25 => if x25 < x12 then (if 0 ≤ x25 then (if x25 < (x17.length : Int) then (if x24.length < 5864062014805 then ((some (x24 ++ [(⟨(rd_T56 x17 x25).f0, (rd_T56 x17 x25).f1, (rd_T56 x17 x25).f2⟩ : S56)] : List (S56))).bind fun y243 => (if ((rd_T56 x17 x25).f0) = 0 then (valiseref21_Cheapest.l3 k x12 x17 y243 (wrap64 (x25 + 1))) else (valiseref21_Cheapest.l3 k x12 x17 y243 (wrap64 (x25 + ((rd_T56 x17 x25).f0)))))) else (none)) else (none)) else (none)) else (some (x24, 0))
end
def valiseref21_Cheapest.f (k : Nat) (l0 : List Int) (a1 : Int) (l2 : List Int) (l3 : List Int) : Option ((List (S56)) × Int) := if (l0.length : Int) > 65536 then (valiseref21_Cheapest.j0 k l0 a1 l2 l3 true) else (if a1 < 1 then (valiseref21_Cheapest.j0 k l0 a1 l2 l3 true) else (valiseref21_Cheapest.j0 k l0 a1 l2 l3 (decide (a1 > 32768))))
theorem valiseref21_Cheapest.mono_l : ∀ k, (∀ y0 y1 y2 y3 y4, LeO (valiseref21_Cheapest.j0 k y0 y1 y2 y3 y4) (valiseref21_Cheapest.j0 (k + 1) y0 y1 y2 y3 y4)) ∧ (∀ y0 y1 y2 y3 y4, LeO (valiseref21_Cheapest.j1 k y0 y1 y2 y3 y4) (valiseref21_Cheapest.j1 (k + 1) y0 y1 y2 y3 y4)) ∧ (∀ y0 y1 y2 y3 y4 y5 y6 y7 y8, LeO (valiseref21_Cheapest.l0 k y0 y1 y2 y3 y4 y5 y6 y7 y8) (valiseref21_Cheapest.l0 (k + 1) y0 y1 y2 y3 y4 y5 y6 y7 y8)) ∧ (∀ y0 y1 y2 y3 y4 y5 y6 y7 y8 y9 y10, LeO (valiseref21_Cheapest.l1 k y0 y1 y2 y3 y4 y5 y6 y7 y8 y9 y10) (valiseref21_Cheapest.l1 (k + 1) y0 y1 y2 y3 y4 y5 y6 y7 y8 y9 y10)) ∧ (∀ y0 y1 y2 y3 y4 y5 y6 y7 y8 y9 y10 y11, LeO (valiseref21_Cheapest.j4 k y0 y1 y2 y3 y4 y5 y6 y7 y8 y9 y10 y11) (valiseref21_Cheapest.j4 (k + 1) y0 y1 y2 y3 y4 y5 y6 y7 y8 y9 y10 y11)) ∧ (∀ y0 y1 y2 y3 y4 y5 y6 y7 y8 y9 y10 y11 y12, LeO (valiseref21_Cheapest.l2 k y0 y1 y2 y3 y4 y5 y6 y7 y8 y9 y10 y11 y12) (valiseref21_Cheapest.l2 (k + 1) y0 y1 y2 y3 y4 y5 y6 y7 y8 y9 y10 y11 y12)) ∧ (∀ y0 y1 y2 y3, LeO (valiseref21_Cheapest.l3 k y0 y1 y2 y3) (valiseref21_Cheapest.l3 (k + 1) y0 y1 y2 y3))
  | 0 => ⟨fun _ _ _ _ _ r h => by simp [valiseref21_Cheapest.j0] at h, fun _ _ _ _ _ r h => by simp [valiseref21_Cheapest.j1] at h, fun _ _ _ _ _ _ _ _ _ r h => by simp [valiseref21_Cheapest.l0] at h, fun _ _ _ _ _ _ _ _ _ _ _ r h => by simp [valiseref21_Cheapest.l1] at h, fun _ _ _ _ _ _ _ _ _ _ _ _ r h => by simp [valiseref21_Cheapest.j4] at h, fun _ _ _ _ _ _ _ _ _ _ _ _ _ r h => by simp [valiseref21_Cheapest.l2] at h, fun _ _ _ _ r h => by simp [valiseref21_Cheapest.l3] at h⟩
  | k + 1 => by
    obtain ⟨ih0, ih1, ih2, ih3, ih4, ih5, ih6⟩ := valiseref21_Cheapest.mono_l k
    refine ⟨?_, ?_, ?_, ?_, ?_, ?_, ?_⟩
    · intro y0 y1 y2 y3 y4
      unfold valiseref21_Cheapest.j0
      repeat' first
      | (with_reducible exact ih0 _ _ _ _ _)
      | (with_reducible exact ih1 _ _ _ _ _)
      | (with_reducible exact ih2 _ _ _ _ _ _ _ _ _)
      | (with_reducible exact ih3 _ _ _ _ _ _ _ _ _ _ _)
      | (with_reducible exact ih4 _ _ _ _ _ _ _ _ _ _ _ _)
      | (with_reducible exact ih5 _ _ _ _ _ _ _ _ _ _ _ _ _)
      | (with_reducible exact ih6 _ _ _ _)
      | (with_reducible exact valiseref21_all.mono _ _ _)
      | (with_reducible exact valiseref21_table.mono _ _ _ _)
      | (with_reducible exact LeO.refl _)
      | (with_reducible exact LeO.none _)
      | (with_reducible refine LeO.ite ?_ ?_)
      | (with_reducible refine LeO.bind ?_ (fun _ => ?_))
      | exact ih0 _ _ _ _ _
      | exact ih1 _ _ _ _ _
      | exact ih2 _ _ _ _ _ _ _ _ _
      | exact ih3 _ _ _ _ _ _ _ _ _ _ _
      | exact ih4 _ _ _ _ _ _ _ _ _ _ _ _
      | exact ih5 _ _ _ _ _ _ _ _ _ _ _ _ _
      | exact ih6 _ _ _ _
      | exact valiseref21_all.mono _ _ _
      | exact valiseref21_table.mono _ _ _ _
      | exact LeO.none _
      | refine LeO.ite ?_ ?_
      | refine LeO.bind ?_ (fun _ => ?_)
    · intro y0 y1 y2 y3 y4
      unfold valiseref21_Cheapest.j1
      repeat' first
      | (with_reducible exact ih0 _ _ _ _ _)
      | (with_reducible exact ih1 _ _ _ _ _)
      | (with_reducible exact ih2 _ _ _ _ _ _ _ _ _)
      | (with_reducible exact ih3 _ _ _ _ _ _ _ _ _ _ _)
      | (with_reducible exact ih4 _ _ _ _ _ _ _ _ _ _ _ _)
      | (with_reducible exact ih5 _ _ _ _ _ _ _ _ _ _ _ _ _)
      | (with_reducible exact ih6 _ _ _ _)
      | (with_reducible exact valiseref21_all.mono _ _ _)
      | (with_reducible exact valiseref21_table.mono _ _ _ _)
      | (with_reducible exact LeO.refl _)
      | (with_reducible exact LeO.none _)
      | (with_reducible refine LeO.ite ?_ ?_)
      | (with_reducible refine LeO.bind ?_ (fun _ => ?_))
      | exact ih0 _ _ _ _ _
      | exact ih1 _ _ _ _ _
      | exact ih2 _ _ _ _ _ _ _ _ _
      | exact ih3 _ _ _ _ _ _ _ _ _ _ _
      | exact ih4 _ _ _ _ _ _ _ _ _ _ _ _
      | exact ih5 _ _ _ _ _ _ _ _ _ _ _ _ _
      | exact ih6 _ _ _ _
      | exact valiseref21_all.mono _ _ _
      | exact valiseref21_table.mono _ _ _ _
      | exact LeO.none _
      | refine LeO.ite ?_ ?_
      | refine LeO.bind ?_ (fun _ => ?_)
    · intro y0 y1 y2 y3 y4 y5 y6 y7 y8
      unfold valiseref21_Cheapest.l0
      repeat' first
      | (with_reducible exact ih0 _ _ _ _ _)
      | (with_reducible exact ih1 _ _ _ _ _)
      | (with_reducible exact ih2 _ _ _ _ _ _ _ _ _)
      | (with_reducible exact ih3 _ _ _ _ _ _ _ _ _ _ _)
      | (with_reducible exact ih4 _ _ _ _ _ _ _ _ _ _ _ _)
      | (with_reducible exact ih5 _ _ _ _ _ _ _ _ _ _ _ _ _)
      | (with_reducible exact ih6 _ _ _ _)
      | (with_reducible exact valiseref21_all.mono _ _ _)
      | (with_reducible exact valiseref21_table.mono _ _ _ _)
      | (with_reducible exact LeO.refl _)
      | (with_reducible exact LeO.none _)
      | (with_reducible refine LeO.ite ?_ ?_)
      | (with_reducible refine LeO.bind ?_ (fun _ => ?_))
      | exact ih0 _ _ _ _ _
      | exact ih1 _ _ _ _ _
      | exact ih2 _ _ _ _ _ _ _ _ _
      | exact ih3 _ _ _ _ _ _ _ _ _ _ _
      | exact ih4 _ _ _ _ _ _ _ _ _ _ _ _
      | exact ih5 _ _ _ _ _ _ _ _ _ _ _ _ _
      | exact ih6 _ _ _ _
      | exact valiseref21_all.mono _ _ _
      | exact valiseref21_table.mono _ _ _ _
      | exact LeO.none _
      | refine LeO.ite ?_ ?_
      | refine LeO.bind ?_ (fun _ => ?_)
    · intro y0 y1 y2 y3 y4 y5 y6 y7 y8 y9 y10
      unfold valiseref21_Cheapest.l1
      repeat' first
      | (with_reducible exact ih0 _ _ _ _ _)
      | (with_reducible exact ih1 _ _ _ _ _)
      | (with_reducible exact ih2 _ _ _ _ _ _ _ _ _)
      | (with_reducible exact ih3 _ _ _ _ _ _ _ _ _ _ _)
      | (with_reducible exact ih4 _ _ _ _ _ _ _ _ _ _ _ _)
      | (with_reducible exact ih5 _ _ _ _ _ _ _ _ _ _ _ _ _)
      | (with_reducible exact ih6 _ _ _ _)
      | (with_reducible exact valiseref21_all.mono _ _ _)
      | (with_reducible exact valiseref21_table.mono _ _ _ _)
      | (with_reducible exact LeO.refl _)
      | (with_reducible exact LeO.none _)
      | (with_reducible refine LeO.ite ?_ ?_)
      | (with_reducible refine LeO.bind ?_ (fun _ => ?_))
      | exact ih0 _ _ _ _ _
      | exact ih1 _ _ _ _ _
      | exact ih2 _ _ _ _ _ _ _ _ _
      | exact ih3 _ _ _ _ _ _ _ _ _ _ _
      | exact ih4 _ _ _ _ _ _ _ _ _ _ _ _
      | exact ih5 _ _ _ _ _ _ _ _ _ _ _ _ _
      | exact ih6 _ _ _ _
      | exact valiseref21_all.mono _ _ _
      | exact valiseref21_table.mono _ _ _ _
      | exact LeO.none _
      | refine LeO.ite ?_ ?_
      | refine LeO.bind ?_ (fun _ => ?_)
    · intro y0 y1 y2 y3 y4 y5 y6 y7 y8 y9 y10 y11
      unfold valiseref21_Cheapest.j4
      repeat' first
      | (with_reducible exact ih0 _ _ _ _ _)
      | (with_reducible exact ih1 _ _ _ _ _)
      | (with_reducible exact ih2 _ _ _ _ _ _ _ _ _)
      | (with_reducible exact ih3 _ _ _ _ _ _ _ _ _ _ _)
      | (with_reducible exact ih4 _ _ _ _ _ _ _ _ _ _ _ _)
      | (with_reducible exact ih5 _ _ _ _ _ _ _ _ _ _ _ _ _)
      | (with_reducible exact ih6 _ _ _ _)
      | (with_reducible exact valiseref21_all.mono _ _ _)
      | (with_reducible exact valiseref21_table.mono _ _ _ _)
      | (with_reducible exact LeO.refl _)
      | (with_reducible exact LeO.none _)
      | (with_reducible refine LeO.ite ?_ ?_)
      | (with_reducible refine LeO.bind ?_ (fun _ => ?_))
      | exact ih0 _ _ _ _ _
      | exact ih1 _ _ _ _ _
      | exact ih2 _ _ _ _ _ _ _ _ _
      | exact ih3 _ _ _ _ _ _ _ _ _ _ _
      | exact ih4 _ _ _ _ _ _ _ _ _ _ _ _
      | exact ih5 _ _ _ _ _ _ _ _ _ _ _ _ _
      | exact ih6 _ _ _ _
      | exact valiseref21_all.mono _ _ _
      | exact valiseref21_table.mono _ _ _ _
      | exact LeO.none _
      | refine LeO.ite ?_ ?_
      | refine LeO.bind ?_ (fun _ => ?_)
    · intro y0 y1 y2 y3 y4 y5 y6 y7 y8 y9 y10 y11 y12
      unfold valiseref21_Cheapest.l2
      repeat' first
      | (with_reducible exact ih0 _ _ _ _ _)
      | (with_reducible exact ih1 _ _ _ _ _)
      | (with_reducible exact ih2 _ _ _ _ _ _ _ _ _)
      | (with_reducible exact ih3 _ _ _ _ _ _ _ _ _ _ _)
      | (with_reducible exact ih4 _ _ _ _ _ _ _ _ _ _ _ _)
      | (with_reducible exact ih5 _ _ _ _ _ _ _ _ _ _ _ _ _)
      | (with_reducible exact ih6 _ _ _ _)
      | (with_reducible exact valiseref21_all.mono _ _ _)
      | (with_reducible exact valiseref21_table.mono _ _ _ _)
      | (with_reducible exact LeO.refl _)
      | (with_reducible exact LeO.none _)
      | (with_reducible refine LeO.ite ?_ ?_)
      | (with_reducible refine LeO.bind ?_ (fun _ => ?_))
      | exact ih0 _ _ _ _ _
      | exact ih1 _ _ _ _ _
      | exact ih2 _ _ _ _ _ _ _ _ _
      | exact ih3 _ _ _ _ _ _ _ _ _ _ _
      | exact ih4 _ _ _ _ _ _ _ _ _ _ _ _
      | exact ih5 _ _ _ _ _ _ _ _ _ _ _ _ _
      | exact ih6 _ _ _ _
      | exact valiseref21_all.mono _ _ _
      | exact valiseref21_table.mono _ _ _ _
      | exact LeO.none _
      | refine LeO.ite ?_ ?_
      | refine LeO.bind ?_ (fun _ => ?_)
    · intro y0 y1 y2 y3
      unfold valiseref21_Cheapest.l3
      repeat' first
      | (with_reducible exact ih0 _ _ _ _ _)
      | (with_reducible exact ih1 _ _ _ _ _)
      | (with_reducible exact ih2 _ _ _ _ _ _ _ _ _)
      | (with_reducible exact ih3 _ _ _ _ _ _ _ _ _ _ _)
      | (with_reducible exact ih4 _ _ _ _ _ _ _ _ _ _ _ _)
      | (with_reducible exact ih5 _ _ _ _ _ _ _ _ _ _ _ _ _)
      | (with_reducible exact ih6 _ _ _ _)
      | (with_reducible exact valiseref21_all.mono _ _ _)
      | (with_reducible exact valiseref21_table.mono _ _ _ _)
      | (with_reducible exact LeO.refl _)
      | (with_reducible exact LeO.none _)
      | (with_reducible refine LeO.ite ?_ ?_)
      | (with_reducible refine LeO.bind ?_ (fun _ => ?_))
      | exact ih0 _ _ _ _ _
      | exact ih1 _ _ _ _ _
      | exact ih2 _ _ _ _ _ _ _ _ _
      | exact ih3 _ _ _ _ _ _ _ _ _ _ _
      | exact ih4 _ _ _ _ _ _ _ _ _ _ _ _
      | exact ih5 _ _ _ _ _ _ _ _ _ _ _ _ _
      | exact ih6 _ _ _ _
      | exact valiseref21_all.mono _ _ _
      | exact valiseref21_table.mono _ _ _ _
      | exact LeO.none _
      | refine LeO.ite ?_ ?_
      | refine LeO.bind ?_ (fun _ => ?_)
theorem valiseref21_Cheapest.mono : ∀ a0 a1 a2 a3 k, LeO (valiseref21_Cheapest.f k a0 a1 a2 a3) (valiseref21_Cheapest.f (k + 1) a0 a1 a2 a3) := by
  intro a0 a1 a2 a3 k
  obtain ⟨ih0, ih1, ih2, ih3, ih4, ih5, ih6⟩ := valiseref21_Cheapest.mono_l k
  unfold valiseref21_Cheapest.f
  repeat' first
      | (with_reducible exact ih0 _ _ _ _ _)
      | (with_reducible exact ih1 _ _ _ _ _)
      | (with_reducible exact ih2 _ _ _ _ _ _ _ _ _)
      | (with_reducible exact ih3 _ _ _ _ _ _ _ _ _ _ _)
      | (with_reducible exact ih4 _ _ _ _ _ _ _ _ _ _ _ _)
      | (with_reducible exact ih5 _ _ _ _ _ _ _ _ _ _ _ _ _)
      | (with_reducible exact ih6 _ _ _ _)
      | (with_reducible exact valiseref21_all.mono _ _ _)
      | (with_reducible exact valiseref21_table.mono _ _ _ _)
      | (with_reducible exact LeO.refl _)
      | (with_reducible exact LeO.none _)
      | (with_reducible refine LeO.ite ?_ ?_)
      | (with_reducible refine LeO.bind ?_ (fun _ => ?_))
      | exact ih0 _ _ _ _ _
      | exact ih1 _ _ _ _ _
      | exact ih2 _ _ _ _ _ _ _ _ _
      | exact ih3 _ _ _ _ _ _ _ _ _ _ _
      | exact ih4 _ _ _ _ _ _ _ _ _ _ _ _
      | exact ih5 _ _ _ _ _ _ _ _ _ _ _ _ _
      | exact ih6 _ _ _ _
      | exact valiseref21_all.mono _ _ _
      | exact valiseref21_table.mono _ _ _ _
      | exact LeO.none _
      | refine LeO.ite ?_ ?_
      | refine LeO.bind ?_ (fun _ => ?_)
def valiseref21_Cheapest.T16 : Bool × List (List Nat × List Nat) := (true, [([], []), ([], []), ([], []), ([], []), ([], []), ([3, 4], [3, 4]), ([5], [5]), ([6], [6]), ([2, 7], [2, 7]), ([8], [8]), ([], []), ([], []), ([11], [11]), ([10, 12], [10, 12]), ([13], [13]), ([9, 14], [9, 14]), ([0, 1, 0, 1, 2, 3, 4, 5, 6, 7, 8, 9, 10, 11, 12, 13, 14, 15], [0, 1]), ([16, 15, 0, 1, 2, 3, 4, 5, 6, 7, 8, 9, 10, 11, 12, 13, 14, 15], [15, 16])])
def valiseref21_Cheapest.B16 : List Nat := [0, 0, 0, 0, 0, 24, 56, 120, 252, 508, 0, 0, 2048, 7168, 15360, 32764, 65535, 131071]
theorem valiseref21_Cheapest.tab16 : rtab .any (opsOf Tryd.f24 16) = valiseref21_Cheapest.T16 := by kernel_rfl
theorem valiseref21_Cheapest.bits16 : waitsOk valiseref21_Cheapest.T16.2 valiseref21_Cheapest.B16 = true := by kernel_rfl
def valiseref21_Cheapest.T25 : Bool × List (List Nat × List Nat) := (true, [([], []), ([], []), ([0, 1], [0, 1]), ([2], [2]), ([], []), ([], []), ([4, 5], [4, 5]), ([6], [6]), ([3, 7], [3, 7]), ([], []), ([], []), ([], []), ([10, 11], [10, 11]), ([9, 12], [9, 12]), ([13], [13]), ([8, 14], [8, 14]), ([15, 0, 1, 2, 3, 4, 5, 6, 7, 8, 9, 10, 11, 12, 13, 14, 15], [15])])
def valiseref21_Cheapest.B25 : List Nat := [0, 0, 3, 7, 0, 0, 48, 112, 255, 0, 0, 0, 3072, 7680, 15872, 32767, 65535]
theorem valiseref21_Cheapest.tab25 : rtab .any (opsOf Tryd.f24 25) = valiseref21_Cheapest.T25 := by kernel_rfl
theorem valiseref21_Cheapest.bits25 : waitsOk valiseref21_Cheapest.T25.2 valiseref21_Cheapest.B25 = true := by kernel_rfl
set_option maxHeartbeats 8000000 in
set_option maxRecDepth 100000 in
theorem valiseref21_Cheapest.calls (k : Nat) (A0 : Option Addr) (c0 : Nat) (l0 : List Int) (a1 : Int) (A2 : Option Addr) (c2 : Nat) (l2 : List Int) (A3 : Option Addr) (c3 : Nat) (l3 : List Int) (r1 : List (S56)) (r2 : Int) (w : World) (hr0 : Kd.C (Kd.int .u8) w A0 l0.length l0) (hc0 : l0.length ≤ c0) (hr2 : Kd.C (Kd.int .i64) w A2 l2.length l2) (hc2 : l2.length ≤ c2) (hr3 : Kd.C (Kd.int .i64) w A3 l3.length l3) (hc3 : l3.length ≤ c3) (h : valiseref21_Cheapest.f k l0 a1 l2 l3 = some (r1, r2)) :
    Calls Tryd.prog 24 #[.slice A0 l0.length c0, .int .i64 a1, .slice A2 l2.length c2, .slice A3 l3.length c3] w fun e w' => ∃ v0_ : Value, e = .returned (.tuple #[v0_, .int .i64 r2]) ∧ Kd.R k56 56 w' w.heap.size (fun _ => True) v0_ r1 ∧ Below w.heap.size w w' := by
  have hu56 := Tryd.underlying56
  have HR0 := Aside0.mk hr0
  have HC0 := Aside0.mk hc0
  clear hr0 hc0
  have HR2 := Aside0.mk hr2
  have HC2 := Aside0.mk hc2
  clear hr2 hc2
  have HR3 := Aside0.mk hr3
  have HC3 := Aside0.mk hc3
  clear hr3 hc3
  have HB := Aside0.mk (Below.refl w.heap.size w)
  have H : (if (l0.length : Int) > 65536 then (valiseref21_Cheapest.j0 k l0 a1 l2 l3 true) else (if a1 < 1 then (valiseref21_Cheapest.j0 k l0 a1 l2 l3 true) else (valiseref21_Cheapest.j0 k l0 a1 l2 l3 (decide (a1 > 32768))))) = some (r1, r2) := h
  clear h
  have HC5 := Aside0.mk H
  clear H
  go_enter Tryd.func24, Tryd.ntmps24
  go_upto_region 1 with (fail)
  go_cut [36] (fun v36 wc => ∃ (kq : Nat) (x36_4 : Bool), v36 = .bool x36_4 ∧ Aside0 (valiseref21_Cheapest.j0 kq l0 a1 l2 l3 x36_4 = some (r1, r2)) ∧ Aside0 (kq ≤ k) ∧ Aside0 (Below w.heap.size w wc))
  case first =>
    have H := HC5.out
    clear HC5
    by_cases c6 : (l0.length : Int) > 65536
    · rw [if_pos c6] at H
      have c6b0 : decide (65536 < (l0.length : Int)) = true := decide_eq_true c6
      have c6b1 : decide (65536 < l0.length) = true := decide_eq_true (by omega)
      clear c6
      (first | rw [c6b0] | (simp only [i64_w, i32_w]; rw [c6b0]) | skip)
      have H' := Aside0.mk H
      clear H
      go_wp2
      go_meet
      case rel => exact ⟨_, (true), (by first | rfl | (simp; done) | (simp [*]; done)), H', ⟨by first | omega | exact Nat.le_refl _⟩, ⟨by repeat (first | (with_reducible first | exact HB.out | apply below_alloc | apply pw_below_drewN | apply below_drew1) | exact HB.out)⟩⟩
    · rw [if_neg c6] at H
      have c6b0 : decide (65536 < (l0.length : Int)) = false := decide_eq_false c6
      have c6b1 : decide (65536 < l0.length) = false := decide_eq_false (by omega)
      clear c6
      (first | rw [c6b0] | (simp only [i64_w, i32_w]; rw [c6b0]) | skip)
      by_cases c7 : a1 < 1
      · rw [if_pos c7] at H
        have c7b0 : decide (a1 < 1) = true := decide_eq_true c7
        clear c7
        have H' := Aside0.mk H
        clear H
        go_wp2
        go_meet
        case rel => exact ⟨_, (true), (by first | rfl | (simp; done) | (simp [*]; done)), H', ⟨by first | omega | exact Nat.le_refl _⟩, ⟨by repeat (first | (with_reducible first | exact HB.out | apply below_alloc | apply pw_below_drewN | apply below_drew1) | exact HB.out)⟩⟩
      · rw [if_neg c7] at H
        have c7b0 : decide (a1 < 1) = false := decide_eq_false c7
        clear c7
        have H' := Aside0.mk H
        clear H
        go_wp2
        go_meet
        case rel => exact ⟨_, (decide (a1 > 32768)), (by first | rfl | (simp; done) | (simp [*]; done)), H', ⟨by first | omega | exact Nat.le_refl _⟩, ⟨by repeat (first | (with_reducible first | exact HB.out | apply below_alloc | apply pw_below_drewN | apply below_drew1) | exact HB.out)⟩⟩
  case rest =>
    clear HC5
    try clear c2
    try clear p2
    try clear c3
    try clear c6
    try clear c6b0
    try clear c6b1
    try clear c7
    try clear c7b0
    obtain ⟨kq, x36_4, rfl, HA, HJ4, HB⟩ := hcut
    cases kq with
    | zero => exact absurd HA.out (by simp [valiseref21_Cheapest.j0])
    | succ kj4 =>
      have H := HA.out
      clear HA
      simp only [valiseref21_Cheapest.j0] at H
      by_cases c8 : x36_4 = true
      · subst c8
        have H1 : (some (([] : List (S56)), 1)) = some (r1, r2) := by rw [if_pos rfl] at H; exact H
        clear H
        have H := H1
        clear H1
        simp only [Option.some.injEq, Prod.mk.injEq] at H
        obtain ⟨rfl, rfl⟩ := H
        go_wp2
        go_ret2
        exact ⟨_, by first | rfl | (simp [errW_none, errW_some] <;> rfl) | (simp [*, errW_none, errW_some] <;> rfl), by first | exact Kd.R_nil _ _ _ _ _ | exact Kd.N_nil _ _ _ _ _ | exact Kd.V_nil _ _ _ _ _ | exact Kd.Q_nil _ _ _ _ _ | exact Kd.S_nil _ _ _ _ _, by repeat (first | (with_reducible first | exact HB.out | apply below_alloc | apply pw_below_drewN | apply below_drew1) | exact HB.out)⟩
      · replace c8 := Bool.eq_false_iff.mpr c8
        subst c8
        have H1 : ((valiseref21_all.f kj4 l2 286).bind fun t212 => ((valiseref21_all.f kj4 l3 30).bind fun t213 => (if t212 = true then (valiseref21_Cheapest.j1 kj4 l0 a1 l2 l3 (!t213)) else (valiseref21_Cheapest.j1 kj4 l0 a1 l2 l3 true)))) = some (r1, r2) := by rw [if_neg (show ¬ (false = true) by decide)] at H; exact H
        clear H
        have H := H1
        clear H1
        replace H := Option.bind_eq_some_iff.mp H
        obtain ⟨t212, A90, H⟩ := H
        replace H : ((valiseref21_all.f kj4 l3 30).bind fun t213 => (if t212 = true then (valiseref21_Cheapest.j1 kj4 l0 a1 l2 l3 (!t213)) else (valiseref21_Cheapest.j1 kj4 l0 a1 l2 l3 true))) = some (r1, r2) := H
        have A9 := Aside0.mk A90
        clear A90
        replace H := Option.bind_eq_some_iff.mp H
        obtain ⟨t213, A100, H⟩ := H
        replace H : (if t212 = true then (valiseref21_Cheapest.j1 kj4 l0 a1 l2 l3 (!t213)) else (valiseref21_Cheapest.j1 kj4 l0 a1 l2 l3 true)) = some (r1, r2) := H
        have A10 := Aside0.mk A100
        clear A100
        have HC11 := Aside0.mk H
        clear H
        go_upto_region 5 with (first | ((with_reducible refine gate_callee (f := 36) rfl ?_); refine goesL_ (some 38) rfl rfl Tryd.func36 (by kernel_rfl) rfl #[.slice A2 l2.length c2, .int .i64 286] rfl (by (try simp only [List.map_toArray, List.map_cons, List.map_nil]); first | done | rfl | (simp only [List.length_drop, List.length_take]; rfl)) ?_; (with_reducible refine (valiseref21_all.calls kj4 _ _ l2 286 t212 _ ?side1 ?side2 A9.out).mono ?_); (case side1 => repeat (first | exact (Kd.C_below HR2.out HB.out) | (with_reducible refine Kd.C_alloc ?_ _) | (with_reducible refine Kd.C_drewN ?_ _) | (with_reducible refine Kd.C_drew ?_))); (case side2 => exact HC2.out); rintro e w' ⟨rfl, ⟨nd, rfl⟩⟩; refine ⟨_, rfl, ?_⟩) | ((with_reducible refine gate_callee (f := 36) rfl ?_); refine goesL_ (some 40) rfl rfl Tryd.func36 (by kernel_rfl) rfl #[.slice A3 l3.length c3, .int .i64 30] rfl (by (try simp only [List.map_toArray, List.map_cons, List.map_nil]); first | done | rfl | (simp only [List.length_drop, List.length_take]; rfl)) ?_; (with_reducible refine (valiseref21_all.calls kj4 _ _ l3 30 t213 _ ?side1 ?side2 A10.out).mono ?_); (case side1 => repeat (first | exact (Kd.C_below HR3.out (by repeat (first | (with_reducible first | exact HB.out | apply below_alloc | apply pw_below_drewN | apply below_drew1) | exact HB.out))) | (with_reducible refine Kd.C_alloc ?_ _) | (with_reducible refine Kd.C_drewN ?_ _) | (with_reducible refine Kd.C_drew ?_))); (case side2 => exact HC3.out); rintro e w' ⟨rfl, ⟨nd, rfl⟩⟩; refine ⟨_, rfl, ?_⟩))
        (try simp only [Act.put, List.setIfInBounds_toArray, List.set_cons_zero, List.set_cons_succ])
        go_cut [46] (fun v46 wc => ∃ (kq : Nat) (x46_10 : Bool), v46 = .bool x46_10 ∧ Aside0 (valiseref21_Cheapest.j1 kq l0 a1 l2 l3 x46_10 = some (r1, r2)) ∧ Aside0 (kq ≤ kj4) ∧ Aside0 (Below w.heap.size w wc))
        case first =>
          have H := HC11.out
          clear HC11
          by_cases c12 : t212 = true
          · subst c12
            have H1 : (valiseref21_Cheapest.j1 kj4 l0 a1 l2 l3 (!t213)) = some (r1, r2) := by rw [if_pos rfl] at H; exact H
            clear H
            have H := H1
            clear H1
            have H' := Aside0.mk H
            clear H
            go_wp2
            go_meet
            case rel => exact ⟨_, (!t213), (by first | rfl | (simp; done) | (simp [*]; done)), H', ⟨by have := HJ4.out; first | omega | exact Nat.le_refl _⟩, ⟨by repeat (first | (with_reducible first | exact HB.out | apply below_alloc | apply pw_below_drewN | apply below_drew1) | exact HB.out)⟩⟩
          · replace c12 := Bool.eq_false_iff.mpr c12
            subst c12
            have H1 : (valiseref21_Cheapest.j1 kj4 l0 a1 l2 l3 true) = some (r1, r2) := by rw [if_neg (show ¬ (false = true) by decide)] at H; exact H
            clear H
            have H := H1
            clear H1
            have H' := Aside0.mk H
            clear H
            go_wp2
            go_meet
            case rel => exact ⟨_, (true), (by first | rfl | (simp; done) | (simp [*]; done)), H', ⟨by have := HJ4.out; first | omega | exact Nat.le_refl _⟩, ⟨by repeat (first | (with_reducible first | exact HB.out | apply below_alloc | apply pw_below_drewN | apply below_drew1) | exact HB.out)⟩⟩
        case rest =>
          clear HC11
          try clear c1
          try clear c2
          try clear p2
          try clear c3
          try clear c6
          try clear c6b0
          try clear c6b1
          try clear c7
          try clear c7b0
          try clear c8
          try clear c12
          try clear p2
          obtain ⟨kq, x46_10, rfl, HA, HJ10, HB⟩ := hcut
          cases kq with
          | zero => exact absurd HA.out (by simp [valiseref21_Cheapest.j1])
          | succ kj10 =>
            have H := HA.out
            clear HA
            simp only [valiseref21_Cheapest.j1] at H
            by_cases c13 : x46_10 = true
            · subst c13
              have H1 : (some (([] : List (S56)), 210)) = some (r1, r2) := by rw [if_pos rfl] at H; exact H
              clear H
              have H := H1
              clear H1
              simp only [Option.some.injEq, Prod.mk.injEq] at H
              obtain ⟨rfl, rfl⟩ := H
              go_wp2
              go_ret2
              exact ⟨_, by first | rfl | (simp [errW_none, errW_some] <;> rfl) | (simp [*, errW_none, errW_some] <;> rfl), by first | exact Kd.R_nil _ _ _ _ _ | exact Kd.N_nil _ _ _ _ _ | exact Kd.V_nil _ _ _ _ _ | exact Kd.Q_nil _ _ _ _ _ | exact Kd.S_nil _ _ _ _ _, by repeat (first | (with_reducible first | exact HB.out | apply below_alloc | apply pw_below_drewN | apply below_drew1) | exact HB.out)⟩
            · replace c13 := Bool.eq_false_iff.mpr c13
              subst c13
              have H1 : ((valiseref21_table.f kj10 l2 l3 (mn a1 (l0.length : Int))).bind fun bt214 => (if 0 ≤ (wrap64 ((l0.length : Int) + 1)) then (if (wrap64 ((l0.length : Int) + 1) : Int).toNat ≤ 35184372088832 then (if (wrap64 ((l0.length : Int) + 1) : Int).toNat ≤ 11728124029610 then (valiseref21_Cheapest.l0 kj10 l0 a1 l2 (l0.length : Int) bt214.1 bt214.2 (List.replicate (wrap64 ((l0.length : Int) + 1) : Int).toNat 0) (List.replicate (wrap64 ((l0.length : Int) + 1) : Int).toNat z56) (wrap64 ((l0.length : Int) - 1))) else (none)) else (none)) else (none))) = some (r1, r2) := by rw [if_neg (show ¬ (false = true) by decide)] at H; exact H
              clear H
              have H := H1
              clear H1
              obtain ⟨ji14, hji14⟩ : ∃ j_ : Int, (mn a1 (l0.length : Int)) = j_ := ⟨_, rfl⟩
              replace H : ((valiseref21_table.f kj10 l2 l3 (ji14)).bind fun bt214 => (if 0 ≤ (wrap64 ((l0.length : Int) + 1)) then (if (wrap64 ((l0.length : Int) + 1) : Int).toNat ≤ 35184372088832 then (if (wrap64 ((l0.length : Int) + 1) : Int).toNat ≤ 11728124029610 then (valiseref21_Cheapest.l0 kj10 l0 a1 l2 (l0.length : Int) bt214.1 bt214.2 (List.replicate (wrap64 ((l0.length : Int) + 1) : Int).toNat 0) (List.replicate (wrap64 ((l0.length : Int) + 1) : Int).toNat z56) (wrap64 ((l0.length : Int) - 1))) else (none)) else (none)) else (none))) = some (r1, r2) := by first | (rw [hji14] at H; exact H) | (simp only [hji14] at H ⊢; exact H)
              have hji14_ : (if (l0.length : Int) < a1 then (l0.length : Int) else a1) = ji14 := hji14
              replace H := Option.bind_eq_some_iff.mp H
              obtain ⟨⟨t214, t215⟩, A150, H⟩ := H
              replace H : (if 0 ≤ (wrap64 ((l0.length : Int) + 1)) then (if (wrap64 ((l0.length : Int) + 1) : Int).toNat ≤ 35184372088832 then (if (wrap64 ((l0.length : Int) + 1) : Int).toNat ≤ 11728124029610 then (valiseref21_Cheapest.l0 kj10 l0 a1 l2 (l0.length : Int) t214 t215 (List.replicate (wrap64 ((l0.length : Int) + 1) : Int).toNat 0) (List.replicate (wrap64 ((l0.length : Int) + 1) : Int).toNat z56) (wrap64 ((l0.length : Int) - 1))) else (none)) else (none)) else (none)) = some (r1, r2) := H
              have A15 := Aside0.mk A150
              clear A150
              obtain ⟨ji16, hji16⟩ : ∃ j_ : Int, (wrap64 ((l0.length : Int) + 1)) = j_ := ⟨_, rfl⟩
              replace H : (if 0 ≤ (ji16) then (if (ji16 : Int).toNat ≤ 35184372088832 then (if (ji16 : Int).toNat ≤ 11728124029610 then (valiseref21_Cheapest.l0 kj10 l0 a1 l2 (l0.length : Int) t214 t215 (List.replicate (ji16 : Int).toNat 0) (List.replicate (ji16 : Int).toNat z56) (wrap64 ((l0.length : Int) - 1))) else (none)) else (none)) else (none)) = some (r1, r2) := by first | (rw [hji16] at H; exact H) | (simp only [hji16] at H ⊢; exact H)
              (try rw [hji16] at A15)
              have hji16w : (IntKind.i64.wrap ((l0.length : Int) + 1)) = ji16 := (i64_w _).trans hji16
              by_cases c17 : 0 ≤ (ji16)
              · rw [if_pos c17] at H
                have c17b0 := eq_true c17
                have c17b1 : decide (0 ≤ (ji16)) = true := decide_eq_true c17
                clear c17
                by_cases c18 : (ji16 : Int).toNat ≤ 35184372088832
                · rw [if_pos c18] at H
                  have c18b0 := eq_true c18
                  have c18b1 : decide ((ji16 : Int).toNat ≤ 35184372088832) = true := decide_eq_true c18
                  clear c18
                  obtain ⟨y220, hy220⟩ : ∃ y_ : List Int, y_ = (List.replicate (ji16 : Int).toNat 0) := ⟨_, rfl⟩
                  replace H : (if (ji16 : Int).toNat ≤ 11728124029610 then (valiseref21_Cheapest.l0 kj10 l0 a1 l2 (l0.length : Int) t214 t215 y220 (List.replicate (ji16 : Int).toNat z56) (wrap64 ((l0.length : Int) - 1))) else (none)) = some (r1, r2) := by first | (rw [hy220]; with_reducible exact H) | (have H2_ := (Option.bind_some _ _).symm.trans H; rw [hy220]; with_reducible exact H2_) | (have H2_ := (Option.bind_some _ _).symm.trans H; with_reducible exact H2_) | with_reducible exact H | (rw [hy220]; exact H) | exact H
                  have Ny220 := Aside0.mk hy220
                  clear hy220
                  by_cases c19 : (ji16 : Int).toNat ≤ 11728124029610
                  · rw [if_pos c19] at H
                    have c19b0 := eq_true c19
                    have c19b1 : decide ((ji16 : Int).toNat ≤ 11728124029610) = true := decide_eq_true c19
                    clear c19
                    obtain ⟨y223, hy223⟩ : ∃ y_ : List (S56), y_ = (List.replicate (ji16 : Int).toNat z56) := ⟨_, rfl⟩
                    replace H : (valiseref21_Cheapest.l0 kj10 l0 a1 l2 (l0.length : Int) t214 t215 y220 y223 (wrap64 ((l0.length : Int) - 1))) = some (r1, r2) := by first | (rw [hy223]; with_reducible exact H) | (have H2_ := (Option.bind_some _ _).symm.trans H; rw [hy223]; with_reducible exact H2_) | (have H2_ := (Option.bind_some _ _).symm.trans H; with_reducible exact H2_) | with_reducible exact H | (rw [hy223]; exact H) | exact H
                    have Ny223 := Aside0.mk hy223
                    clear hy223
                    have H' := Aside0.mk H
                    clear H
                    go_wp2_with (first | ((with_reducible refine gate_callee (f := 40) rfl ?_); refine goesL_ (some 56) rfl rfl Tryd.func40 (by kernel_rfl) rfl #[.slice A2 l2.length c2, .slice A3 l3.length c3, .int .i64 ji14] rfl (by (try simp only [List.map_toArray, List.map_cons, List.map_nil]); first | done | (simp only [hji14]; rfl) | rfl | (simp only [List.length_drop, List.length_take]; rfl)) ?_; (with_reducible refine (valiseref21_table.calls kj10 _ _ l2 _ _ l3 ji14 t214 t215 _ ?side1 ?side2 ?side3 ?side4 A15.out).mono ?_); (case side1 => repeat (first | exact (Kd.C_below HR2.out HB.out) | (with_reducible refine Kd.C_alloc ?_ _) | (with_reducible refine Kd.C_drewN ?_ _) | (with_reducible refine Kd.C_drew ?_))); (case side2 => exact HC2.out); (case side3 => repeat (first | exact (Kd.C_below HR3.out HB.out) | (with_reducible refine Kd.C_alloc ?_ _) | (with_reducible refine Kd.C_drewN ?_ _) | (with_reducible refine Kd.C_drew ?_))); (case side4 => exact HC3.out); rintro e w20 ⟨v216, v218, rfl, ho0, ho1, hb⟩; refine ⟨_, rfl, ?_⟩; have n0_ := Aside0.mk (Kd.R_lower ho0 (below_size (by repeat (first | (with_reducible first | exact HB.out | apply below_alloc | apply pw_below_drewN | apply below_drew1) | exact HB.out)))); have n1_ := Aside0.mk (Kd.R_lower ho1 (below_size (by repeat (first | (with_reducible first | exact HB.out | apply below_alloc | apply pw_below_drewN | apply below_drew1) | exact HB.out)))); have n2_ := Aside0.mk (below_step (by repeat (first | (with_reducible first | exact HB.out | apply below_alloc | apply pw_below_drewN | apply below_drew1) | exact HB.out)) hb); clear HB; have HO217 := n0_; have HO219 := n1_; have HB := n2_; clear n0_ n1_ n2_; (try clear hb); (try clear hb2); (try clear hk); (try clear hi); (try clear ho0); (try clear ho1)) | ((with_reducible refine gate_dst (N := 61) rfl ?_); refine Kd.R_make (Kd.int .i64) _ 3 rfl (N := 61) rfl 36 _ _ rfl ji16 rfl rfl Tryd.underlying36 (.int .i64 0) 8 info3 rfl (by decide) (by omega) 0 (ok := fun _ => True) (okp := fun _ => True) rfl (fun _ hk => hk) trivial (of_decide_eq_true (by first | (with_reducible assumption) | assumption)) (Nat.le_trans (Nat.mul_le_mul_right _ (of_decide_eq_true (by first | (with_reducible assumption) | assumption) : ji16.toNat ≤ 35184372088832)) (by omega)) (Below.refl _ _) (Nat.le_refl _) ?_; intro v221 w21 ho22 hb hg_ hnew_; clear hg_ hnew_; (first | rw [← Ny220.out] at ho22 | (simp only [Int.reduceToNat] at ho22; rw [← Ny220.out] at ho22)); have n0_ := Aside0.mk (Kd.R_elder' (by (with_reducible repeat (first | apply Kd.R_alloc | apply Kd.R_drewN | apply Kd.R_drew)); exact HO217.out) (Kd.R_base ho22) hb); have n1_ := Aside0.mk (Kd.R_elder' (by (with_reducible repeat (first | apply Kd.R_alloc | apply Kd.R_drewN | apply Kd.R_drew)); exact HO219.out) (Kd.R_base ho22) hb); have n2_ := Aside0.mk (Kd.R_lower (Kd.R_new' (Kd.R_new' ho22 (Kd.R_lt (by (with_reducible repeat (first | apply Kd.R_alloc | apply Kd.R_drewN | apply Kd.R_drew)); exact HO217.out))) (Kd.R_lt (by (with_reducible repeat (first | apply Kd.R_alloc | apply Kd.R_drewN | apply Kd.R_drew)); exact HO219.out))) (below_size (by repeat (first | (with_reducible first | exact HB.out | apply below_alloc | apply pw_below_drewN | apply below_drew1) | exact HB.out)))); have n3_ := Aside0.mk (below_step (by repeat (first | (with_reducible first | exact HB.out | apply below_alloc | apply pw_below_drewN | apply below_drew1) | exact HB.out)) hb); clear HO217; clear HO219; clear HB; have HO217 := n0_; have HO219 := n1_; have HO222 := n2_; have HB := n3_; clear n0_ n1_ n2_ n3_; clear hb ho22) | ((with_reducible refine gate_dst (N := 64) rfl ?_); refine Kd.R_make k56 _ 56 rfl (N := 64) rfl 35 _ _ rfl ji16 rfl rfl Tryd.underlying35 (.agg #[(.int .i64 0), (.int .i64 0), (.int .u8 0)]) 24 info56 rfl (by decide) (by omega) z56 (ok := fun _ => True) (okp := fun _ => True) (k56_mkM _ _ _ z56 ) (fun _ hk => hk) trivial (of_decide_eq_true (by first | (with_reducible assumption) | assumption)) (Nat.le_trans (Nat.mul_le_mul_right _ (of_decide_eq_true (by first | (with_reducible assumption) | assumption) : ji16.toNat ≤ 11728124029610)) (by omega)) (Below.refl _ _) (Nat.le_refl _) ?_; intro v224 w23 ho24 hb hg_ hnew_; clear hg_ hnew_; (first | rw [← Ny223.out] at ho24 | (simp only [Int.reduceToNat] at ho24; rw [← Ny223.out] at ho24)); have n0_ := Aside0.mk (Kd.R_below (by (with_reducible repeat (first | apply Kd.R_alloc | apply Kd.R_drewN | apply Kd.R_drew)); exact HO217.out) hb); have n1_ := Aside0.mk (Kd.R_below (by (with_reducible repeat (first | apply Kd.R_alloc | apply Kd.R_drewN | apply Kd.R_drew)); exact HO219.out) hb); have n2_ := Aside0.mk (Kd.R_below (by (with_reducible repeat (first | apply Kd.R_alloc | apply Kd.R_drewN | apply Kd.R_drew)); exact HO222.out) hb); have n3_ := Aside0.mk (Kd.R_lower ho24 (below_size (by repeat (first | (with_reducible first | exact HB.out | apply below_alloc | apply pw_below_drewN | apply below_drew1) | exact HB.out)))); have n4_ := Aside0.mk (below_step (by repeat (first | (with_reducible first | exact HB.out | apply below_alloc | apply pw_below_drewN | apply below_drew1) | exact HB.out)) hb); clear HO217; clear HO219; clear HO222; clear HB; have HO217 := n0_; have HO219 := n1_; have HO222 := n2_; have HO225 := n3_; have HB := n4_; clear n0_ n1_ n2_ n3_ n4_; clear hb ho24))
                    go_loopg [18] kj10 (fun kq v18 w' => ∃ (x16_3 : List Int) (x17_3 : List (S56)) (x18_3 : Int), v18 = .int .i64 x18_3 ∧ Aside0 (valiseref21_Cheapest.l0 kq l0 a1 l2 (l0.length : Int) t214 t215 x16_3 x17_3 x18_3 = some (r1, r2)) ∧ Aside0 (kq ≤ kj10) ∧ Aside0 (Kd.R (Kd.int .i64) 3 w' w.heap.size (fun k_ => some k_ ≠ (v218 : Value).ownBlock ∧ some k_ ≠ (v221 : Value).ownBlock) v216 t214) ∧ Aside0 (Kd.R (Kd.int .i64) 3 w' w.heap.size (fun k_ => some k_ ≠ (v216 : Value).ownBlock ∧ some k_ ≠ (v221 : Value).ownBlock) v218 t215) ∧ Aside0 (Kd.R (Kd.int .i64) 3 w' w.heap.size (fun k_ => some k_ ≠ (v216 : Value).ownBlock ∧ some k_ ≠ (v218 : Value).ownBlock) v221 x16_3) ∧ Aside0 (Kd.R k56 56 w' w.heap.size (fun _ => True) v224 x17_3) ∧ Aside0 (Below w.heap.size w w'))
                    case atStart => exact ⟨(y220), (y223), (wrap64 ((l0.length : Int) - 1)), (by first | rfl | (simp; done) | (simp [*]; done)), H', ⟨Nat.le_refl _⟩, ⟨by (with_reducible repeat (first | apply Kd.R_alloc | apply Kd.R_drewN | apply Kd.R_drew)); exact HO217.out⟩, ⟨by (with_reducible repeat (first | apply Kd.R_alloc | apply Kd.R_drewN | apply Kd.R_drew)); exact HO219.out⟩, ⟨by (with_reducible repeat (first | apply Kd.R_alloc | apply Kd.R_drewN | apply Kd.R_drew)); exact Kd.R_mono HO222.out (fun _ hk => ⟨hk.1.2, hk.2⟩)⟩, ⟨by (with_reducible repeat (first | apply Kd.R_alloc | apply Kd.R_drewN | apply Kd.R_drew)); exact HO225.out⟩, ⟨by repeat (first | (with_reducible first | exact HB.out | apply below_alloc | apply pw_below_drewN | apply below_drew1) | exact HB.out)⟩⟩
                    case round =>
                      clear H'
                      try clear c1
                      try clear c2
                      try clear p2
                      try clear c3
                      try clear c4
                      try clear c6
                      try clear c6b0
                      try clear c6b1
                      try clear p6
                      try clear c7
                      try clear c7b0
                      try clear c8
                      try clear c12
                      try clear c13
                      try clear c17
                      try clear c17b0
                      try clear c17b1
                      try clear c18
                      try clear c18b0
                      try clear c18b1
                      try clear c19
                      try clear c19b0
                      try clear c19b1
                      try clear c24
                      try clear p2
                      obtain ⟨x16_3, x17_3, x18_3, rfl, HA, HK3, HO_14, HO_15, HO_16, HO_17, HB⟩ := hrel
                      cases gk with
                      | zero => exact absurd HA.out (by simp [valiseref21_Cheapest.l0])
                      | succ k3 =>
                        have H := HA.out
                        clear HA
                        simp only [valiseref21_Cheapest.l0] at H
                        by_cases c25 : x18_3 ≥ 0
                        · rw [if_pos c25] at H
                          have c25b0 : decide (0 ≤ x18_3) = true := decide_eq_true c25
                          clear c25
                          by_cases c26 : 0 ≤ x18_3
                          · rw [if_pos c26] at H
                            have c26b0 : decide (0 ≤ x18_3) = true := decide_eq_true c26
                            clear c26
                            by_cases c27 : x18_3 < (l0.length : Int)
                            · rw [if_pos c27] at H
                              have c27b0 : decide (x18_3 < (l0.length : Int)) = true := decide_eq_true c27
                              clear c27
                              by_cases c28 : x18_3 < (x17_3.length : Int)
                              · rw [if_pos c28] at H
                                have c28b0 : decide (x18_3 < (x17_3.length : Int)) = true := decide_eq_true c28
                                clear c28
                                obtain ⟨y227, hy227⟩ : ∃ y_ : List (S56), y_ = (x17_3.set (x18_3 : Int).toNat (⟨0, 0, rd l0 x18_3⟩ : S56)) := ⟨_, rfl⟩
                                replace H : (if 0 ≤ (wrap64 (rd l0 x18_3)) then (if (wrap64 (rd l0 x18_3)) < (l2.length : Int) then (if 0 ≤ (wrap64 (x18_3 + 1)) then (if (wrap64 (x18_3 + 1)) < (x16_3.length : Int) then (if x18_3 < (x16_3.length : Int) then (valiseref21_Cheapest.l1 k3 l0 a1 l2 (l0.length : Int) t214 t215 (x16_3.set (x18_3 : Int).toNat (wrap64 ((rd l2 (wrap64 (rd l0 x18_3))) + (rd x16_3 (wrap64 (x18_3 + 1)))))) y227 x18_3 1 1) else (none)) else (none)) else (none)) else (none)) else (none)) = some (r1, r2) := by first | (rw [hy227]; with_reducible exact H) | (have H2_ := (Option.bind_some _ _).symm.trans H; rw [hy227]; with_reducible exact H2_) | (have H2_ := (Option.bind_some _ _).symm.trans H; with_reducible exact H2_) | with_reducible exact H | (rw [hy227]; exact H) | exact H
                                have Ny227 := Aside0.mk hy227
                                clear hy227
                                obtain ⟨ji30, hji30⟩ : ∃ j_ : Int, (wrap64 (rd l0 x18_3)) = j_ := ⟨_, rfl⟩
                                replace H : (if 0 ≤ (ji30) then (if (ji30) < (l2.length : Int) then (if 0 ≤ (wrap64 (x18_3 + 1)) then (if (wrap64 (x18_3 + 1)) < (x16_3.length : Int) then (if x18_3 < (x16_3.length : Int) then (valiseref21_Cheapest.l1 k3 l0 a1 l2 (l0.length : Int) t214 t215 (x16_3.set (x18_3 : Int).toNat (wrap64 ((rd l2 (ji30)) + (rd x16_3 (wrap64 (x18_3 + 1)))))) y227 x18_3 1 1) else (none)) else (none)) else (none)) else (none)) else (none)) = some (r1, r2) := by first | (rw [hji30] at H; exact H) | (simp only [hji30] at H ⊢; exact H)
                                have hji30w : (IntKind.i64.wrap (rd l0 x18_3)) = ji30 := (i64_w _).trans hji30
                                by_cases c31 : 0 ≤ (ji30)
                                · rw [if_pos c31] at H
                                  have c31b0 : decide (0 ≤ (ji30)) = true := decide_eq_true c31
                                  clear c31
                                  by_cases c32 : (ji30) < (l2.length : Int)
                                  · rw [if_pos c32] at H
                                    have c32b0 : decide ((ji30) < (l2.length : Int)) = true := decide_eq_true c32
                                    clear c32
                                    obtain ⟨ji33, hji33⟩ : ∃ j_ : Int, (wrap64 (x18_3 + 1)) = j_ := ⟨_, rfl⟩
                                    replace H : (if 0 ≤ (ji33) then (if (ji33) < (x16_3.length : Int) then (if x18_3 < (x16_3.length : Int) then (valiseref21_Cheapest.l1 k3 l0 a1 l2 (l0.length : Int) t214 t215 (x16_3.set (x18_3 : Int).toNat (wrap64 ((rd l2 (ji30)) + (rd x16_3 (ji33))))) y227 x18_3 1 1) else (none)) else (none)) else (none)) = some (r1, r2) := by first | (rw [hji33] at H; exact H) | (simp only [hji33] at H ⊢; exact H)
                                    have hji33w : (IntKind.i64.wrap (x18_3 + 1)) = ji33 := (i64_w _).trans hji33
                                    by_cases c34 : 0 ≤ (ji33)
                                    · rw [if_pos c34] at H
                                      have c34b0 : decide (0 ≤ (ji33)) = true := decide_eq_true c34
                                      clear c34
                                      by_cases c35 : (ji33) < (x16_3.length : Int)
                                      · rw [if_pos c35] at H
                                        have c35b0 : decide ((ji33) < (x16_3.length : Int)) = true := decide_eq_true c35
                                        clear c35
                                        by_cases c36 : x18_3 < (x16_3.length : Int)
                                        · rw [if_pos c36] at H
                                          have c36b0 : decide (x18_3 < (x16_3.length : Int)) = true := decide_eq_true c36
                                          clear c36
                                          obtain ⟨y231, hy231⟩ : ∃ y_ : List Int, y_ = (x16_3.set (x18_3 : Int).toNat (wrap64 ((rd l2 (ji30)) + (rd x16_3 (ji33))))) := ⟨_, rfl⟩
                                          replace H : (valiseref21_Cheapest.l1 k3 l0 a1 l2 (l0.length : Int) t214 t215 y231 y227 x18_3 1 1) = some (r1, r2) := by first | (rw [hy231]; with_reducible exact H) | (have H2_ := (Option.bind_some _ _).symm.trans H; rw [hy231]; with_reducible exact H2_) | (have H2_ := (Option.bind_some _ _).symm.trans H; with_reducible exact H2_) | with_reducible exact H | (rw [hy231]; exact H) | exact H
                                          have Ny231 := Aside0.mk hy231
                                          clear hy231
                                          have H' := Aside0.mk H
                                          clear H
                                          have p226 : 0 ≤ (x18_3 : Int) := of_decide_eq_true (by first | (with_reducible assumption) | assumption)
                                          have q226 : x18_3 < (l0.length : Int) := of_decide_eq_true (by first | (with_reducible assumption) | assumption)
                                          obtain ⟨ad226, e226, hx226_0⟩ := Kd.at_int HR0.out x18_3 p226 q226
                                          cases e226
                                          replace hx226_0 := (HB.out.cell (World.block_lt_of_cell? w _ hx226_0)).trans hx226_0
                                          replace p226 := eq_true p226
                                          replace q226 := eq_true q226
                                          have p29 : 0 ≤ (x18_3 : Int) := of_decide_eq_true (by first | (with_reducible assumption) | assumption)
                                          have q29 : (x18_3 : Int) < ((x17_3.length : Int) : Int) := of_decide_eq_true (by first | (with_reducible assumption) | assumption)
                                          obtain ⟨go29, co29, eo29, gb29, gl29, cl29, HG29⟩ := Kd.R_form HO_17.out (by omega)
                                          (first | cases eo29 | (injection eo29 with ea_ en_ ec_; (first | subst ea_ | (injection ea_ with ea_; subst ea_)); subst ec_; clear en_))
                                          have GB29 := Aside0.mk gb29
                                          have GG29 := Aside0.mk HG29
                                          clear gb29 gl29 HG29
                                          obtain ⟨ce29, hcl29, hM29, hcc29, hfr29⟩ := Kd.R_elem HO_17.out z56 (x18_3 : Int) p29 q29
                                          obtain rfl := k56_openM hM29
                                          have hx29_0 : wr.cell? ⟨go29, (x18_3 : Int).toNat * 3, none⟩ = some (.int .i64 ((rd_T56 x17_3 x18_3).f0)) := hcc29 0 _ rfl
                                          have hx29_1 : wr.cell? ⟨go29, (x18_3 : Int).toNat * 3 + 1, none⟩ = some (.int .i64 ((rd_T56 x17_3 x18_3).f1)) := hcc29 1 _ rfl
                                          have hx29_2 : wr.cell? ⟨go29, (x18_3 : Int).toNat * 3 + 2, none⟩ = some (.int .u8 ((rd_T56 x17_3 x18_3).f2)) := hcc29 2 _ rfl
                                          have hf29_0 : wr.frozen? ⟨go29, (x18_3 : Int).toNat * 3, none⟩ = false := hfr29 0
                                          have hf29_1 : wr.frozen? ⟨go29, (x18_3 : Int).toNat * 3 + 1, none⟩ = false := hfr29 1
                                          have hf29_2 : wr.frozen? ⟨go29, (x18_3 : Int).toNat * 3 + 2, none⟩ = false := hfr29 2
                                          clear hcl29 hcc29 hfr29 hM29
                                          replace p29 := eq_true p29
                                          replace q29 := eq_true q29
                                          have HX38 := Aside0.mk (show Kd.R k56 56 wr w.heap.size (fun _ => True) (.slice (some ⟨go29, 0, none⟩) x17_3.length co29) x17_3 from (by (with_reducible repeat (first | apply Kd.R_alloc | apply Kd.R_drewN | apply Kd.R_drew)); exact HO_17.out))
                                          obtain ⟨ce38, hcl38, hM38, hcc38, hfr38⟩ := Kd.R_elem HX38.out z56 (x18_3 : Int) (of_decide_eq_true (by first | (with_reducible assumption) | assumption)) (by have h_ : (x18_3 : Int) < ((x17_3.length : Int) : Int) := of_decide_eq_true (by first | (with_reducible assumption) | assumption); first | exact h_ | (have e_ := (Kd.R_reads' HO_17.out).1; omega) | simpa using h_)
                                          obtain rfl := k56_openM hM38
                                          have HP38 := Kd.R_seg HX38.out (x18_3 : Int) (of_decide_eq_true (by first | (with_reducible assumption) | assumption)) (by have h_ : (x18_3 : Int) < ((x17_3.length : Int) : Int) := of_decide_eq_true (by first | (with_reducible assumption) | assumption); first | exact h_ | (have e_ := (Kd.R_reads' HO_17.out).1; omega) | simpa using h_) (seg := [.int .i64 0, .int .i64 0, .int .u8 (rd l0 x18_3)]) (j := 0) hcl38 hcc38 (show 3 ≤ 3 from by decide) (x' := (⟨0, 0, rd l0 x18_3⟩ : S56)) (k56_mkM _ _ _ (⟨0, 0, rd l0 x18_3⟩ : S56) ) (fun _ hk => hk)
                                          have hx38_0 := hcc38 0 _ rfl
                                          (try simp only [show (k56).sz = 3 from rfl, Nat.mul_one, Nat.add_zero] at hx38_0)
                                          have hf38_0 := hfr38 0
                                          (try simp only [show (k56).sz = 3 from rfl, Nat.mul_one, Nat.add_zero] at hf38_0)
                                          have hx38_1 := hcc38 1 _ rfl
                                          (try simp only [show (k56).sz = 3 from rfl, Nat.mul_one, Nat.add_zero] at hx38_1)
                                          have hf38_1 := hfr38 1
                                          (try simp only [show (k56).sz = 3 from rfl, Nat.mul_one, Nat.add_zero] at hf38_1)
                                          have hx38_2 := hcc38 2 _ rfl
                                          (try simp only [show (k56).sz = 3 from rfl, Nat.mul_one, Nat.add_zero] at hx38_2)
                                          have hf38_2 := hfr38 2
                                          (try simp only [show (k56).sz = 3 from rfl, Nat.mul_one, Nat.add_zero] at hf38_2)
                                          clear hcl38 hcc38 hfr38 hM38
                                          try go_wp2_with (first | ((with_reducible refine gate_store (t := 56) (p := 78) rfl ?_); refine store_event (t := 56) (p := 78) (v := ?vo_w39) (w1 := (((wr.setCell ⟨go29, (x18_3 : Int).toNat * 3, none⟩ (.int .i64 0)).setCell ⟨go29, (x18_3 : Int).toNat * 3 + 1, none⟩ (.int .i64 0)).setCell ⟨go29, (x18_3 : Int).toNat * 3 + 2, none⟩ (.int .u8 (rd l0 x18_3)))) ?hg ?ho ?hn ?hr ?_; (case ho => rfl); (case hg => rfl); (case hn => rfl); (case hr => first | (go_simp; done) | (go_simp; rfl)); intro w39 hw; have hg : wr.grownBy w39 (some go29) := (by rw [hw]; exact HP38.2); have hp_ : Kd.R k56 56 w39 w.heap.size (fun _ => True) (.slice (some ⟨go29, 0, none⟩) x17_3.length co29) y227 := (by rw [hw, Ny227.out]; exact HP38.1); clear HP38; have n0_ := Aside0.mk (Kd.R_over' (v := (.slice (some ⟨go29, 0, none⟩) x17_3.length co29)) (by (with_reducible repeat (first | apply Kd.R_alloc | apply Kd.R_drewN | apply Kd.R_drew)); exact HO_14.out) (Kd.R_typed HO_17.out) (by decide) hg); have n1_ := Aside0.mk (Kd.R_over' (v := (.slice (some ⟨go29, 0, none⟩) x17_3.length co29)) (by (with_reducible repeat (first | apply Kd.R_alloc | apply Kd.R_drewN | apply Kd.R_drew)); exact HO_15.out) (Kd.R_typed HO_17.out) (by decide) hg); have n2_ := Aside0.mk (Kd.R_over' (v := (.slice (some ⟨go29, 0, none⟩) x17_3.length co29)) (by (with_reducible repeat (first | apply Kd.R_alloc | apply Kd.R_drewN | apply Kd.R_drew)); exact HO_16.out) (Kd.R_typed HO_17.out) (by decide) hg); have n3_ := Aside0.mk (hp_); have n4_ := Aside0.mk ((by rw [hw]; exact below_set (below_set (below_set (HB.out) GB29.out) GB29.out) GB29.out : Below w.heap.size w w39)); clear HO_14; clear HO_15; clear HO_16; clear HO_17; clear HB; have HO_14 := n0_; have HO_15 := n1_; have HO_16 := n2_; have HO_17 := n3_; have HB := n4_; clear n0_ n1_ n2_ n3_ n4_; clear hg hw hp_))
                                          have n0_ := Aside0.mk (Kd.R_drew HO_14.out)
                                          have n1_ := Aside0.mk (Kd.R_drew HO_15.out)
                                          have n2_ := Aside0.mk (Kd.R_drew HO_16.out)
                                          have n3_ := Aside0.mk (Kd.R_drew HO_17.out)
                                          have n4_ := Aside0.mk (below_drew1 HB.out)
                                          clear HO_14
                                          clear HO_15
                                          clear HO_16
                                          clear HO_17
                                          clear HB
                                          have HO_14 := n0_
                                          have HO_15 := n1_
                                          have HO_16 := n2_
                                          have HO_17 := n3_
                                          have HB := n4_
                                          clear n0_ n1_ n2_ n3_ n4_
                                          have p228 : 0 ≤ (x18_3 : Int) := of_decide_eq_true (by first | (with_reducible assumption) | assumption)
                                          have q228 : x18_3 < (l0.length : Int) := of_decide_eq_true (by first | (with_reducible assumption) | assumption)
                                          obtain ⟨ad228, e228, hx228_0⟩ := Kd.at_int HR0.out x18_3 p228 q228
                                          have hw228_0 := hx228_0
                                          obtain rfl : ad226 = ad228 := (by injection e228)
                                          replace hx228_0 := (HB.out.cell (World.block_lt_of_cell? w _ hx228_0)).trans hx228_0
                                          replace p228 := eq_true p228
                                          replace q228 := eq_true q228
                                          have p229 : 0 ≤ ((ji30) : Int) := of_decide_eq_true (by first | (with_reducible assumption) | assumption)
                                          have q229 : (ji30) < (l2.length : Int) := of_decide_eq_true (by first | (with_reducible assumption) | assumption)
                                          obtain ⟨ad229, e229, hx229_0⟩ := Kd.at_int HR2.out (ji30) p229 q229
                                          have hw229_0 := hx229_0
                                          cases e229
                                          replace hx229_0 := (HB.out.cell (World.block_lt_of_cell? w _ hx229_0)).trans hx229_0
                                          replace p229 := eq_true p229
                                          replace q229 := eq_true q229
                                          obtain ⟨Ao41, co41, eo41⟩ := Kd.R_slice HO_16.out
                                          (first | subst eo41 | (injection eo41 with f1_ f2_ f3_; have f4_ := f1_.symm; have f5_ := f3_.symm; clear f1_ f2_ f3_; subst f4_; subst f5_))
                                          have p230 : 0 ≤ ((ji33) : Int) := of_decide_eq_true (by first | (with_reducible assumption) | assumption)
                                          have q230 : (ji33) < (x16_3.length : Int) := of_decide_eq_true (by first | (with_reducible assumption) | assumption)
                                          obtain ⟨ad230, e230, hx230_0⟩ := Kd.at_int (Kd.R_reads' HO_16.out).2.2 (ji33) p230 q230
                                          cases e230
                                          replace p230 := eq_true p230
                                          replace q230 := eq_true q230
                                          have p37 : 0 ≤ (x18_3 : Int) := of_decide_eq_true (by first | (with_reducible assumption) | assumption)
                                          have q37 : (x18_3 : Int) < ((x16_3.length : Int) : Int) := of_decide_eq_true (by first | (with_reducible assumption) | assumption)
                                          obtain ⟨go37, co37, eo37, gb37, gl37, cl37, HG37⟩ := Kd.R_form HO_16.out (by omega)
                                          (first | cases eo37 | (injection eo37 with ea_ en_ ec_; (first | subst ea_ | (injection ea_ with ea_; subst ea_)); subst ec_; clear en_))
                                          have GB37 := Aside0.mk gb37
                                          have GG37 := Aside0.mk HG37
                                          clear gb37 gl37 HG37
                                          (first | simp only [add_plain] at hx230_0 | skip)
                                          obtain ⟨hx37_0, hf37_0⟩ := Kd.R_celln 0 HO_16.out (x18_3 : Int) p37 q37
                                          replace p37 := eq_true p37
                                          replace q37 := eq_true q37
                                          have HP42 := Kd.R_putn HO_16.out (x18_3 : Int) (wrap64 ((rd l2 (ji30)) + (rd x16_3 (ji33))))
                                          rw [← Ny231.out] at HP42
                                          have HQ42 := Aside0.mk HP42
                                          clear HP42
                                          refine start_ (n := 18) (S := fun w' => w'.cell? (ad226.add (x18_3).toNat) = some (.int .u8 (rd l0 x18_3)) ∧ w'.cell? (ad229.add ((ji30)).toNat) = some (.int .i64 (rd l2 (ji30))) ∧ w'.cell? ⟨go37, ((ji33)).toNat, none⟩ = some (.int .i64 (rd x16_3 (ji33)))) (ds := [17]) #[false, false, false, false, false, false, false, false, false, false, false, false, false, false, false, false, false, false] (by kernel_rfl) rfl rfl ⟨((HB.out.cell (World.block_lt_of_cell? w _ hw228_0)).trans hw228_0), ((HB.out.cell (World.block_lt_of_cell? w _ hw229_0)).trans hw229_0), hx230_0⟩ (fun hHeld => ?_); refine with_tabW valiseref21_Cheapest.tab16 valiseref21_Cheapest.bits16 (fun HT_ HW_ => ?_)
                                          generalize w39.drew = w40 at HO_14 HO_15 HO_16 HO_17 HB GG37 HQ42 hf37_0 hx228_0 hx229_0 hx230_0 hx37_0 hHeld ⊢
                                          refine pure_ (i := 0) (N := some 79) (v := ?_) (a' := ?_) #[true, false, false, false, false, false, false, false, false, false, false, false, false, false, false, false, false, false] rfl rfl (any_of HT_.out (by kernel_rfl)) (fun _ _ _ h => h) (Or.inl ⟨by rfl, ?_⟩) ?_ ?_
                                          rotate_left
                                          · intro w'
                                            go_simp
                                            with_reducible rfl
                                          rotate_left
                                          · simp only [Act.put, List.setIfInBounds_toArray, List.set_cons_zero, List.set_cons_succ, i64_w, i32_w]
                                            rfl
                                          refine pure_ (i := 1) (N := some 80) (v := ?_) (a' := ?_) #[true, true, false, false, false, false, false, false, false, false, false, false, false, false, false, false, false, false] rfl rfl (any_of HT_.out (by kernel_rfl)) (fun _ _ _ h => h) (Or.inl ⟨by rfl, ?_⟩) ?_ ?_
                                          rotate_left
                                          · intro w'
                                            go_simp
                                            with_reducible rfl
                                          rotate_left
                                          · simp only [Act.put, List.setIfInBounds_toArray, List.set_cons_zero, List.set_cons_succ, i64_w, i32_w]
                                            rfl
                                          refine pure_ (i := 2) (N := some 81) (v := ?_) (a' := ?_) #[true, true, true, false, false, false, false, false, false, false, false, false, false, false, false, false, false, false] rfl rfl (any_of HT_.out (by kernel_rfl)) (fun _ _ _ h => h) (Or.inl ⟨by rfl, ?_⟩) ?_ ?_
                                          rotate_left
                                          · intro w'
                                            go_simp
                                            with_reducible rfl
                                          rotate_left
                                          · simp only [Act.put, List.setIfInBounds_toArray, List.set_cons_zero, List.set_cons_succ, i64_w, i32_w]
                                            rfl
                                          refine pure_ (i := 3) (N := some 82) (v := ?_) (a' := ?_) #[true, true, true, true, false, false, false, false, false, false, false, false, false, false, false, false, false, false] rfl rfl (any_of HT_.out (by kernel_rfl)) (fun _ _ _ h => h) (Or.inl ⟨by rfl, ?_⟩) ?_ ?_
                                          rotate_left
                                          · intro w'
                                            go_simp
                                            with_reducible rfl
                                          rotate_left
                                          · simp only [Act.put, List.setIfInBounds_toArray, List.set_cons_zero, List.set_cons_succ, i64_w, i32_w]
                                            rfl
                                          refine pure_ (i := 4) (N := some 83) (v := ?_) (a' := ?_) #[true, true, true, true, true, false, false, false, false, false, false, false, false, false, false, false, false, false] rfl rfl (any_of HT_.out (by kernel_rfl)) (fun _ _ _ h => h) (Or.inl ⟨by rfl, ?_⟩) ?_ ?_
                                          rotate_left
                                          · intro w'
                                            go_simp
                                            with_reducible rfl
                                          rotate_left
                                          · simp only [Act.put, List.setIfInBounds_toArray, List.set_cons_zero, List.set_cons_succ, i64_w, i32_w]
                                            rfl
                                          refine pure_ (i := 5) (N := some 84) (v := ?_) (a' := ?_) #[true, true, true, true, true, true, false, false, false, false, false, false, false, false, false, false, false, false] rfl rfl (any_of HT_.out (by kernel_rfl)) (fun _ _ _ h => h) (Or.inl ⟨by rfl, ?_⟩) ?_ ?_
                                          rotate_left
                                          · intro w'
                                            go_simp
                                            with_reducible rfl
                                          rotate_left
                                          · simp only [Act.put, List.setIfInBounds_toArray, List.set_cons_zero, List.set_cons_succ, i64_w, i32_w]
                                            rfl
                                          refine pure_ (i := 10) (N := some 89) (v := ?_) (a' := ?_) #[true, true, true, true, true, true, false, false, false, false, true, false, false, false, false, false, false, false] rfl rfl (any_of HT_.out (by kernel_rfl)) (fun _ _ _ h => h) (Or.inl ⟨by rfl, ?_⟩) ?_ ?_
                                          rotate_left
                                          · intro w'
                                            go_simp
                                            with_reducible rfl
                                          rotate_left
                                          · simp only [Act.put, List.setIfInBounds_toArray, List.set_cons_zero, List.set_cons_succ, i64_w, i32_w]
                                            rfl
                                          refine pure_ (i := 11) (N := some 90) (v := ?_) (a' := ?_) #[true, true, true, true, true, true, false, false, false, false, true, true, false, false, false, false, false, false] rfl rfl (any_of HT_.out (by kernel_rfl)) (fun _ _ _ h => h) (Or.inl ⟨by rfl, ?_⟩) ?_ ?_
                                          rotate_left
                                          · intro w'
                                            go_simp
                                            with_reducible rfl
                                          rotate_left
                                          · simp only [Act.put, List.setIfInBounds_toArray, List.set_cons_zero, List.set_cons_succ, i64_w, i32_w]
                                            rfl
                                          refine pure_ (i := 12) (N := some 91) (v := ?_) (a' := ?_) #[true, true, true, true, true, true, false, false, false, false, true, true, true, false, false, false, false, false] rfl rfl (any_of HT_.out (by kernel_rfl)) (fun _ _ _ h => h) (Or.inl ⟨by rfl, ?_⟩) ?_ ?_
                                          rotate_left
                                          · intro w'
                                            go_simp
                                            with_reducible rfl
                                          rotate_left
                                          · simp only [Act.put, List.setIfInBounds_toArray, List.set_cons_zero, List.set_cons_succ, i64_w, i32_w]
                                            rfl
                                          refine pure_ (i := 13) (N := some 92) (v := ?_) (a' := ?_) #[true, true, true, true, true, true, false, false, false, false, true, true, true, true, false, false, false, false] rfl rfl (any_of HT_.out (by kernel_rfl)) (fun _ _ _ h => h) (Or.inl ⟨by rfl, ?_⟩) ?_ ?_
                                          rotate_left
                                          · intro w'
                                            go_simp
                                            with_reducible rfl
                                          rotate_left
                                          · simp only [Act.put, List.setIfInBounds_toArray, List.set_cons_zero, List.set_cons_succ, i64_w, i32_w]
                                            rfl
                                          refine take_ (i := 6) (N := some 85) (v := ?_) (a' := ?_) #[true, true, true, true, true, true, true, false, false, false, true, true, true, true, false, false, false, false] rfl rfl (take_ofW HT_.out HW_.out (by kernel_rfl)) (fun _ _ _ h => h) (Or.inl ⟨by rfl, ?_⟩) hHeld ?_ ?_
                                          rotate_left
                                          · rintro w' ⟨s0, s1, s2⟩
                                            go_simp
                                            with_reducible rfl
                                          rotate_left
                                          · simp only [Act.put, List.setIfInBounds_toArray, List.set_cons_zero, List.set_cons_succ, i64_w, i32_w]
                                            rfl
                                          refine pure_ (i := 7) (N := some 86) (v := ?_) (a' := ?_) #[true, true, true, true, true, true, true, true, false, false, true, true, true, true, false, false, false, false] rfl rfl (any_of HT_.out (by kernel_rfl)) (fun _ _ _ h => h) (Or.inl ⟨by rfl, ?_⟩) ?_ ?_
                                          rotate_left
                                          · intro w'
                                            go_simp
                                            with_reducible rfl
                                          rotate_left
                                          · simp only [Act.put, List.setIfInBounds_toArray, List.set_cons_zero, List.set_cons_succ, i64_w, i32_w]
                                            rfl
                                          refine pure_ (i := 8) (N := some 87) (v := ?_) (a' := ?_) #[true, true, true, true, true, true, true, true, true, false, true, true, true, true, false, false, false, false] rfl rfl (any_of HT_.out (by kernel_rfl)) (fun _ _ _ h => h) (Or.inl ⟨by rfl, ?_⟩) ?_ ?_
                                          rotate_left
                                          · intro w'
                                            go_simp
                                            with_reducible rfl
                                          rotate_left
                                          · simp only [Act.put, List.setIfInBounds_toArray, List.set_cons_zero, List.set_cons_succ, i64_w, i32_w]
                                            rfl
                                          refine take_ (i := 9) (N := some 88) (v := ?_) (a' := ?_) #[true, true, true, true, true, true, true, true, true, true, true, true, true, true, false, false, false, false] rfl rfl (take_ofW HT_.out HW_.out (by kernel_rfl)) (fun _ _ _ h => h) (Or.inl ⟨by rfl, ?_⟩) hHeld ?_ ?_
                                          rotate_left
                                          · rintro w' ⟨s0, s1, s2⟩
                                            go_simp
                                            with_reducible rfl
                                          rotate_left
                                          · simp only [Act.put, List.setIfInBounds_toArray, List.set_cons_zero, List.set_cons_succ, i64_w, i32_w]
                                            rfl
                                          refine take_ (i := 14) (N := some 93) (v := ?_) (a' := ?_) #[true, true, true, true, true, true, true, true, true, true, true, true, true, true, true, false, false, false] rfl rfl (take_ofW HT_.out HW_.out (by kernel_rfl)) (fun _ _ _ h => h) (Or.inl ⟨by rfl, ?_⟩) hHeld ?_ ?_
                                          rotate_left
                                          · rintro w' ⟨s0, s1, s2⟩
                                            go_simp
                                            with_reducible rfl
                                          rotate_left
                                          · simp only [Act.put, List.setIfInBounds_toArray, List.set_cons_zero, List.set_cons_succ, i64_w, i32_w]
                                            rfl
                                          refine pure_ (i := 15) (N := some 94) (v := ?_) (a' := ?_) #[true, true, true, true, true, true, true, true, true, true, true, true, true, true, true, true, false, false] rfl rfl (any_of HT_.out (by kernel_rfl)) (fun _ _ _ h => h) (Or.inl ⟨by rfl, ?_⟩) ?_ ?_
                                          rotate_left
                                          · intro w'
                                            go_simp
                                            with_reducible rfl
                                          rotate_left
                                          · simp only [Act.put, List.setIfInBounds_toArray, List.set_cons_zero, List.set_cons_succ, i64_w, i32_w]
                                            rfl
                                          refine pure_ (i := 16) (N := some 95) (v := ?_) (a' := ?_) #[true, true, true, true, true, true, true, true, true, true, true, true, true, true, true, true, true, false] rfl rfl (any_of HT_.out (by kernel_rfl)) (fun _ _ _ h => h) (Or.inl ⟨by rfl, ?_⟩) ?_ ?_
                                          rotate_left
                                          · intro w'
                                            go_simp
                                            with_reducible rfl
                                          rotate_left
                                          · simp only [Act.put, List.setIfInBounds_toArray, List.set_cons_zero, List.set_cons_succ, i64_w, i32_w]
                                            rfl
                                          refine last_ (i := 17) (N := none) #[true, true, true, true, true, true, true, true, true, true, true, true, true, true, true, true, true, true] rfl rfl (one_of HT_.out (by kernel_rfl)) (by decide) (fun K hK => ?_)
                                          refine skip_ (w1 := ?_) (by rfl) rfl ?_ ?_
                                          rotate_left
                                          · go_simp
                                            rfl
                                          refine hK.out _ _ ?_
                                          clear hK K
                                          refine done_ (done_of HT_.out (by kernel_rfl)) ?_
                                          try go_wp2
                                          go_loopg [19, 20] k3 (fun kq v19 v20 w' => ∃ (x16_4 : List Int) (x17_4 : List (S56)) (x19_4 : Int) (x20_4 : Int), v19 = .int .i64 x19_4 ∧ v20 = .int .i64 x20_4 ∧ Aside0 (valiseref21_Cheapest.l1 kq l0 a1 l2 (l0.length : Int) t214 t215 x16_4 x17_4 x18_3 x19_4 x20_4 = some (r1, r2)) ∧ Aside0 (kq ≤ k3) ∧ Aside0 (Kd.R (Kd.int .i64) 3 w' w.heap.size (fun k_ => some k_ ≠ (v218 : Value).ownBlock ∧ some k_ ≠ ((.slice (some ⟨go37, 0, none⟩) x16_3.length co41) : Value).ownBlock) v216 t214) ∧ Aside0 (Kd.R (Kd.int .i64) 3 w' w.heap.size (fun k_ => some k_ ≠ (v216 : Value).ownBlock ∧ some k_ ≠ ((.slice (some ⟨go37, 0, none⟩) x16_3.length co41) : Value).ownBlock) v218 t215) ∧ Aside0 (Kd.R (Kd.int .i64) 3 w' w.heap.size (fun k_ => some k_ ≠ (v216 : Value).ownBlock ∧ some k_ ≠ (v218 : Value).ownBlock) (.slice (some ⟨go37, 0, none⟩) x16_3.length co41) x16_4) ∧ Aside0 (Kd.R k56 56 w' w.heap.size (fun _ => True) (.slice (some ⟨go29, 0, none⟩) x17_3.length co29) x17_4) ∧ Aside0 (Below w.heap.size w w'))
                                          case atStart => exact ⟨(y231), (y227), (1), (1), (by first | rfl | (simp; done) | (simp [*]; done)), (by first | rfl | (simp; done) | (simp [*]; done)), H', ⟨Nat.le_refl _⟩, ⟨by (with_reducible repeat (first | apply Kd.R_alloc | apply Kd.R_drewN | apply Kd.R_drew)); exact Kd.R_mono (Kd.R_far (p := ⟨go37, (x18_3 : Int).toNat, none⟩) (Kd.R_mono HO_14.out (fun k_ hk => (⟨hk, fun e_ => hk.2 (by rw [e_]; rfl)⟩ : _ ∧ k_ ≠ go37))) (fun _ hk => hk.2) (.int .i64 (wrap64 ((rd l2 (ji30)) + (rd x16_3 (ji33)))))) (fun _ hk => ⟨hk.1.1, hk.1.2⟩)⟩, ⟨by (with_reducible repeat (first | apply Kd.R_alloc | apply Kd.R_drewN | apply Kd.R_drew)); exact Kd.R_mono (Kd.R_far (p := ⟨go37, (x18_3 : Int).toNat, none⟩) (Kd.R_mono HO_15.out (fun k_ hk => (⟨hk, fun e_ => hk.2 (by rw [e_]; rfl)⟩ : _ ∧ k_ ≠ go37))) (fun _ hk => hk.2) (.int .i64 (wrap64 ((rd l2 (ji30)) + (rd x16_3 (ji33)))))) (fun _ hk => ⟨hk.1.1, hk.1.2⟩)⟩, ⟨by (with_reducible repeat (first | apply Kd.R_alloc | apply Kd.R_drewN | apply Kd.R_drew)); exact HQ42.out⟩, ⟨by (with_reducible repeat (first | apply Kd.R_alloc | apply Kd.R_drewN | apply Kd.R_drew)); exact Kd.R_mono (Kd.R_far (p := ⟨go37, (x18_3 : Int).toNat, none⟩) (Kd.R_types HO_17.out GG37.out (by decide)) (fun _ hk => hk.2) (.int .i64 (wrap64 ((rd l2 (ji30)) + (rd x16_3 (ji33)))))) (fun _ hk => trivial)⟩, ⟨by repeat (first | (with_reducible first | exact HB.out | apply below_alloc | apply pw_below_drewN | apply below_drew1 | refine below_set ?_ GB37.out) | exact HB.out)⟩⟩
                                          case round =>
                                            clear H'
                                            try clear c1
                                            try clear c2
                                            try clear p2
                                            try clear q2
                                            try clear hx2
                                            try clear c3
                                            try clear p3
                                            try clear q3
                                            try clear hx3
                                            try clear c4
                                            try clear c6
                                            try clear c6b0
                                            try clear c6b1
                                            try clear p6
                                            try clear c7
                                            try clear c7b0
                                            try clear c8
                                            try clear c12
                                            try clear c13
                                            try clear c17
                                            try clear c17b0
                                            try clear c17b1
                                            try clear c18
                                            try clear c18b0
                                            try clear c18b1
                                            try clear c19
                                            try clear c19b0
                                            try clear c19b1
                                            try clear p22
                                            try clear q22
                                            try clear hx22
                                            try clear p23
                                            try clear q23
                                            try clear hx23
                                            try clear c24
                                            try clear c25
                                            try clear c25b0
                                            try clear c26
                                            try clear c26b0
                                            try clear c27
                                            try clear c27b0
                                            try clear c28
                                            try clear c28b0
                                            try clear c29
                                            try clear p29
                                            try clear q29
                                            try clear hx29
                                            try clear hf29
                                            try clear c31
                                            try clear c31b0
                                            try clear c32
                                            try clear c32b0
                                            try clear c34
                                            try clear c34b0
                                            try clear c35
                                            try clear c35b0
                                            try clear c36
                                            try clear c36b0
                                            try clear p37
                                            try clear q37
                                            try clear hx37
                                            try clear hf37
                                            try clear c38
                                            try clear hx38
                                            try clear hf38
                                            try clear c40
                                            try clear hx226_0
                                            try clear hx228_0
                                            try clear hx229_0
                                            try clear hx230_0
                                            try clear hx29_0
                                            try clear hx29_1
                                            try clear hx29_2
                                            try clear hx37_0
                                            try clear hx38_0
                                            try clear hx38_1
                                            try clear hx38_2
                                            try clear p2
                                            try clear p226
                                            try clear p228
                                            try clear p229
                                            try clear p230
                                            try clear p29
                                            try clear p37
                                            try clear p6
                                            try clear q226
                                            try clear q228
                                            try clear q229
                                            try clear q230
                                            try clear q29
                                            try clear q37
                                            obtain ⟨x16_4, x17_4, x19_4, x20_4, rfl, rfl, HA, HK4, HO_14, HO_15, HO_16, HO_17, HB⟩ := hrel
                                            have hl16_4 := (Kd.R_reads' HO_16.out).1
                                            rw [hl16_4] at HO_16
                                            (try simp only [hl16_4])
                                            (try simp only [hl16_4] at HO_14)
                                            (try simp only [hl16_4] at HO_15)
                                            (try simp only [hl16_4] at HO_17)
                                            have hl17_4 := (Kd.R_reads' HO_17.out).1
                                            rw [hl17_4] at HO_17
                                            (try simp only [hl17_4])
                                            (try simp only [hl17_4] at HO_14)
                                            (try simp only [hl17_4] at HO_15)
                                            (try simp only [hl17_4] at HO_16)
                                            cases gk with
                                            | zero => exact absurd HA.out (by simp [valiseref21_Cheapest.l1])
                                            | succ k4 =>
                                              have H := HA.out
                                              clear HA
                                              simp only [valiseref21_Cheapest.l1] at H
                                              have HC43 := Aside0.mk H
                                              clear H
                                              go_upto_region 19 with (fail)
                                              go_cut [103] (fun v103 wc => ∃ (kq : Nat) (x103_42 : Bool), v103 = .bool x103_42 ∧ Aside0 (valiseref21_Cheapest.j4 kq l0 a1 l2 (l0.length : Int) t214 t215 x16_4 x17_4 x18_3 x19_4 x20_4 x103_42 = some (r1, r2)) ∧ Aside0 (kq ≤ k4) ∧ Aside0 (Kd.R (Kd.int .i64) 3 wc w.heap.size (fun k_ => some k_ ≠ (v218 : Value).ownBlock ∧ some k_ ≠ ((.slice (some ⟨go37, 0, none⟩) x16_4.length co41) : Value).ownBlock) v216 t214) ∧ Aside0 (Kd.R (Kd.int .i64) 3 wc w.heap.size (fun k_ => some k_ ≠ (v216 : Value).ownBlock ∧ some k_ ≠ ((.slice (some ⟨go37, 0, none⟩) x16_4.length co41) : Value).ownBlock) v218 t215) ∧ Aside0 (Kd.R (Kd.int .i64) 3 wc w.heap.size (fun k_ => some k_ ≠ (v216 : Value).ownBlock ∧ some k_ ≠ (v218 : Value).ownBlock) (.slice (some ⟨go37, 0, none⟩) x16_4.length co41) x16_4) ∧ Aside0 (Kd.R k56 56 wc w.heap.size (fun _ => True) (.slice (some ⟨go29, 0, none⟩) x17_4.length co29) x17_4) ∧ Aside0 (Below w.heap.size w wc))
                                              case first =>
                                                have H := HC43.out
                                                clear HC43
                                                by_cases c44 : x20_4 ≤ a1
                                                · rw [if_pos c44] at H
                                                  have c44b0 : decide (x20_4 ≤ a1) = true := decide_eq_true c44
                                                  clear c44
                                                  (first | rw [c44b0] | (simp only [i64_w, i32_w]; rw [c44b0]) | skip)
                                                  have H' := Aside0.mk H
                                                  clear H
                                                  go_wp2
                                                  go_meet
                                                  case rel => exact ⟨_, (decide (x20_4 ≤ x18_3)), (by first | rfl | (simp; done) | (simp [*]; done)), H', ⟨by have := HJ4.out; have := HJ10.out; have := HK3.out; have := HK4.out; first | omega | exact Nat.le_refl _⟩, ⟨by (try simp only [hl16_4]); (try simp only [hl17_4]); (with_reducible repeat (first | apply Kd.R_alloc | apply Kd.R_drewN | apply Kd.R_drew)); exact HO_14.out⟩, ⟨by (try simp only [hl16_4]); (try simp only [hl17_4]); (with_reducible repeat (first | apply Kd.R_alloc | apply Kd.R_drewN | apply Kd.R_drew)); exact HO_15.out⟩, ⟨by (try simp only [hl16_4]); (try simp only [hl17_4]); (with_reducible repeat (first | apply Kd.R_alloc | apply Kd.R_drewN | apply Kd.R_drew)); exact HO_16.out⟩, ⟨by (try simp only [hl16_4]); (try simp only [hl17_4]); (with_reducible repeat (first | apply Kd.R_alloc | apply Kd.R_drewN | apply Kd.R_drew)); exact HO_17.out⟩, ⟨by repeat (first | (with_reducible first | exact HB.out | apply below_alloc | apply pw_below_drewN | apply below_drew1) | exact HB.out)⟩⟩
                                                · rw [if_neg c44] at H
                                                  have c44b0 : decide (x20_4 ≤ a1) = false := decide_eq_false c44
                                                  clear c44
                                                  (first | rw [c44b0] | (simp only [i64_w, i32_w]; rw [c44b0]) | skip)
                                                  have H' := Aside0.mk H
                                                  clear H
                                                  go_wp2
                                                  go_meet
                                                  case rel => exact ⟨_, (false), (by first | rfl | (simp; done) | (simp [*]; done)), H', ⟨by have := HJ4.out; have := HJ10.out; have := HK3.out; have := HK4.out; first | omega | exact Nat.le_refl _⟩, ⟨by (try simp only [hl16_4]); (try simp only [hl17_4]); (with_reducible repeat (first | apply Kd.R_alloc | apply Kd.R_drewN | apply Kd.R_drew)); exact HO_14.out⟩, ⟨by (try simp only [hl16_4]); (try simp only [hl17_4]); (with_reducible repeat (first | apply Kd.R_alloc | apply Kd.R_drewN | apply Kd.R_drew)); exact HO_15.out⟩, ⟨by (try simp only [hl16_4]); (try simp only [hl17_4]); (with_reducible repeat (first | apply Kd.R_alloc | apply Kd.R_drewN | apply Kd.R_drew)); exact HO_16.out⟩, ⟨by (try simp only [hl16_4]); (try simp only [hl17_4]); (with_reducible repeat (first | apply Kd.R_alloc | apply Kd.R_drewN | apply Kd.R_drew)); exact HO_17.out⟩, ⟨by repeat (first | (with_reducible first | exact HB.out | apply below_alloc | apply pw_below_drewN | apply below_drew1) | exact HB.out)⟩⟩
                                              case rest =>
                                                clear HC43
                                                try clear c1
                                                try clear c2
                                                try clear p2
                                                try clear q2
                                                try clear hx2
                                                try clear c3
                                                try clear p3
                                                try clear q3
                                                try clear hx3
                                                try clear c4
                                                try clear c6
                                                try clear c6b0
                                                try clear c6b1
                                                try clear p6
                                                try clear c7
                                                try clear c7b0
                                                try clear c8
                                                try clear c12
                                                try clear c13
                                                try clear c17
                                                try clear c17b0
                                                try clear c17b1
                                                try clear c18
                                                try clear c18b0
                                                try clear c18b1
                                                try clear c19
                                                try clear c19b0
                                                try clear c19b1
                                                try clear p22
                                                try clear q22
                                                try clear hx22
                                                try clear p23
                                                try clear q23
                                                try clear hx23
                                                try clear c24
                                                try clear c25
                                                try clear c25b0
                                                try clear c26
                                                try clear c26b0
                                                try clear c27
                                                try clear c27b0
                                                try clear c28
                                                try clear c28b0
                                                try clear c29
                                                try clear p29
                                                try clear q29
                                                try clear hx29
                                                try clear hf29
                                                try clear c31
                                                try clear c31b0
                                                try clear c32
                                                try clear c32b0
                                                try clear c34
                                                try clear c34b0
                                                try clear c35
                                                try clear c35b0
                                                try clear c36
                                                try clear c36b0
                                                try clear p37
                                                try clear q37
                                                try clear hx37
                                                try clear hf37
                                                try clear c38
                                                try clear hx38
                                                try clear hf38
                                                try clear c40
                                                try clear c44
                                                try clear c44b0
                                                try clear hx226_0
                                                try clear hx228_0
                                                try clear hx229_0
                                                try clear hx230_0
                                                try clear hx29_0
                                                try clear hx29_1
                                                try clear hx29_2
                                                try clear hx37_0
                                                try clear hx38_0
                                                try clear hx38_1
                                                try clear hx38_2
                                                try clear p2
                                                try clear p22
                                                try clear p226
                                                try clear p228
                                                try clear p229
                                                try clear p23
                                                try clear p230
                                                try clear p29
                                                try clear p3
                                                try clear p37
                                                try clear p6
                                                try clear q2
                                                try clear q22
                                                try clear q226
                                                try clear q228
                                                try clear q229
                                                try clear q23
                                                try clear q230
                                                try clear q29
                                                try clear q3
                                                try clear q37
                                                obtain ⟨kq, x103_42, rfl, HA, HJ42, HO_14, HO_15, HO_16, HO_17, HB⟩ := hcut
                                                cases kq with
                                                | zero => exact absurd HA.out (by simp [valiseref21_Cheapest.j4])
                                                | succ kj42 =>
                                                  have H := HA.out
                                                  clear HA
                                                  simp only [valiseref21_Cheapest.j4] at H
                                                  by_cases c45 : x103_42 = true
                                                  · subst c45
                                                    have H1 : ((valiseref21_run.f l0 x18_3 x20_4).bind fun t232 => (valiseref21_Cheapest.l2 kj42 l0 a1 l2 (l0.length : Int) t214 t215 x16_4 x17_4 x18_3 x19_4 x20_4 t232 3)) = some (r1, r2) := by rw [if_pos rfl] at H; exact H
                                                    clear H
                                                    have H := H1
                                                    clear H1
                                                    replace H := Option.bind_eq_some_iff.mp H
                                                    obtain ⟨t232, A460, H⟩ := H
                                                    replace H : (valiseref21_Cheapest.l2 kj42 l0 a1 l2 (l0.length : Int) t214 t215 x16_4 x17_4 x18_3 x19_4 x20_4 t232 3) = some (r1, r2) := H
                                                    have A46 := Aside0.mk A460
                                                    clear A460
                                                    have H' := Aside0.mk H
                                                    clear H
                                                    go_wp2_with (first | ((with_reducible refine gate_callee (f := 41) rfl ?_); refine goesL_ (some 109) rfl rfl Tryd.func41 (by kernel_rfl) rfl #[.slice (some ad226) l0.length c0, .int .i64 x18_3, .int .i64 x20_4] rfl (by (try simp only [List.map_toArray, List.map_cons, List.map_nil]); first | done | rfl | (simp only [List.length_drop, List.length_take]; rfl)) ?_; (with_reducible refine (valiseref21_run.calls _ _ l0 x18_3 x20_4 t232 _ ?side1 ?side2 A46.out).mono ?_); (case side1 => repeat (first | exact (Kd.C_below HR0.out HB.out) | (with_reducible refine Kd.C_alloc ?_ _) | (with_reducible refine Kd.C_drewN ?_ _) | (with_reducible refine Kd.C_drew ?_))); (case side2 => exact HC0.out); rintro e w' ⟨rfl, ⟨nd, rfl⟩⟩; refine ⟨_, rfl, ?_⟩))
                                                    go_loopg [19, 22] kj42 (fun kq v19 v22 w' => ∃ (x16_6 : List Int) (x17_6 : List (S56)) (x19_6 : Int) (x22_6 : Int), v19 = .int .i64 x19_6 ∧ v22 = .int .i64 x22_6 ∧ Aside0 (valiseref21_Cheapest.l2 kq l0 a1 l2 (l0.length : Int) t214 t215 x16_6 x17_6 x18_3 x19_6 x20_4 t232 x22_6 = some (r1, r2)) ∧ Aside0 (kq ≤ kj42) ∧ Aside0 (Kd.R (Kd.int .i64) 3 w' w.heap.size (fun k_ => some k_ ≠ (v218 : Value).ownBlock ∧ some k_ ≠ ((.slice (some ⟨go37, 0, none⟩) x16_4.length co41) : Value).ownBlock) v216 t214) ∧ Aside0 (Kd.R (Kd.int .i64) 3 w' w.heap.size (fun k_ => some k_ ≠ (v216 : Value).ownBlock ∧ some k_ ≠ ((.slice (some ⟨go37, 0, none⟩) x16_4.length co41) : Value).ownBlock) v218 t215) ∧ Aside0 (Kd.R (Kd.int .i64) 3 w' w.heap.size (fun k_ => some k_ ≠ (v216 : Value).ownBlock ∧ some k_ ≠ (v218 : Value).ownBlock) (.slice (some ⟨go37, 0, none⟩) x16_4.length co41) x16_6) ∧ Aside0 (Kd.R k56 56 w' w.heap.size (fun _ => True) (.slice (some ⟨go29, 0, none⟩) x17_4.length co29) x17_6) ∧ Aside0 (Below w.heap.size w w'))
                                                    case atStart => exact ⟨(x16_4), (x17_4), (x19_4), (3), (by first | rfl | (simp; done) | (simp [*]; done)), (by first | rfl | (simp; done) | (simp [*]; done)), H', ⟨Nat.le_refl _⟩, ⟨by (try simp only [hl16_4]); (try simp only [hl17_4]); (with_reducible repeat (first | apply Kd.R_alloc | apply Kd.R_drewN | apply Kd.R_drew)); exact HO_14.out⟩, ⟨by (try simp only [hl16_4]); (try simp only [hl17_4]); (with_reducible repeat (first | apply Kd.R_alloc | apply Kd.R_drewN | apply Kd.R_drew)); exact HO_15.out⟩, ⟨by (try simp only [hl16_4]); (try simp only [hl17_4]); (with_reducible repeat (first | apply Kd.R_alloc | apply Kd.R_drewN | apply Kd.R_drew)); exact HO_16.out⟩, ⟨by (try simp only [hl16_4]); (try simp only [hl17_4]); (with_reducible repeat (first | apply Kd.R_alloc | apply Kd.R_drewN | apply Kd.R_drew)); exact HO_17.out⟩, ⟨by repeat (first | (with_reducible first | exact HB.out | apply below_alloc | apply pw_below_drewN | apply below_drew1) | exact HB.out)⟩⟩
                                                    case round =>
                                                      clear H'
                                                      try clear c1
                                                      try clear c2
                                                      try clear p2
                                                      try clear q2
                                                      try clear hx2
                                                      try clear c3
                                                      try clear p3
                                                      try clear q3
                                                      try clear hx3
                                                      try clear c4
                                                      try clear c6
                                                      try clear c6b0
                                                      try clear c6b1
                                                      try clear p6
                                                      try clear c7
                                                      try clear c7b0
                                                      try clear c8
                                                      try clear c12
                                                      try clear c13
                                                      try clear c17
                                                      try clear c17b0
                                                      try clear c17b1
                                                      try clear c18
                                                      try clear c18b0
                                                      try clear c18b1
                                                      try clear c19
                                                      try clear c19b0
                                                      try clear c19b1
                                                      try clear p22
                                                      try clear q22
                                                      try clear hx22
                                                      try clear p23
                                                      try clear q23
                                                      try clear hx23
                                                      try clear c24
                                                      try clear c25
                                                      try clear c25b0
                                                      try clear c26
                                                      try clear c26b0
                                                      try clear c27
                                                      try clear c27b0
                                                      try clear c28
                                                      try clear c28b0
                                                      try clear c29
                                                      try clear p29
                                                      try clear q29
                                                      try clear hx29
                                                      try clear hf29
                                                      try clear c31
                                                      try clear c31b0
                                                      try clear c32
                                                      try clear c32b0
                                                      try clear c34
                                                      try clear c34b0
                                                      try clear c35
                                                      try clear c35b0
                                                      try clear c36
                                                      try clear c36b0
                                                      try clear p37
                                                      try clear q37
                                                      try clear hx37
                                                      try clear hf37
                                                      try clear c38
                                                      try clear hx38
                                                      try clear hf38
                                                      try clear c40
                                                      try clear c41
                                                      try clear c44
                                                      try clear c44b0
                                                      try clear c45
                                                      try clear hx226_0
                                                      try clear hx228_0
                                                      try clear hx229_0
                                                      try clear hx230_0
                                                      try clear hx29_0
                                                      try clear hx29_1
                                                      try clear hx29_2
                                                      try clear hx37_0
                                                      try clear hx38_0
                                                      try clear hx38_1
                                                      try clear hx38_2
                                                      try clear p2
                                                      try clear p22
                                                      try clear p226
                                                      try clear p228
                                                      try clear p229
                                                      try clear p23
                                                      try clear p230
                                                      try clear p29
                                                      try clear p3
                                                      try clear p37
                                                      try clear p6
                                                      try clear q2
                                                      try clear q22
                                                      try clear q226
                                                      try clear q228
                                                      try clear q229
                                                      try clear q23
                                                      try clear q230
                                                      try clear q29
                                                      try clear q3
                                                      try clear q37
                                                      obtain ⟨x16_6, x17_6, x19_6, x22_6, rfl, rfl, HA, HK6, HO_14, HO_15, HO_16, HO_17, HB⟩ := hrel
                                                      have hl16_6 := (Kd.R_reads' HO_16.out).1
                                                      rw [hl16_6] at HO_16
                                                      (try simp only [hl16_6])
                                                      (try simp only [hl16_6] at HO_14)
                                                      (try simp only [hl16_6] at HO_15)
                                                      (try simp only [hl16_6] at HO_17)
                                                      have hl17_6 := (Kd.R_reads' HO_17.out).1
                                                      rw [hl17_6] at HO_17
                                                      (try simp only [hl17_6])
                                                      (try simp only [hl17_6] at HO_14)
                                                      (try simp only [hl17_6] at HO_15)
                                                      (try simp only [hl17_6] at HO_16)
                                                      cases gk with
                                                      | zero => exact absurd HA.out (by simp [valiseref21_Cheapest.l2])
                                                      | succ k6 =>
                                                        have H := HA.out
                                                        clear HA
                                                        simp only [valiseref21_Cheapest.l2] at H
                                                        by_cases c47 : x22_6 ≤ t232
                                                        · rw [if_pos c47] at H
                                                          have c47b0 : decide (x22_6 ≤ t232) = true := decide_eq_true c47
                                                          clear c47
                                                          by_cases c48 : 0 ≤ x22_6
                                                          · rw [if_pos c48] at H
                                                            have c48b0 : decide (0 ≤ x22_6) = true := decide_eq_true c48
                                                            clear c48
                                                            by_cases c49 : x22_6 < (t214.length : Int)
                                                            · rw [if_pos c49] at H
                                                              have c49b0 : decide (x22_6 < (t214.length : Int)) = true := decide_eq_true c49
                                                              clear c49
                                                              by_cases c50 : 0 ≤ x20_4
                                                              · rw [if_pos c50] at H
                                                                have c50b0 : decide (0 ≤ x20_4) = true := decide_eq_true c50
                                                                clear c50
                                                                by_cases c51 : x20_4 < (t215.length : Int)
                                                                · rw [if_pos c51] at H
                                                                  have c51b0 : decide (x20_4 < (t215.length : Int)) = true := decide_eq_true c51
                                                                  clear c51
                                                                  obtain ⟨ji52, hji52⟩ : ∃ j_ : Int, (wrap64 (x18_3 + x22_6)) = j_ := ⟨_, rfl⟩
                                                                  replace H : (if 0 ≤ (ji52) then (if (ji52) < (x16_6.length : Int) then (if 0 ≤ x18_3 then (if x18_3 < (x16_6.length : Int) then (if (wrap64 ((wrap64 ((rd t214 x22_6) + (rd t215 x20_4))) + (rd x16_6 (ji52)))) < (rd x16_6 x18_3) then (if x18_3 < (x17_6.length : Int) then (valiseref21_Cheapest.l2 k6 l0 a1 l2 (l0.length : Int) t214 t215 (x16_6.set (x18_3 : Int).toNat (wrap64 ((wrap64 ((rd t214 x22_6) + (rd t215 x20_4))) + (rd x16_6 (ji52))))) (x17_6.set (x18_3 : Int).toNat (⟨x22_6, x20_4, 0⟩ : S56)) x18_3 x22_6 x20_4 t232 (wrap64 (x22_6 + 1))) else (none)) else (if (wrap64 ((wrap64 ((rd t214 x22_6) + (rd t215 x20_4))) + (rd x16_6 (ji52)))) = (rd x16_6 x18_3) then (if x22_6 > x19_6 then (if x18_3 < (x17_6.length : Int) then (valiseref21_Cheapest.l2 k6 l0 a1 l2 (l0.length : Int) t214 t215 (x16_6.set (x18_3 : Int).toNat (wrap64 ((wrap64 ((rd t214 x22_6) + (rd t215 x20_4))) + (rd x16_6 (ji52))))) (x17_6.set (x18_3 : Int).toNat (⟨x22_6, x20_4, 0⟩ : S56)) x18_3 x22_6 x20_4 t232 (wrap64 (x22_6 + 1))) else (none)) else (valiseref21_Cheapest.l2 k6 l0 a1 l2 (l0.length : Int) t214 t215 x16_6 x17_6 x18_3 x19_6 x20_4 t232 (wrap64 (x22_6 + 1)))) else (valiseref21_Cheapest.l2 k6 l0 a1 l2 (l0.length : Int) t214 t215 x16_6 x17_6 x18_3 x19_6 x20_4 t232 (wrap64 (x22_6 + 1))))) else (none)) else (none)) else (none)) else (none)) = some (r1, r2) := by first | (rw [hji52] at H; exact H) | (simp only [hji52] at H ⊢; exact H)
                                                                  have hji52w : (IntKind.i64.wrap (x18_3 + x22_6)) = ji52 := (i64_w _).trans hji52
                                                                  by_cases c53 : 0 ≤ (ji52)
                                                                  · rw [if_pos c53] at H
                                                                    have c53b0 : decide (0 ≤ (ji52)) = true := decide_eq_true c53
                                                                    clear c53
                                                                    by_cases c54 : (ji52) < (x16_6.length : Int)
                                                                    · rw [if_pos c54] at H
                                                                      have c54b0 : decide ((ji52) < (x16_6.length : Int)) = true := decide_eq_true c54
                                                                      clear c54
                                                                      by_cases c55 : 0 ≤ x18_3
                                                                      · rw [if_pos c55] at H
                                                                        have c55b0 : decide (0 ≤ x18_3) = true := decide_eq_true c55
                                                                        clear c55
                                                                        by_cases c56 : x18_3 < (x16_6.length : Int)
                                                                        · rw [if_pos c56] at H
                                                                          have c56b0 : decide (x18_3 < (x16_6.length : Int)) = true := decide_eq_true c56
                                                                          clear c56
                                                                          by_cases c57 : (wrap64 ((wrap64 ((rd t214 x22_6) + (rd t215 x20_4))) + (rd x16_6 (ji52)))) < (rd x16_6 x18_3)
                                                                          · rw [if_pos c57] at H
                                                                            have c57b0 : decide ((wrap64 ((wrap64 ((rd t214 x22_6) + (rd t215 x20_4))) + (rd x16_6 (ji52)))) < (rd x16_6 x18_3)) = true := decide_eq_true c57
                                                                            clear c57
                                                                            obtain ⟨y237, hy237⟩ : ∃ y_ : List Int, y_ = (x16_6.set (x18_3 : Int).toNat (wrap64 ((wrap64 ((rd t214 x22_6) + (rd t215 x20_4))) + (rd x16_6 (ji52))))) := ⟨_, rfl⟩
                                                                            replace H : (if x18_3 < (x17_6.length : Int) then (valiseref21_Cheapest.l2 k6 l0 a1 l2 (l0.length : Int) t214 t215 y237 (x17_6.set (x18_3 : Int).toNat (⟨x22_6, x20_4, 0⟩ : S56)) x18_3 x22_6 x20_4 t232 (wrap64 (x22_6 + 1))) else (none)) = some (r1, r2) := by first | (rw [hy237]; with_reducible exact H) | (have H2_ := (Option.bind_some _ _).symm.trans H; rw [hy237]; with_reducible exact H2_) | (have H2_ := (Option.bind_some _ _).symm.trans H; with_reducible exact H2_) | with_reducible exact H | (rw [hy237]; exact H) | exact H
                                                                            have Ny237 := Aside0.mk hy237
                                                                            clear hy237
                                                                            by_cases c59 : x18_3 < (x17_6.length : Int)
                                                                            · rw [if_pos c59] at H
                                                                              have c59b0 : decide (x18_3 < (x17_6.length : Int)) = true := decide_eq_true c59
                                                                              clear c59
                                                                              obtain ⟨y238, hy238⟩ : ∃ y_ : List (S56), y_ = (x17_6.set (x18_3 : Int).toNat (⟨x22_6, x20_4, 0⟩ : S56)) := ⟨_, rfl⟩
                                                                              replace H : (valiseref21_Cheapest.l2 k6 l0 a1 l2 (l0.length : Int) t214 t215 y237 y238 x18_3 x22_6 x20_4 t232 (wrap64 (x22_6 + 1))) = some (r1, r2) := by first | (rw [hy238]; with_reducible exact H) | (have H2_ := (Option.bind_some _ _).symm.trans H; rw [hy238]; with_reducible exact H2_) | (have H2_ := (Option.bind_some _ _).symm.trans H; with_reducible exact H2_) | with_reducible exact H | (rw [hy238]; exact H) | exact H
                                                                              have Ny238 := Aside0.mk hy238
                                                                              clear hy238
                                                                              have H' := Aside0.mk H
                                                                              clear H
                                                                              try go_wp2
                                                                              have n0_ := Aside0.mk (Kd.R_drew HO_14.out)
                                                                              have n1_ := Aside0.mk (Kd.R_drew HO_15.out)
                                                                              have n2_ := Aside0.mk (Kd.R_drew HO_16.out)
                                                                              have n3_ := Aside0.mk (Kd.R_drew HO_17.out)
                                                                              have n4_ := Aside0.mk (below_drew1 HB.out)
                                                                              clear HO_14
                                                                              clear HO_15
                                                                              clear HO_16
                                                                              clear HO_17
                                                                              clear HB
                                                                              have HO_14 := n0_
                                                                              have HO_15 := n1_
                                                                              have HO_16 := n2_
                                                                              have HO_17 := n3_
                                                                              have HB := n4_
                                                                              clear n0_ n1_ n2_ n3_ n4_
                                                                              obtain ⟨Ao62, co62, eo62⟩ := Kd.R_slice HO_14.out
                                                                              (first | subst eo62 | (injection eo62 with f1_ f2_ f3_; have f4_ := f1_.symm; have f5_ := f3_.symm; clear f1_ f2_ f3_; subst f4_; subst f5_))
                                                                              have p233 : 0 ≤ (x22_6 : Int) := of_decide_eq_true (by first | (with_reducible assumption) | assumption)
                                                                              have q233 : x22_6 < (t214.length : Int) := of_decide_eq_true (by first | (with_reducible assumption) | assumption)
                                                                              obtain ⟨ad233, e233, hx233_0⟩ := Kd.at_int (Kd.R_reads' HO_14.out).2.2 x22_6 p233 q233
                                                                              cases e233
                                                                              replace p233 := eq_true p233
                                                                              replace q233 := eq_true q233
                                                                              obtain ⟨Ao63, co63, eo63⟩ := Kd.R_slice HO_15.out
                                                                              (first | subst eo63 | (injection eo63 with f1_ f2_ f3_; have f4_ := f1_.symm; have f5_ := f3_.symm; clear f1_ f2_ f3_; subst f4_; subst f5_))
                                                                              have p234 : 0 ≤ (x20_4 : Int) := of_decide_eq_true (by first | (with_reducible assumption) | assumption)
                                                                              have q234 : x20_4 < (t215.length : Int) := of_decide_eq_true (by first | (with_reducible assumption) | assumption)
                                                                              obtain ⟨ad234, e234, hx234_0⟩ := Kd.at_int (Kd.R_reads' HO_15.out).2.2 x20_4 p234 q234
                                                                              cases e234
                                                                              replace p234 := eq_true p234
                                                                              replace q234 := eq_true q234
                                                                              have p235 : 0 ≤ ((ji52) : Int) := of_decide_eq_true (by first | (with_reducible assumption) | assumption)
                                                                              have q235 : (ji52) < (x16_6.length : Int) := of_decide_eq_true (by first | (with_reducible assumption) | assumption)
                                                                              obtain ⟨ad235, e235, hx235_0⟩ := Kd.at_int (Kd.R_reads' HO_16.out).2.2 (ji52) p235 q235
                                                                              obtain rfl : (⟨go37, 0, none⟩ : Addr) = ad235 := (by injection e235)
                                                                              (first | simp only [add_plain] at hx235_0 | simp only [add_at] at hx235_0 | simp only [Addr.add, Nat.zero_add] at hx235_0 | skip)
                                                                              replace p235 := eq_true p235
                                                                              replace q235 := eq_true q235
                                                                              refine start_ (n := 17) (S := fun w' => w'.cell? (ad233.add (x22_6).toNat) = some (.int .i64 (rd t214 x22_6)) ∧ w'.cell? (ad234.add (x20_4).toNat) = some (.int .i64 (rd t215 x20_4)) ∧ w'.cell? ⟨go37, ((ji52)).toNat, none⟩ = some (.int .i64 (rd x16_6 (ji52)))) (ds := []) #[false, false, false, false, false, false, false, false, false, false, false, false, false, false, false, false, false] (by kernel_rfl) rfl rfl ⟨hx233_0, hx234_0, hx235_0⟩ (fun hHeld => ?_); refine with_tabW valiseref21_Cheapest.tab25 valiseref21_Cheapest.bits25 (fun HT_ HW_ => ?_)
                                                                              generalize wr.drew = w61 at HO_14 HO_15 HO_16 HO_17 HB hx233_0 hx234_0 hx235_0 hHeld ⊢
                                                                              refine pure_ (i := 0) (N := some 115) (v := ?_) (a' := ?_) #[true, false, false, false, false, false, false, false, false, false, false, false, false, false, false, false, false] rfl rfl (any_of HT_.out (by kernel_rfl)) (fun _ _ _ h => h) (Or.inl ⟨by rfl, ?_⟩) ?_ ?_
                                                                              rotate_left
                                                                              · intro w'
                                                                                go_simp
                                                                                with_reducible rfl
                                                                              rotate_left
                                                                              · simp only [Act.put, List.setIfInBounds_toArray, List.set_cons_zero, List.set_cons_succ, i64_w, i32_w]
                                                                                rfl
                                                                              refine pure_ (i := 1) (N := some 116) (v := ?_) (a' := ?_) #[true, true, false, false, false, false, false, false, false, false, false, false, false, false, false, false, false] rfl rfl (any_of HT_.out (by kernel_rfl)) (fun _ _ _ h => h) (Or.inl ⟨by rfl, ?_⟩) ?_ ?_
                                                                              rotate_left
                                                                              · intro w'
                                                                                go_simp
                                                                                with_reducible rfl
                                                                              rotate_left
                                                                              · simp only [Act.put, List.setIfInBounds_toArray, List.set_cons_zero, List.set_cons_succ, i64_w, i32_w]
                                                                                rfl
                                                                              refine pure_ (i := 2) (N := some 117) (v := ?_) (a' := ?_) #[true, true, true, false, false, false, false, false, false, false, false, false, false, false, false, false, false] rfl rfl (any_of HT_.out (by kernel_rfl)) (fun _ _ _ h => h) (Or.inl ⟨by rfl, ?_⟩) ?_ ?_
                                                                              rotate_left
                                                                              · intro w'
                                                                                go_simp
                                                                                with_reducible rfl
                                                                              rotate_left
                                                                              · simp only [Act.put, List.setIfInBounds_toArray, List.set_cons_zero, List.set_cons_succ, i64_w, i32_w]
                                                                                rfl
                                                                              refine pure_ (i := 4) (N := some 119) (v := ?_) (a' := ?_) #[true, true, true, false, true, false, false, false, false, false, false, false, false, false, false, false, false] rfl rfl (any_of HT_.out (by kernel_rfl)) (fun _ _ _ h => h) (Or.inl ⟨by rfl, ?_⟩) ?_ ?_
                                                                              rotate_left
                                                                              · intro w'
                                                                                go_simp
                                                                                with_reducible rfl
                                                                              rotate_left
                                                                              · simp only [Act.put, List.setIfInBounds_toArray, List.set_cons_zero, List.set_cons_succ, i64_w, i32_w]
                                                                                rfl
                                                                              refine pure_ (i := 5) (N := some 120) (v := ?_) (a' := ?_) #[true, true, true, false, true, true, false, false, false, false, false, false, false, false, false, false, false] rfl rfl (any_of HT_.out (by kernel_rfl)) (fun _ _ _ h => h) (Or.inl ⟨by rfl, ?_⟩) ?_ ?_
                                                                              rotate_left
                                                                              · intro w'
                                                                                go_simp
                                                                                with_reducible rfl
                                                                              rotate_left
                                                                              · simp only [Act.put, List.setIfInBounds_toArray, List.set_cons_zero, List.set_cons_succ, i64_w, i32_w]
                                                                                rfl
                                                                              refine pure_ (i := 6) (N := some 121) (v := ?_) (a' := ?_) #[true, true, true, false, true, true, true, false, false, false, false, false, false, false, false, false, false] rfl rfl (any_of HT_.out (by kernel_rfl)) (fun _ _ _ h => h) (Or.inl ⟨by rfl, ?_⟩) ?_ ?_
                                                                              rotate_left
                                                                              · intro w'
                                                                                go_simp
                                                                                with_reducible rfl
                                                                              rotate_left
                                                                              · simp only [Act.put, List.setIfInBounds_toArray, List.set_cons_zero, List.set_cons_succ, i64_w, i32_w]
                                                                                rfl
                                                                              refine pure_ (i := 9) (N := some 124) (v := ?_) (a' := ?_) #[true, true, true, false, true, true, true, false, false, true, false, false, false, false, false, false, false] rfl rfl (any_of HT_.out (by kernel_rfl)) (fun _ _ _ h => h) (Or.inl ⟨by rfl, ?_⟩) ?_ ?_
                                                                              rotate_left
                                                                              · intro w'
                                                                                go_simp
                                                                                with_reducible rfl
                                                                              rotate_left
                                                                              · simp only [Act.put, List.setIfInBounds_toArray, List.set_cons_zero, List.set_cons_succ, i64_w, i32_w]
                                                                                rfl
                                                                              refine pure_ (i := 10) (N := some 125) (v := ?_) (a' := ?_) #[true, true, true, false, true, true, true, false, false, true, true, false, false, false, false, false, false] rfl rfl (any_of HT_.out (by kernel_rfl)) (fun _ _ _ h => h) (Or.inl ⟨by rfl, ?_⟩) ?_ ?_
                                                                              rotate_left
                                                                              · intro w'
                                                                                go_simp
                                                                                with_reducible rfl
                                                                              rotate_left
                                                                              · simp only [Act.put, List.setIfInBounds_toArray, List.set_cons_zero, List.set_cons_succ, i64_w, i32_w]
                                                                                rfl
                                                                              refine pure_ (i := 11) (N := some 126) (v := ?_) (a' := ?_) #[true, true, true, false, true, true, true, false, false, true, true, true, false, false, false, false, false] rfl rfl (any_of HT_.out (by kernel_rfl)) (fun _ _ _ h => h) (Or.inl ⟨by rfl, ?_⟩) ?_ ?_
                                                                              rotate_left
                                                                              · intro w'
                                                                                go_simp
                                                                                with_reducible rfl
                                                                              rotate_left
                                                                              · simp only [Act.put, List.setIfInBounds_toArray, List.set_cons_zero, List.set_cons_succ, i64_w, i32_w]
                                                                                rfl
                                                                              refine pure_ (i := 12) (N := some 127) (v := ?_) (a' := ?_) #[true, true, true, false, true, true, true, false, false, true, true, true, true, false, false, false, false] rfl rfl (any_of HT_.out (by kernel_rfl)) (fun _ _ _ h => h) (Or.inl ⟨by rfl, ?_⟩) ?_ ?_
                                                                              rotate_left
                                                                              · intro w'
                                                                                go_simp
                                                                                with_reducible rfl
                                                                              rotate_left
                                                                              · simp only [Act.put, List.setIfInBounds_toArray, List.set_cons_zero, List.set_cons_succ, i64_w, i32_w]
                                                                                rfl
                                                                              refine pure_ (i := 13) (N := some 128) (v := ?_) (a' := ?_) #[true, true, true, false, true, true, true, false, false, true, true, true, true, true, false, false, false] rfl rfl (any_of HT_.out (by kernel_rfl)) (fun _ _ _ h => h) (Or.inl ⟨by rfl, ?_⟩) ?_ ?_
                                                                              rotate_left
                                                                              · intro w'
                                                                                go_simp
                                                                                with_reducible rfl
                                                                              rotate_left
                                                                              · simp only [Act.put, List.setIfInBounds_toArray, List.set_cons_zero, List.set_cons_succ, i64_w, i32_w]
                                                                                rfl
                                                                              refine take_ (i := 3) (N := some 118) (v := ?_) (a' := ?_) #[true, true, true, true, true, true, true, false, false, true, true, true, true, true, false, false, false] rfl rfl (take_ofW HT_.out HW_.out (by kernel_rfl)) (fun _ _ _ h => h) (Or.inl ⟨by rfl, ?_⟩) hHeld ?_ ?_
                                                                              rotate_left
                                                                              · rintro w' ⟨s0, s1, s2⟩
                                                                                go_simp
                                                                                with_reducible rfl
                                                                              rotate_left
                                                                              · simp only [Act.put, List.setIfInBounds_toArray, List.set_cons_zero, List.set_cons_succ, i64_w, i32_w]
                                                                                rfl
                                                                              refine take_ (i := 7) (N := some 122) (v := ?_) (a' := ?_) #[true, true, true, true, true, true, true, true, false, true, true, true, true, true, false, false, false] rfl rfl (take_ofW HT_.out HW_.out (by kernel_rfl)) (fun _ _ _ h => h) (Or.inl ⟨by rfl, ?_⟩) hHeld ?_ ?_
                                                                              rotate_left
                                                                              · rintro w' ⟨s0, s1, s2⟩
                                                                                go_simp
                                                                                with_reducible rfl
                                                                              rotate_left
                                                                              · simp only [Act.put, List.setIfInBounds_toArray, List.set_cons_zero, List.set_cons_succ, i64_w, i32_w]
                                                                                rfl
                                                                              refine pure_ (i := 8) (N := some 123) (v := ?_) (a' := ?_) #[true, true, true, true, true, true, true, true, true, true, true, true, true, true, false, false, false] rfl rfl (any_of HT_.out (by kernel_rfl)) (fun _ _ _ h => h) (Or.inl ⟨by rfl, ?_⟩) ?_ ?_
                                                                              rotate_left
                                                                              · intro w'
                                                                                go_simp
                                                                                with_reducible rfl
                                                                              rotate_left
                                                                              · simp only [Act.put, List.setIfInBounds_toArray, List.set_cons_zero, List.set_cons_succ, i64_w, i32_w]
                                                                                rfl
                                                                              refine take_ (i := 14) (N := some 129) (v := ?_) (a' := ?_) #[true, true, true, true, true, true, true, true, true, true, true, true, true, true, true, false, false] rfl rfl (take_ofW HT_.out HW_.out (by kernel_rfl)) (fun _ _ _ h => h) (Or.inl ⟨by rfl, ?_⟩) hHeld ?_ ?_
                                                                              rotate_left
                                                                              · rintro w' ⟨s0, s1, s2⟩
                                                                                go_simp
                                                                                with_reducible rfl
                                                                              rotate_left
                                                                              · simp only [Act.put, List.setIfInBounds_toArray, List.set_cons_zero, List.set_cons_succ, i64_w, i32_w]
                                                                                rfl
                                                                              refine pure_ (i := 15) (N := some 130) (v := ?_) (a' := ?_) #[true, true, true, true, true, true, true, true, true, true, true, true, true, true, true, true, false] rfl rfl (any_of HT_.out (by kernel_rfl)) (fun _ _ _ h => h) (Or.inl ⟨by rfl, ?_⟩) ?_ ?_
                                                                              rotate_left
                                                                              · intro w'
                                                                                go_simp
                                                                                with_reducible rfl
                                                                              rotate_left
                                                                              · simp only [Act.put, List.setIfInBounds_toArray, List.set_cons_zero, List.set_cons_succ, i64_w, i32_w]
                                                                                rfl
                                                                              refine pure_ (i := 16) (N := some 23) (v := ?_) (a' := ?_) #[true, true, true, true, true, true, true, true, true, true, true, true, true, true, true, true, true] rfl rfl (any_of HT_.out (by kernel_rfl)) (fun _ _ _ h => h) (Or.inl ⟨by rfl, ?_⟩) ?_ ?_
                                                                              rotate_left
                                                                              · intro w'
                                                                                go_simp
                                                                                with_reducible rfl
                                                                              rotate_left
                                                                              · simp only [Act.put, List.setIfInBounds_toArray, List.set_cons_zero, List.set_cons_succ, i64_w, i32_w]
                                                                                rfl
                                                                              refine done_ (done_of HT_.out (by kernel_rfl)) ?_
                                                                              have p236 : 0 ≤ (x18_3 : Int) := of_decide_eq_true (by first | (with_reducible assumption) | assumption)
                                                                              have q236 : x18_3 < (x16_6.length : Int) := of_decide_eq_true (by first | (with_reducible assumption) | assumption)
                                                                              obtain ⟨ad236, e236, hx236_0⟩ := Kd.at_int (Kd.R_reads' HO_16.out).2.2 x18_3 p236 q236
                                                                              obtain rfl : (⟨go37, 0, none⟩ : Addr) = ad236 := (by injection e236)
                                                                              (first | simp only [add_plain] at hx236_0 | simp only [add_at] at hx236_0 | simp only [Addr.add, Nat.zero_add] at hx236_0 | skip)
                                                                              replace p236 := eq_true p236
                                                                              replace q236 := eq_true q236
                                                                              have p58 : 0 ≤ (x18_3 : Int) := of_decide_eq_true (by first | (with_reducible assumption) | assumption)
                                                                              have q58 : (x18_3 : Int) < ((x16_6.length : Int) : Int) := of_decide_eq_true (by first | (with_reducible assumption) | assumption)
                                                                              obtain ⟨hx58_0, hf58_0⟩ := Kd.R_celln 0 HO_16.out (x18_3 : Int) p58 q58
                                                                              replace p58 := eq_true p58
                                                                              replace q58 := eq_true q58
                                                                              obtain ⟨hy64_, hz64_⟩ := Kd.R_celln 0 HO_16.out (x18_3 : Int) (of_decide_eq_true (by first | (with_reducible assumption) | assumption)) (of_decide_eq_true (by first | (with_reducible assumption) | assumption))
                                                                              have HP64 := Kd.R_putg HO_16.out (x18_3 : Int) (wrap64 ((wrap64 ((rd t214 x22_6) + (rd t215 x20_4))) + (rd x16_6 (ji52))))
                                                                              try go_wp2_with (first | ((with_reducible refine gate_store (t := 3) (p := 153) rfl ?_); refine store_event (t := 3) (p := 153) (v := ?vo_w65) (w1 := (w61.setCell ⟨go37, (x18_3 : Int).toNat, none⟩ (.int .i64 (wrap64 ((wrap64 ((rd t214 x22_6) + (rd t215 x20_4))) + (rd x16_6 (ji52))))))) ?hg ?ho ?hn ?hr ?_; (case ho => rfl); (case hg => rfl); (case hn => rfl); (case hr => first | (go_simp; done) | (go_simp; rfl)); intro w65 hw; have hg : w61.grownBy w65 (some go37) := (by rw [hw]; exact HP64.2); have hp_ : Kd.R (Kd.int .i64) 3 w65 w.heap.size (fun k_ => some k_ ≠ (.slice (some ad233) t214.length co62 : Value).ownBlock ∧ some k_ ≠ (.slice (some ad234) t215.length co63 : Value).ownBlock) (.slice (some ⟨go37, 0, none⟩) x16_6.length co41) y237 := (by rw [hw, Ny237.out]; exact HP64.1); clear HP64; have n0_ := Aside0.mk (Kd.R_after (v := (.slice (some ⟨go37, 0, none⟩) x16_6.length co41)) (v1 := (.slice (some ⟨go37, 0, none⟩) x16_6.length co41)) (ok := (fun k_ => some k_ ≠ (.slice (some ad234) t215.length co63 : Value).ownBlock)) (by (with_reducible repeat (first | apply Kd.R_alloc | apply Kd.R_drewN | apply Kd.R_drew)); exact HO_14.out) hg (.inl rfl)); have n1_ := Aside0.mk (Kd.R_after (v := (.slice (some ⟨go37, 0, none⟩) x16_6.length co41)) (v1 := (.slice (some ⟨go37, 0, none⟩) x16_6.length co41)) (ok := (fun k_ => some k_ ≠ (.slice (some ad233) t214.length co62 : Value).ownBlock)) (by (with_reducible repeat (first | apply Kd.R_alloc | apply Kd.R_drewN | apply Kd.R_drew)); exact HO_15.out) hg (.inl rfl)); have n2_ := Aside0.mk (hp_); have n3_ := Aside0.mk (Kd.R_over' (v := (.slice (some ⟨go37, 0, none⟩) x16_6.length co41)) (by (with_reducible repeat (first | apply Kd.R_alloc | apply Kd.R_drewN | apply Kd.R_drew)); exact HO_17.out) (Kd.R_typed HO_16.out) (by decide) hg); have n4_ := Aside0.mk ((by rw [hw]; exact below_set (HB.out) GB37.out : Below w.heap.size w w65)); clear HO_14; clear HO_15; clear HO_16; clear HO_17; clear HB; have HO_14 := n0_; have HO_15 := n1_; have HO_16 := n2_; have HO_17 := n3_; have HB := n4_; clear n0_ n1_ n2_ n3_ n4_; clear hg hw hp_; have p60 : 0 ≤ (x18_3 : Int) := of_decide_eq_true (by first | (with_reducible assumption) | assumption); have q60 : (x18_3 : Int) < ((x17_6.length : Int) : Int) := of_decide_eq_true (by first | (with_reducible assumption) | assumption); obtain ⟨ce60, hcl60, hM60, hcc60, hfr60⟩ := Kd.R_elem HO_17.out z56 (x18_3 : Int) p60 q60; obtain rfl := k56_openM hM60; have hx60_0 : w65.cell? ⟨go29, (x18_3 : Int).toNat * 3, none⟩ = some (.int .i64 ((rd_T56 x17_6 x18_3).f0)) := hcc60 0 _ rfl; have hx60_1 : w65.cell? ⟨go29, (x18_3 : Int).toNat * 3 + 1, none⟩ = some (.int .i64 ((rd_T56 x17_6 x18_3).f1)) := hcc60 1 _ rfl; have hx60_2 : w65.cell? ⟨go29, (x18_3 : Int).toNat * 3 + 2, none⟩ = some (.int .u8 ((rd_T56 x17_6 x18_3).f2)) := hcc60 2 _ rfl; have hf60_0 : w65.frozen? ⟨go29, (x18_3 : Int).toNat * 3, none⟩ = false := hfr60 0; have hf60_1 : w65.frozen? ⟨go29, (x18_3 : Int).toNat * 3 + 1, none⟩ = false := hfr60 1; have hf60_2 : w65.frozen? ⟨go29, (x18_3 : Int).toNat * 3 + 2, none⟩ = false := hfr60 2; clear hcl60 hcc60 hfr60 hM60; replace p60 := eq_true p60; replace q60 := eq_true q60; have HX66 := Aside0.mk (show Kd.R k56 56 w65 w.heap.size (fun _ => True) (.slice (some ⟨go29, 0, none⟩) x17_6.length co29) x17_6 from (by (with_reducible repeat (first | apply Kd.R_alloc | apply Kd.R_drewN | apply Kd.R_drew)); exact HO_17.out)); obtain ⟨ce66, hcl66, hM66, hcc66, hfr66⟩ := Kd.R_elem HX66.out z56 (x18_3 : Int) (of_decide_eq_true (by first | (with_reducible assumption) | assumption)) (by have h_ : (x18_3 : Int) < ((x17_6.length : Int) : Int) := of_decide_eq_true (by first | (with_reducible assumption) | assumption); first | exact h_ | (have e_ := (Kd.R_reads' HO_17.out).1; omega) | simpa using h_); obtain rfl := k56_openM hM66; have HP66 := Kd.R_seg HX66.out (x18_3 : Int) (of_decide_eq_true (by first | (with_reducible assumption) | assumption)) (by have h_ : (x18_3 : Int) < ((x17_6.length : Int) : Int) := of_decide_eq_true (by first | (with_reducible assumption) | assumption); first | exact h_ | (have e_ := (Kd.R_reads' HO_17.out).1; omega) | simpa using h_) (seg := [.int .i64 x22_6, .int .i64 x20_4, .int .u8 0]) (j := 0) hcl66 hcc66 (show 3 ≤ 3 from by decide) (x' := (⟨x22_6, x20_4, 0⟩ : S56)) (k56_mkM _ _ _ (⟨x22_6, x20_4, 0⟩ : S56) ) (fun _ hk => hk); have hx66_0 := hcc66 0 _ rfl; (try simp only [show (k56).sz = 3 from rfl, Nat.mul_one, Nat.add_zero] at hx66_0); have hf66_0 := hfr66 0; (try simp only [show (k56).sz = 3 from rfl, Nat.mul_one, Nat.add_zero] at hf66_0); have hx66_1 := hcc66 1 _ rfl; (try simp only [show (k56).sz = 3 from rfl, Nat.mul_one, Nat.add_zero] at hx66_1); have hf66_1 := hfr66 1; (try simp only [show (k56).sz = 3 from rfl, Nat.mul_one, Nat.add_zero] at hf66_1); have hx66_2 := hcc66 2 _ rfl; (try simp only [show (k56).sz = 3 from rfl, Nat.mul_one, Nat.add_zero] at hx66_2); have hf66_2 := hfr66 2; (try simp only [show (k56).sz = 3 from rfl, Nat.mul_one, Nat.add_zero] at hf66_2); clear hcl66 hcc66 hfr66 hM66) | ((with_reducible refine gate_store (t := 56) (p := 160) rfl ?_); refine store_event (t := 56) (p := 160) (v := ?vo_w67) (w1 := (((w65.setCell ⟨go29, (x18_3 : Int).toNat * 3, none⟩ (.int .i64 x22_6)).setCell ⟨go29, (x18_3 : Int).toNat * 3 + 1, none⟩ (.int .i64 x20_4)).setCell ⟨go29, (x18_3 : Int).toNat * 3 + 2, none⟩ (.int .u8 0))) ?hg ?ho ?hn ?hr ?_; (case ho => rfl); (case hg => rfl); (case hn => rfl); (case hr => first | (go_simp; done) | (go_simp; rfl)); intro w67 hw; have hg : w65.grownBy w67 (some go29) := (by rw [hw]; exact HP66.2); have hp_ : Kd.R k56 56 w67 w.heap.size (fun _ => True) (.slice (some ⟨go29, 0, none⟩) x17_6.length co29) y238 := (by rw [hw, Ny238.out]; exact HP66.1); clear HP66; have n0_ := Aside0.mk (Kd.R_over' (v := (.slice (some ⟨go29, 0, none⟩) x17_6.length co29)) (by (with_reducible repeat (first | apply Kd.R_alloc | apply Kd.R_drewN | apply Kd.R_drew)); exact HO_14.out) (Kd.R_typed HO_17.out) (by decide) hg); have n1_ := Aside0.mk (Kd.R_over' (v := (.slice (some ⟨go29, 0, none⟩) x17_6.length co29)) (by (with_reducible repeat (first | apply Kd.R_alloc | apply Kd.R_drewN | apply Kd.R_drew)); exact HO_15.out) (Kd.R_typed HO_17.out) (by decide) hg); have n2_ := Aside0.mk (Kd.R_over' (v := (.slice (some ⟨go29, 0, none⟩) x17_6.length co29)) (by (with_reducible repeat (first | apply Kd.R_alloc | apply Kd.R_drewN | apply Kd.R_drew)); exact HO_16.out) (Kd.R_typed HO_17.out) (by decide) hg); have n3_ := Aside0.mk (hp_); have n4_ := Aside0.mk ((by rw [hw]; exact below_set (below_set (below_set (HB.out) GB29.out) GB29.out) GB29.out : Below w.heap.size w w67)); clear HO_14; clear HO_15; clear HO_16; clear HO_17; clear HB; have HO_14 := n0_; have HO_15 := n1_; have HO_16 := n2_; have HO_17 := n3_; have HB := n4_; clear n0_ n1_ n2_ n3_ n4_; clear hg hw hp_))
                                                                              (try simp only [← hl16_6, ← hl17_6])
                                                                              go_roundg k6
                                                                              case measure => have := HJ4.out; have := HJ10.out; have := HK3.out; have := HK4.out; have := HJ42.out; have := HK6.out; omega
                                                                              case rel => exact ⟨(y237), (y238), (x22_6), (wrap64 (x22_6 + 1)), (by first | rfl | (simp; done) | (simp [*]; done)), (by first | rfl | (simp; done) | (simp [*]; done)), H', ⟨by have := HJ4.out; have := HJ10.out; have := HK3.out; have := HK4.out; have := HJ42.out; have := HK6.out; omega⟩, ⟨by (try simp only [hl16_4]); (try simp only [hl17_4]); (try simp only [hl16_6]); (try simp only [hl17_6]); (with_reducible repeat (first | apply Kd.R_alloc | apply Kd.R_drewN | apply Kd.R_drew)); exact HO_14.out⟩, ⟨by (try simp only [hl16_4]); (try simp only [hl17_4]); (try simp only [hl16_6]); (try simp only [hl17_6]); (with_reducible repeat (first | apply Kd.R_alloc | apply Kd.R_drewN | apply Kd.R_drew)); exact HO_15.out⟩, ⟨by (try simp only [hl16_4]); (try simp only [hl17_4]); (try simp only [hl16_6]); (try simp only [hl17_6]); (with_reducible repeat (first | apply Kd.R_alloc | apply Kd.R_drewN | apply Kd.R_drew)); exact HO_16.out⟩, ⟨by (try simp only [hl16_4]); (try simp only [hl17_4]); (try simp only [hl16_6]); (try simp only [hl17_6]); (with_reducible repeat (first | apply Kd.R_alloc | apply Kd.R_drewN | apply Kd.R_drew)); exact HO_17.out⟩, ⟨by repeat (first | (with_reducible first | exact HB.out | apply below_alloc | apply pw_below_drewN | apply below_drew1) | exact HB.out)⟩⟩
                                                                            · rw [if_neg c59] at H
                                                                              exact absurd H (by simp)
                                                                          · rw [if_neg c57] at H
                                                                            have c57b0 : decide ((wrap64 ((wrap64 ((rd t214 x22_6) + (rd t215 x20_4))) + (rd x16_6 (ji52)))) < (rd x16_6 x18_3)) = false := decide_eq_false c57
                                                                            clear c57
                                                                            by_cases c68 : (wrap64 ((wrap64 ((rd t214 x22_6) + (rd t215 x20_4))) + (rd x16_6 (ji52)))) = (rd x16_6 x18_3)
                                                                            · rw [if_pos c68] at H
                                                                              have c68b0 : ((wrap64 ((wrap64 ((rd t214 x22_6) + (rd t215 x20_4))) + (rd x16_6 (ji52)))) == (rd x16_6 x18_3)) = true := beq_iff_eq.mpr c68
                                                                              have c68b1 : ((wrap64 ((wrap64 ((rd t214 x22_6) + (rd t215 x20_4))) + (rd x16_6 (ji52)))) != (rd x16_6 x18_3)) = false := bne_eq_false_iff_eq.mpr c68
                                                                              clear c68
                                                                              by_cases c69 : x22_6 > x19_6
                                                                              · rw [if_pos c69] at H
                                                                                have c69b0 : decide (x19_6 < x22_6) = true := decide_eq_true c69
                                                                                clear c69
                                                                                obtain ⟨y240, hy240⟩ : ∃ y_ : List Int, y_ = (x16_6.set (x18_3 : Int).toNat (wrap64 ((wrap64 ((rd t214 x22_6) + (rd t215 x20_4))) + (rd x16_6 (ji52))))) := ⟨_, rfl⟩
                                                                                replace H : (if x18_3 < (x17_6.length : Int) then (valiseref21_Cheapest.l2 k6 l0 a1 l2 (l0.length : Int) t214 t215 y240 (x17_6.set (x18_3 : Int).toNat (⟨x22_6, x20_4, 0⟩ : S56)) x18_3 x22_6 x20_4 t232 (wrap64 (x22_6 + 1))) else (none)) = some (r1, r2) := by first | (rw [hy240]; with_reducible exact H) | (have H2_ := (Option.bind_some _ _).symm.trans H; rw [hy240]; with_reducible exact H2_) | (have H2_ := (Option.bind_some _ _).symm.trans H; with_reducible exact H2_) | with_reducible exact H | (rw [hy240]; exact H) | exact H
                                                                                have Ny240 := Aside0.mk hy240
                                                                                clear hy240
                                                                                by_cases c71 : x18_3 < (x17_6.length : Int)
                                                                                · rw [if_pos c71] at H
                                                                                  have c71b0 : decide (x18_3 < (x17_6.length : Int)) = true := decide_eq_true c71
                                                                                  clear c71
                                                                                  obtain ⟨y241, hy241⟩ : ∃ y_ : List (S56), y_ = (x17_6.set (x18_3 : Int).toNat (⟨x22_6, x20_4, 0⟩ : S56)) := ⟨_, rfl⟩
                                                                                  replace H : (valiseref21_Cheapest.l2 k6 l0 a1 l2 (l0.length : Int) t214 t215 y240 y241 x18_3 x22_6 x20_4 t232 (wrap64 (x22_6 + 1))) = some (r1, r2) := by first | (rw [hy241]; with_reducible exact H) | (have H2_ := (Option.bind_some _ _).symm.trans H; rw [hy241]; with_reducible exact H2_) | (have H2_ := (Option.bind_some _ _).symm.trans H; with_reducible exact H2_) | with_reducible exact H | (rw [hy241]; exact H) | exact H
                                                                                  have Ny241 := Aside0.mk hy241
                                                                                  clear hy241
                                                                                  have H' := Aside0.mk H
                                                                                  clear H
                                                                                  try go_wp2
                                                                                  have n0_ := Aside0.mk (Kd.R_drew HO_14.out)
                                                                                  have n1_ := Aside0.mk (Kd.R_drew HO_15.out)
                                                                                  have n2_ := Aside0.mk (Kd.R_drew HO_16.out)
                                                                                  have n3_ := Aside0.mk (Kd.R_drew HO_17.out)
                                                                                  have n4_ := Aside0.mk (below_drew1 HB.out)
                                                                                  clear HO_14
                                                                                  clear HO_15
                                                                                  clear HO_16
                                                                                  clear HO_17
                                                                                  clear HB
                                                                                  have HO_14 := n0_
                                                                                  have HO_15 := n1_
                                                                                  have HO_16 := n2_
                                                                                  have HO_17 := n3_
                                                                                  have HB := n4_
                                                                                  clear n0_ n1_ n2_ n3_ n4_
                                                                                  obtain ⟨Ao74, co74, eo74⟩ := Kd.R_slice HO_14.out
                                                                                  (first | subst eo74 | (injection eo74 with f1_ f2_ f3_; have f4_ := f1_.symm; have f5_ := f3_.symm; clear f1_ f2_ f3_; subst f4_; subst f5_))
                                                                                  have p233 : 0 ≤ (x22_6 : Int) := of_decide_eq_true (by first | (with_reducible assumption) | assumption)
                                                                                  have q233 : x22_6 < (t214.length : Int) := of_decide_eq_true (by first | (with_reducible assumption) | assumption)
                                                                                  obtain ⟨ad233, e233, hx233_0⟩ := Kd.at_int (Kd.R_reads' HO_14.out).2.2 x22_6 p233 q233
                                                                                  cases e233
                                                                                  replace p233 := eq_true p233
                                                                                  replace q233 := eq_true q233
                                                                                  obtain ⟨Ao75, co75, eo75⟩ := Kd.R_slice HO_15.out
                                                                                  (first | subst eo75 | (injection eo75 with f1_ f2_ f3_; have f4_ := f1_.symm; have f5_ := f3_.symm; clear f1_ f2_ f3_; subst f4_; subst f5_))
                                                                                  have p234 : 0 ≤ (x20_4 : Int) := of_decide_eq_true (by first | (with_reducible assumption) | assumption)
                                                                                  have q234 : x20_4 < (t215.length : Int) := of_decide_eq_true (by first | (with_reducible assumption) | assumption)
                                                                                  obtain ⟨ad234, e234, hx234_0⟩ := Kd.at_int (Kd.R_reads' HO_15.out).2.2 x20_4 p234 q234
                                                                                  cases e234
                                                                                  replace p234 := eq_true p234
                                                                                  replace q234 := eq_true q234
                                                                                  have p235 : 0 ≤ ((ji52) : Int) := of_decide_eq_true (by first | (with_reducible assumption) | assumption)
                                                                                  have q235 : (ji52) < (x16_6.length : Int) := of_decide_eq_true (by first | (with_reducible assumption) | assumption)
                                                                                  obtain ⟨ad235, e235, hx235_0⟩ := Kd.at_int (Kd.R_reads' HO_16.out).2.2 (ji52) p235 q235
                                                                                  obtain rfl : (⟨go37, 0, none⟩ : Addr) = ad235 := (by injection e235)
                                                                                  (first | simp only [add_plain] at hx235_0 | simp only [add_at] at hx235_0 | simp only [Addr.add, Nat.zero_add] at hx235_0 | skip)
                                                                                  replace p235 := eq_true p235
                                                                                  replace q235 := eq_true q235
                                                                                  refine start_ (n := 17) (S := fun w' => w'.cell? (ad233.add (x22_6).toNat) = some (.int .i64 (rd t214 x22_6)) ∧ w'.cell? (ad234.add (x20_4).toNat) = some (.int .i64 (rd t215 x20_4)) ∧ w'.cell? ⟨go37, ((ji52)).toNat, none⟩ = some (.int .i64 (rd x16_6 (ji52)))) (ds := []) #[false, false, false, false, false, false, false, false, false, false, false, false, false, false, false, false, false] (by kernel_rfl) rfl rfl ⟨hx233_0, hx234_0, hx235_0⟩ (fun hHeld => ?_); refine with_tabW valiseref21_Cheapest.tab25 valiseref21_Cheapest.bits25 (fun HT_ HW_ => ?_)
                                                                                  generalize wr.drew = w73 at HO_14 HO_15 HO_16 HO_17 HB hx233_0 hx234_0 hx235_0 hHeld ⊢
                                                                                  refine pure_ (i := 0) (N := some 115) (v := ?_) (a' := ?_) #[true, false, false, false, false, false, false, false, false, false, false, false, false, false, false, false, false] rfl rfl (any_of HT_.out (by kernel_rfl)) (fun _ _ _ h => h) (Or.inl ⟨by rfl, ?_⟩) ?_ ?_
                                                                                  rotate_left
                                                                                  · intro w'
                                                                                    go_simp
                                                                                    with_reducible rfl
                                                                                  rotate_left
                                                                                  · simp only [Act.put, List.setIfInBounds_toArray, List.set_cons_zero, List.set_cons_succ, i64_w, i32_w]
                                                                                    rfl
                                                                                  refine pure_ (i := 1) (N := some 116) (v := ?_) (a' := ?_) #[true, true, false, false, false, false, false, false, false, false, false, false, false, false, false, false, false] rfl rfl (any_of HT_.out (by kernel_rfl)) (fun _ _ _ h => h) (Or.inl ⟨by rfl, ?_⟩) ?_ ?_
                                                                                  rotate_left
                                                                                  · intro w'
                                                                                    go_simp
                                                                                    with_reducible rfl
                                                                                  rotate_left
                                                                                  · simp only [Act.put, List.setIfInBounds_toArray, List.set_cons_zero, List.set_cons_succ, i64_w, i32_w]
                                                                                    rfl
                                                                                  refine pure_ (i := 2) (N := some 117) (v := ?_) (a' := ?_) #[true, true, true, false, false, false, false, false, false, false, false, false, false, false, false, false, false] rfl rfl (any_of HT_.out (by kernel_rfl)) (fun _ _ _ h => h) (Or.inl ⟨by rfl, ?_⟩) ?_ ?_
                                                                                  rotate_left
                                                                                  · intro w'
                                                                                    go_simp
                                                                                    with_reducible rfl
                                                                                  rotate_left
                                                                                  · simp only [Act.put, List.setIfInBounds_toArray, List.set_cons_zero, List.set_cons_succ, i64_w, i32_w]
                                                                                    rfl
                                                                                  refine pure_ (i := 4) (N := some 119) (v := ?_) (a' := ?_) #[true, true, true, false, true, false, false, false, false, false, false, false, false, false, false, false, false] rfl rfl (any_of HT_.out (by kernel_rfl)) (fun _ _ _ h => h) (Or.inl ⟨by rfl, ?_⟩) ?_ ?_
                                                                                  rotate_left
                                                                                  · intro w'
                                                                                    go_simp
                                                                                    with_reducible rfl
                                                                                  rotate_left
                                                                                  · simp only [Act.put, List.setIfInBounds_toArray, List.set_cons_zero, List.set_cons_succ, i64_w, i32_w]
                                                                                    rfl
                                                                                  refine pure_ (i := 5) (N := some 120) (v := ?_) (a' := ?_) #[true, true, true, false, true, true, false, false, false, false, false, false, false, false, false, false, false] rfl rfl (any_of HT_.out (by kernel_rfl)) (fun _ _ _ h => h) (Or.inl ⟨by rfl, ?_⟩) ?_ ?_
                                                                                  rotate_left
                                                                                  · intro w'
                                                                                    go_simp
                                                                                    with_reducible rfl
                                                                                  rotate_left
                                                                                  · simp only [Act.put, List.setIfInBounds_toArray, List.set_cons_zero, List.set_cons_succ, i64_w, i32_w]
                                                                                    rfl
                                                                                  refine pure_ (i := 6) (N := some 121) (v := ?_) (a' := ?_) #[true, true, true, false, true, true, true, false, false, false, false, false, false, false, false, false, false] rfl rfl (any_of HT_.out (by kernel_rfl)) (fun _ _ _ h => h) (Or.inl ⟨by rfl, ?_⟩) ?_ ?_
                                                                                  rotate_left
                                                                                  · intro w'
                                                                                    go_simp
                                                                                    with_reducible rfl
                                                                                  rotate_left
                                                                                  · simp only [Act.put, List.setIfInBounds_toArray, List.set_cons_zero, List.set_cons_succ, i64_w, i32_w]
                                                                                    rfl
                                                                                  refine pure_ (i := 9) (N := some 124) (v := ?_) (a' := ?_) #[true, true, true, false, true, true, true, false, false, true, false, false, false, false, false, false, false] rfl rfl (any_of HT_.out (by kernel_rfl)) (fun _ _ _ h => h) (Or.inl ⟨by rfl, ?_⟩) ?_ ?_
                                                                                  rotate_left
                                                                                  · intro w'
                                                                                    go_simp
                                                                                    with_reducible rfl
                                                                                  rotate_left
                                                                                  · simp only [Act.put, List.setIfInBounds_toArray, List.set_cons_zero, List.set_cons_succ, i64_w, i32_w]
                                                                                    rfl
                                                                                  refine pure_ (i := 10) (N := some 125) (v := ?_) (a' := ?_) #[true, true, true, false, true, true, true, false, false, true, true, false, false, false, false, false, false] rfl rfl (any_of HT_.out (by kernel_rfl)) (fun _ _ _ h => h) (Or.inl ⟨by rfl, ?_⟩) ?_ ?_
                                                                                  rotate_left
                                                                                  · intro w'
                                                                                    go_simp
                                                                                    with_reducible rfl
                                                                                  rotate_left
                                                                                  · simp only [Act.put, List.setIfInBounds_toArray, List.set_cons_zero, List.set_cons_succ, i64_w, i32_w]
                                                                                    rfl
                                                                                  refine pure_ (i := 11) (N := some 126) (v := ?_) (a' := ?_) #[true, true, true, false, true, true, true, false, false, true, true, true, false, false, false, false, false] rfl rfl (any_of HT_.out (by kernel_rfl)) (fun _ _ _ h => h) (Or.inl ⟨by rfl, ?_⟩) ?_ ?_
                                                                                  rotate_left
                                                                                  · intro w'
                                                                                    go_simp
                                                                                    with_reducible rfl
                                                                                  rotate_left
                                                                                  · simp only [Act.put, List.setIfInBounds_toArray, List.set_cons_zero, List.set_cons_succ, i64_w, i32_w]
                                                                                    rfl
                                                                                  refine pure_ (i := 12) (N := some 127) (v := ?_) (a' := ?_) #[true, true, true, false, true, true, true, false, false, true, true, true, true, false, false, false, false] rfl rfl (any_of HT_.out (by kernel_rfl)) (fun _ _ _ h => h) (Or.inl ⟨by rfl, ?_⟩) ?_ ?_
                                                                                  rotate_left
                                                                                  · intro w'
                                                                                    go_simp
                                                                                    with_reducible rfl
                                                                                  rotate_left
                                                                                  · simp only [Act.put, List.setIfInBounds_toArray, List.set_cons_zero, List.set_cons_succ, i64_w, i32_w]
                                                                                    rfl
                                                                                  refine pure_ (i := 13) (N := some 128) (v := ?_) (a' := ?_) #[true, true, true, false, true, true, true, false, false, true, true, true, true, true, false, false, false] rfl rfl (any_of HT_.out (by kernel_rfl)) (fun _ _ _ h => h) (Or.inl ⟨by rfl, ?_⟩) ?_ ?_
                                                                                  rotate_left
                                                                                  · intro w'
                                                                                    go_simp
                                                                                    with_reducible rfl
                                                                                  rotate_left
                                                                                  · simp only [Act.put, List.setIfInBounds_toArray, List.set_cons_zero, List.set_cons_succ, i64_w, i32_w]
                                                                                    rfl
                                                                                  refine take_ (i := 3) (N := some 118) (v := ?_) (a' := ?_) #[true, true, true, true, true, true, true, false, false, true, true, true, true, true, false, false, false] rfl rfl (take_ofW HT_.out HW_.out (by kernel_rfl)) (fun _ _ _ h => h) (Or.inl ⟨by rfl, ?_⟩) hHeld ?_ ?_
                                                                                  rotate_left
                                                                                  · rintro w' ⟨s0, s1, s2⟩
                                                                                    go_simp
                                                                                    with_reducible rfl
                                                                                  rotate_left
                                                                                  · simp only [Act.put, List.setIfInBounds_toArray, List.set_cons_zero, List.set_cons_succ, i64_w, i32_w]
                                                                                    rfl
                                                                                  refine take_ (i := 7) (N := some 122) (v := ?_) (a' := ?_) #[true, true, true, true, true, true, true, true, false, true, true, true, true, true, false, false, false] rfl rfl (take_ofW HT_.out HW_.out (by kernel_rfl)) (fun _ _ _ h => h) (Or.inl ⟨by rfl, ?_⟩) hHeld ?_ ?_
                                                                                  rotate_left
                                                                                  · rintro w' ⟨s0, s1, s2⟩
                                                                                    go_simp
                                                                                    with_reducible rfl
                                                                                  rotate_left
                                                                                  · simp only [Act.put, List.setIfInBounds_toArray, List.set_cons_zero, List.set_cons_succ, i64_w, i32_w]
                                                                                    rfl
                                                                                  refine pure_ (i := 8) (N := some 123) (v := ?_) (a' := ?_) #[true, true, true, true, true, true, true, true, true, true, true, true, true, true, false, false, false] rfl rfl (any_of HT_.out (by kernel_rfl)) (fun _ _ _ h => h) (Or.inl ⟨by rfl, ?_⟩) ?_ ?_
                                                                                  rotate_left
                                                                                  · intro w'
                                                                                    go_simp
                                                                                    with_reducible rfl
                                                                                  rotate_left
                                                                                  · simp only [Act.put, List.setIfInBounds_toArray, List.set_cons_zero, List.set_cons_succ, i64_w, i32_w]
                                                                                    rfl
                                                                                  refine take_ (i := 14) (N := some 129) (v := ?_) (a' := ?_) #[true, true, true, true, true, true, true, true, true, true, true, true, true, true, true, false, false] rfl rfl (take_ofW HT_.out HW_.out (by kernel_rfl)) (fun _ _ _ h => h) (Or.inl ⟨by rfl, ?_⟩) hHeld ?_ ?_
                                                                                  rotate_left
                                                                                  · rintro w' ⟨s0, s1, s2⟩
                                                                                    go_simp
                                                                                    with_reducible rfl
                                                                                  rotate_left
                                                                                  · simp only [Act.put, List.setIfInBounds_toArray, List.set_cons_zero, List.set_cons_succ, i64_w, i32_w]
                                                                                    rfl
                                                                                  refine pure_ (i := 15) (N := some 130) (v := ?_) (a' := ?_) #[true, true, true, true, true, true, true, true, true, true, true, true, true, true, true, true, false] rfl rfl (any_of HT_.out (by kernel_rfl)) (fun _ _ _ h => h) (Or.inl ⟨by rfl, ?_⟩) ?_ ?_
                                                                                  rotate_left
                                                                                  · intro w'
                                                                                    go_simp
                                                                                    with_reducible rfl
                                                                                  rotate_left
                                                                                  · simp only [Act.put, List.setIfInBounds_toArray, List.set_cons_zero, List.set_cons_succ, i64_w, i32_w]
                                                                                    rfl
                                                                                  refine pure_ (i := 16) (N := some 23) (v := ?_) (a' := ?_) #[true, true, true, true, true, true, true, true, true, true, true, true, true, true, true, true, true] rfl rfl (any_of HT_.out (by kernel_rfl)) (fun _ _ _ h => h) (Or.inl ⟨by rfl, ?_⟩) ?_ ?_
                                                                                  rotate_left
                                                                                  · intro w'
                                                                                    go_simp
                                                                                    with_reducible rfl
                                                                                  rotate_left
                                                                                  · simp only [Act.put, List.setIfInBounds_toArray, List.set_cons_zero, List.set_cons_succ, i64_w, i32_w]
                                                                                    rfl
                                                                                  refine done_ (done_of HT_.out (by kernel_rfl)) ?_
                                                                                  have p236 : 0 ≤ (x18_3 : Int) := of_decide_eq_true (by first | (with_reducible assumption) | assumption)
                                                                                  have q236 : x18_3 < (x16_6.length : Int) := of_decide_eq_true (by first | (with_reducible assumption) | assumption)
                                                                                  obtain ⟨ad236, e236, hx236_0⟩ := Kd.at_int (Kd.R_reads' HO_16.out).2.2 x18_3 p236 q236
                                                                                  obtain rfl : (⟨go37, 0, none⟩ : Addr) = ad236 := (by injection e236)
                                                                                  (first | simp only [add_plain] at hx236_0 | simp only [add_at] at hx236_0 | simp only [Addr.add, Nat.zero_add] at hx236_0 | skip)
                                                                                  replace p236 := eq_true p236
                                                                                  replace q236 := eq_true q236
                                                                                  have p239 : 0 ≤ (x18_3 : Int) := of_decide_eq_true (by first | (with_reducible assumption) | assumption)
                                                                                  have q239 : x18_3 < (x16_6.length : Int) := of_decide_eq_true (by first | (with_reducible assumption) | assumption)
                                                                                  obtain ⟨ad239, e239, hx239_0⟩ := Kd.at_int (Kd.R_reads' HO_16.out).2.2 x18_3 p239 q239
                                                                                  obtain rfl : (⟨go37, 0, none⟩ : Addr) = ad239 := (by injection e239)
                                                                                  (first | simp only [add_plain] at hx239_0 | simp only [add_at] at hx239_0 | simp only [Addr.add, Nat.zero_add] at hx239_0 | skip)
                                                                                  replace p239 := eq_true p239
                                                                                  replace q239 := eq_true q239
                                                                                  have p70 : 0 ≤ (x18_3 : Int) := of_decide_eq_true (by first | (with_reducible assumption) | assumption)
                                                                                  have q70 : (x18_3 : Int) < ((x16_6.length : Int) : Int) := of_decide_eq_true (by first | (with_reducible assumption) | assumption)
                                                                                  obtain ⟨hx70_0, hf70_0⟩ := Kd.R_celln 0 HO_16.out (x18_3 : Int) p70 q70
                                                                                  replace p70 := eq_true p70
                                                                                  replace q70 := eq_true q70
                                                                                  obtain ⟨hy76_, hz76_⟩ := Kd.R_celln 0 HO_16.out (x18_3 : Int) (of_decide_eq_true (by first | (with_reducible assumption) | assumption)) (of_decide_eq_true (by first | (with_reducible assumption) | assumption))
                                                                                  have HP76 := Kd.R_putg HO_16.out (x18_3 : Int) (wrap64 ((wrap64 ((rd t214 x22_6) + (rd t215 x20_4))) + (rd x16_6 (ji52))))
                                                                                  try go_wp2_with (first | ((with_reducible refine gate_store (t := 3) (p := 153) rfl ?_); refine store_event (t := 3) (p := 153) (v := ?vo_w77) (w1 := (w73.setCell ⟨go37, (x18_3 : Int).toNat, none⟩ (.int .i64 (wrap64 ((wrap64 ((rd t214 x22_6) + (rd t215 x20_4))) + (rd x16_6 (ji52))))))) ?hg ?ho ?hn ?hr ?_; (case ho => rfl); (case hg => rfl); (case hn => rfl); (case hr => first | (go_simp; done) | (go_simp; rfl)); intro w77 hw; have hg : w73.grownBy w77 (some go37) := (by rw [hw]; exact HP76.2); have hp_ : Kd.R (Kd.int .i64) 3 w77 w.heap.size (fun k_ => some k_ ≠ (.slice (some ad233) t214.length co74 : Value).ownBlock ∧ some k_ ≠ (.slice (some ad234) t215.length co75 : Value).ownBlock) (.slice (some ⟨go37, 0, none⟩) x16_6.length co41) y240 := (by rw [hw, Ny240.out]; exact HP76.1); clear HP76; have n0_ := Aside0.mk (Kd.R_after (v := (.slice (some ⟨go37, 0, none⟩) x16_6.length co41)) (v1 := (.slice (some ⟨go37, 0, none⟩) x16_6.length co41)) (ok := (fun k_ => some k_ ≠ (.slice (some ad234) t215.length co75 : Value).ownBlock)) (by (with_reducible repeat (first | apply Kd.R_alloc | apply Kd.R_drewN | apply Kd.R_drew)); exact HO_14.out) hg (.inl rfl)); have n1_ := Aside0.mk (Kd.R_after (v := (.slice (some ⟨go37, 0, none⟩) x16_6.length co41)) (v1 := (.slice (some ⟨go37, 0, none⟩) x16_6.length co41)) (ok := (fun k_ => some k_ ≠ (.slice (some ad233) t214.length co74 : Value).ownBlock)) (by (with_reducible repeat (first | apply Kd.R_alloc | apply Kd.R_drewN | apply Kd.R_drew)); exact HO_15.out) hg (.inl rfl)); have n2_ := Aside0.mk (hp_); have n3_ := Aside0.mk (Kd.R_over' (v := (.slice (some ⟨go37, 0, none⟩) x16_6.length co41)) (by (with_reducible repeat (first | apply Kd.R_alloc | apply Kd.R_drewN | apply Kd.R_drew)); exact HO_17.out) (Kd.R_typed HO_16.out) (by decide) hg); have n4_ := Aside0.mk ((by rw [hw]; exact below_set (HB.out) GB37.out : Below w.heap.size w w77)); clear HO_14; clear HO_15; clear HO_16; clear HO_17; clear HB; have HO_14 := n0_; have HO_15 := n1_; have HO_16 := n2_; have HO_17 := n3_; have HB := n4_; clear n0_ n1_ n2_ n3_ n4_; clear hg hw hp_; have p72 : 0 ≤ (x18_3 : Int) := of_decide_eq_true (by first | (with_reducible assumption) | assumption); have q72 : (x18_3 : Int) < ((x17_6.length : Int) : Int) := of_decide_eq_true (by first | (with_reducible assumption) | assumption); obtain ⟨ce72, hcl72, hM72, hcc72, hfr72⟩ := Kd.R_elem HO_17.out z56 (x18_3 : Int) p72 q72; obtain rfl := k56_openM hM72; have hx72_0 : w77.cell? ⟨go29, (x18_3 : Int).toNat * 3, none⟩ = some (.int .i64 ((rd_T56 x17_6 x18_3).f0)) := hcc72 0 _ rfl; have hx72_1 : w77.cell? ⟨go29, (x18_3 : Int).toNat * 3 + 1, none⟩ = some (.int .i64 ((rd_T56 x17_6 x18_3).f1)) := hcc72 1 _ rfl; have hx72_2 : w77.cell? ⟨go29, (x18_3 : Int).toNat * 3 + 2, none⟩ = some (.int .u8 ((rd_T56 x17_6 x18_3).f2)) := hcc72 2 _ rfl; have hf72_0 : w77.frozen? ⟨go29, (x18_3 : Int).toNat * 3, none⟩ = false := hfr72 0; have hf72_1 : w77.frozen? ⟨go29, (x18_3 : Int).toNat * 3 + 1, none⟩ = false := hfr72 1; have hf72_2 : w77.frozen? ⟨go29, (x18_3 : Int).toNat * 3 + 2, none⟩ = false := hfr72 2; clear hcl72 hcc72 hfr72 hM72; replace p72 := eq_true p72; replace q72 := eq_true q72; have HX78 := Aside0.mk (show Kd.R k56 56 w77 w.heap.size (fun _ => True) (.slice (some ⟨go29, 0, none⟩) x17_6.length co29) x17_6 from (by (with_reducible repeat (first | apply Kd.R_alloc | apply Kd.R_drewN | apply Kd.R_drew)); exact HO_17.out)); obtain ⟨ce78, hcl78, hM78, hcc78, hfr78⟩ := Kd.R_elem HX78.out z56 (x18_3 : Int) (of_decide_eq_true (by first | (with_reducible assumption) | assumption)) (by have h_ : (x18_3 : Int) < ((x17_6.length : Int) : Int) := of_decide_eq_true (by first | (with_reducible assumption) | assumption); first | exact h_ | (have e_ := (Kd.R_reads' HO_17.out).1; omega) | simpa using h_); obtain rfl := k56_openM hM78; have HP78 := Kd.R_seg HX78.out (x18_3 : Int) (of_decide_eq_true (by first | (with_reducible assumption) | assumption)) (by have h_ : (x18_3 : Int) < ((x17_6.length : Int) : Int) := of_decide_eq_true (by first | (with_reducible assumption) | assumption); first | exact h_ | (have e_ := (Kd.R_reads' HO_17.out).1; omega) | simpa using h_) (seg := [.int .i64 x22_6, .int .i64 x20_4, .int .u8 0]) (j := 0) hcl78 hcc78 (show 3 ≤ 3 from by decide) (x' := (⟨x22_6, x20_4, 0⟩ : S56)) (k56_mkM _ _ _ (⟨x22_6, x20_4, 0⟩ : S56) ) (fun _ hk => hk); have hx78_0 := hcc78 0 _ rfl; (try simp only [show (k56).sz = 3 from rfl, Nat.mul_one, Nat.add_zero] at hx78_0); have hf78_0 := hfr78 0; (try simp only [show (k56).sz = 3 from rfl, Nat.mul_one, Nat.add_zero] at hf78_0); have hx78_1 := hcc78 1 _ rfl; (try simp only [show (k56).sz = 3 from rfl, Nat.mul_one, Nat.add_zero] at hx78_1); have hf78_1 := hfr78 1; (try simp only [show (k56).sz = 3 from rfl, Nat.mul_one, Nat.add_zero] at hf78_1); have hx78_2 := hcc78 2 _ rfl; (try simp only [show (k56).sz = 3 from rfl, Nat.mul_one, Nat.add_zero] at hx78_2); have hf78_2 := hfr78 2; (try simp only [show (k56).sz = 3 from rfl, Nat.mul_one, Nat.add_zero] at hf78_2); clear hcl78 hcc78 hfr78 hM78) | ((with_reducible refine gate_store (t := 56) (p := 160) rfl ?_); refine store_event (t := 56) (p := 160) (v := ?vo_w79) (w1 := (((w77.setCell ⟨go29, (x18_3 : Int).toNat * 3, none⟩ (.int .i64 x22_6)).setCell ⟨go29, (x18_3 : Int).toNat * 3 + 1, none⟩ (.int .i64 x20_4)).setCell ⟨go29, (x18_3 : Int).toNat * 3 + 2, none⟩ (.int .u8 0))) ?hg ?ho ?hn ?hr ?_; (case ho => rfl); (case hg => rfl); (case hn => rfl); (case hr => first | (go_simp; done) | (go_simp; rfl)); intro w79 hw; have hg : w77.grownBy w79 (some go29) := (by rw [hw]; exact HP78.2); have hp_ : Kd.R k56 56 w79 w.heap.size (fun _ => True) (.slice (some ⟨go29, 0, none⟩) x17_6.length co29) y241 := (by rw [hw, Ny241.out]; exact HP78.1); clear HP78; have n0_ := Aside0.mk (Kd.R_over' (v := (.slice (some ⟨go29, 0, none⟩) x17_6.length co29)) (by (with_reducible repeat (first | apply Kd.R_alloc | apply Kd.R_drewN | apply Kd.R_drew)); exact HO_14.out) (Kd.R_typed HO_17.out) (by decide) hg); have n1_ := Aside0.mk (Kd.R_over' (v := (.slice (some ⟨go29, 0, none⟩) x17_6.length co29)) (by (with_reducible repeat (first | apply Kd.R_alloc | apply Kd.R_drewN | apply Kd.R_drew)); exact HO_15.out) (Kd.R_typed HO_17.out) (by decide) hg); have n2_ := Aside0.mk (Kd.R_over' (v := (.slice (some ⟨go29, 0, none⟩) x17_6.length co29)) (by (with_reducible repeat (first | apply Kd.R_alloc | apply Kd.R_drewN | apply Kd.R_drew)); exact HO_16.out) (Kd.R_typed HO_17.out) (by decide) hg); have n3_ := Aside0.mk (hp_); have n4_ := Aside0.mk ((by rw [hw]; exact below_set (below_set (below_set (HB.out) GB29.out) GB29.out) GB29.out : Below w.heap.size w w79)); clear HO_14; clear HO_15; clear HO_16; clear HO_17; clear HB; have HO_14 := n0_; have HO_15 := n1_; have HO_16 := n2_; have HO_17 := n3_; have HB := n4_; clear n0_ n1_ n2_ n3_ n4_; clear hg hw hp_))
                                                                                  (try simp only [← hl16_6, ← hl17_6])
                                                                                  go_roundg k6
                                                                                  case measure => have := HJ4.out; have := HJ10.out; have := HK3.out; have := HK4.out; have := HJ42.out; have := HK6.out; omega
                                                                                  case rel => exact ⟨(y240), (y241), (x22_6), (wrap64 (x22_6 + 1)), (by first | rfl | (simp; done) | (simp [*]; done)), (by first | rfl | (simp; done) | (simp [*]; done)), H', ⟨by have := HJ4.out; have := HJ10.out; have := HK3.out; have := HK4.out; have := HJ42.out; have := HK6.out; omega⟩, ⟨by (try simp only [hl16_4]); (try simp only [hl17_4]); (try simp only [hl16_6]); (try simp only [hl17_6]); (with_reducible repeat (first | apply Kd.R_alloc | apply Kd.R_drewN | apply Kd.R_drew)); exact HO_14.out⟩, ⟨by (try simp only [hl16_4]); (try simp only [hl17_4]); (try simp only [hl16_6]); (try simp only [hl17_6]); (with_reducible repeat (first | apply Kd.R_alloc | apply Kd.R_drewN | apply Kd.R_drew)); exact HO_15.out⟩, ⟨by (try simp only [hl16_4]); (try simp only [hl17_4]); (try simp only [hl16_6]); (try simp only [hl17_6]); (with_reducible repeat (first | apply Kd.R_alloc | apply Kd.R_drewN | apply Kd.R_drew)); exact HO_16.out⟩, ⟨by (try simp only [hl16_4]); (try simp only [hl17_4]); (try simp only [hl16_6]); (try simp only [hl17_6]); (with_reducible repeat (first | apply Kd.R_alloc | apply Kd.R_drewN | apply Kd.R_drew)); exact HO_17.out⟩, ⟨by repeat (first | (with_reducible first | exact HB.out | apply below_alloc | apply pw_below_drewN | apply below_drew1) | exact HB.out)⟩⟩
                                                                                · rw [if_neg c71] at H
                                                                                  exact absurd H (by simp)
                                                                              · rw [if_neg c69] at H
                                                                                have c69b0 : decide (x19_6 < x22_6) = false := decide_eq_false c69
                                                                                clear c69
                                                                                have H' := Aside0.mk H
                                                                                clear H
                                                                                try go_wp2
                                                                                have n0_ := Aside0.mk (Kd.R_drew HO_14.out)
                                                                                have n1_ := Aside0.mk (Kd.R_drew HO_15.out)
                                                                                have n2_ := Aside0.mk (Kd.R_drew HO_16.out)
                                                                                have n3_ := Aside0.mk (Kd.R_drew HO_17.out)
                                                                                have n4_ := Aside0.mk (below_drew1 HB.out)
                                                                                clear HO_14
                                                                                clear HO_15
                                                                                clear HO_16
                                                                                clear HO_17
                                                                                clear HB
                                                                                have HO_14 := n0_
                                                                                have HO_15 := n1_
                                                                                have HO_16 := n2_
                                                                                have HO_17 := n3_
                                                                                have HB := n4_
                                                                                clear n0_ n1_ n2_ n3_ n4_
                                                                                obtain ⟨Ao81, co81, eo81⟩ := Kd.R_slice HO_14.out
                                                                                (first | subst eo81 | (injection eo81 with f1_ f2_ f3_; have f4_ := f1_.symm; have f5_ := f3_.symm; clear f1_ f2_ f3_; subst f4_; subst f5_))
                                                                                have p233 : 0 ≤ (x22_6 : Int) := of_decide_eq_true (by first | (with_reducible assumption) | assumption)
                                                                                have q233 : x22_6 < (t214.length : Int) := of_decide_eq_true (by first | (with_reducible assumption) | assumption)
                                                                                obtain ⟨ad233, e233, hx233_0⟩ := Kd.at_int (Kd.R_reads' HO_14.out).2.2 x22_6 p233 q233
                                                                                cases e233
                                                                                replace p233 := eq_true p233
                                                                                replace q233 := eq_true q233
                                                                                obtain ⟨Ao82, co82, eo82⟩ := Kd.R_slice HO_15.out
                                                                                (first | subst eo82 | (injection eo82 with f1_ f2_ f3_; have f4_ := f1_.symm; have f5_ := f3_.symm; clear f1_ f2_ f3_; subst f4_; subst f5_))
                                                                                have p234 : 0 ≤ (x20_4 : Int) := of_decide_eq_true (by first | (with_reducible assumption) | assumption)
                                                                                have q234 : x20_4 < (t215.length : Int) := of_decide_eq_true (by first | (with_reducible assumption) | assumption)
                                                                                obtain ⟨ad234, e234, hx234_0⟩ := Kd.at_int (Kd.R_reads' HO_15.out).2.2 x20_4 p234 q234
                                                                                cases e234
                                                                                replace p234 := eq_true p234
                                                                                replace q234 := eq_true q234
                                                                                have p235 : 0 ≤ ((ji52) : Int) := of_decide_eq_true (by first | (with_reducible assumption) | assumption)
                                                                                have q235 : (ji52) < (x16_6.length : Int) := of_decide_eq_true (by first | (with_reducible assumption) | assumption)
                                                                                obtain ⟨ad235, e235, hx235_0⟩ := Kd.at_int (Kd.R_reads' HO_16.out).2.2 (ji52) p235 q235
                                                                                obtain rfl : (⟨go37, 0, none⟩ : Addr) = ad235 := (by injection e235)
                                                                                (first | simp only [add_plain] at hx235_0 | simp only [add_at] at hx235_0 | simp only [Addr.add, Nat.zero_add] at hx235_0 | skip)
                                                                                replace p235 := eq_true p235
                                                                                replace q235 := eq_true q235
                                                                                refine start_ (n := 17) (S := fun w' => w'.cell? (ad233.add (x22_6).toNat) = some (.int .i64 (rd t214 x22_6)) ∧ w'.cell? (ad234.add (x20_4).toNat) = some (.int .i64 (rd t215 x20_4)) ∧ w'.cell? ⟨go37, ((ji52)).toNat, none⟩ = some (.int .i64 (rd x16_6 (ji52)))) (ds := []) #[false, false, false, false, false, false, false, false, false, false, false, false, false, false, false, false, false] (by kernel_rfl) rfl rfl ⟨hx233_0, hx234_0, hx235_0⟩ (fun hHeld => ?_); refine with_tabW valiseref21_Cheapest.tab25 valiseref21_Cheapest.bits25 (fun HT_ HW_ => ?_)
                                                                                generalize wr.drew = w80 at HO_14 HO_15 HO_16 HO_17 HB hx233_0 hx234_0 hx235_0 hHeld ⊢
                                                                                refine pure_ (i := 0) (N := some 115) (v := ?_) (a' := ?_) #[true, false, false, false, false, false, false, false, false, false, false, false, false, false, false, false, false] rfl rfl (any_of HT_.out (by kernel_rfl)) (fun _ _ _ h => h) (Or.inl ⟨by rfl, ?_⟩) ?_ ?_
                                                                                rotate_left
                                                                                · intro w'
                                                                                  go_simp
                                                                                  with_reducible rfl
                                                                                rotate_left
                                                                                · simp only [Act.put, List.setIfInBounds_toArray, List.set_cons_zero, List.set_cons_succ, i64_w, i32_w]
                                                                                  rfl
                                                                                refine pure_ (i := 1) (N := some 116) (v := ?_) (a' := ?_) #[true, true, false, false, false, false, false, false, false, false, false, false, false, false, false, false, false] rfl rfl (any_of HT_.out (by kernel_rfl)) (fun _ _ _ h => h) (Or.inl ⟨by rfl, ?_⟩) ?_ ?_
                                                                                rotate_left
                                                                                · intro w'
                                                                                  go_simp
                                                                                  with_reducible rfl
                                                                                rotate_left
                                                                                · simp only [Act.put, List.setIfInBounds_toArray, List.set_cons_zero, List.set_cons_succ, i64_w, i32_w]
                                                                                  rfl
                                                                                refine pure_ (i := 2) (N := some 117) (v := ?_) (a' := ?_) #[true, true, true, false, false, false, false, false, false, false, false, false, false, false, false, false, false] rfl rfl (any_of HT_.out (by kernel_rfl)) (fun _ _ _ h => h) (Or.inl ⟨by rfl, ?_⟩) ?_ ?_
                                                                                rotate_left
                                                                                · intro w'
                                                                                  go_simp
                                                                                  with_reducible rfl
                                                                                rotate_left
                                                                                · simp only [Act.put, List.setIfInBounds_toArray, List.set_cons_zero, List.set_cons_succ, i64_w, i32_w]
                                                                                  rfl
                                                                                refine pure_ (i := 4) (N := some 119) (v := ?_) (a' := ?_) #[true, true, true, false, true, false, false, false, false, false, false, false, false, false, false, false, false] rfl rfl (any_of HT_.out (by kernel_rfl)) (fun _ _ _ h => h) (Or.inl ⟨by rfl, ?_⟩) ?_ ?_
                                                                                rotate_left
                                                                                · intro w'
                                                                                  go_simp
                                                                                  with_reducible rfl
                                                                                rotate_left
                                                                                · simp only [Act.put, List.setIfInBounds_toArray, List.set_cons_zero, List.set_cons_succ, i64_w, i32_w]
                                                                                  rfl
                                                                                refine pure_ (i := 5) (N := some 120) (v := ?_) (a' := ?_) #[true, true, true, false, true, true, false, false, false, false, false, false, false, false, false, false, false] rfl rfl (any_of HT_.out (by kernel_rfl)) (fun _ _ _ h => h) (Or.inl ⟨by rfl, ?_⟩) ?_ ?_
                                                                                rotate_left
                                                                                · intro w'
                                                                                  go_simp
                                                                                  with_reducible rfl
                                                                                rotate_left
                                                                                · simp only [Act.put, List.setIfInBounds_toArray, List.set_cons_zero, List.set_cons_succ, i64_w, i32_w]
                                                                                  rfl
                                                                                refine pure_ (i := 6) (N := some 121) (v := ?_) (a' := ?_) #[true, true, true, false, true, true, true, false, false, false, false, false, false, false, false, false, false] rfl rfl (any_of HT_.out (by kernel_rfl)) (fun _ _ _ h => h) (Or.inl ⟨by rfl, ?_⟩) ?_ ?_
                                                                                rotate_left
                                                                                · intro w'
                                                                                  go_simp
                                                                                  with_reducible rfl
                                                                                rotate_left
                                                                                · simp only [Act.put, List.setIfInBounds_toArray, List.set_cons_zero, List.set_cons_succ, i64_w, i32_w]
                                                                                  rfl
                                                                                refine pure_ (i := 9) (N := some 124) (v := ?_) (a' := ?_) #[true, true, true, false, true, true, true, false, false, true, false, false, false, false, false, false, false] rfl rfl (any_of HT_.out (by kernel_rfl)) (fun _ _ _ h => h) (Or.inl ⟨by rfl, ?_⟩) ?_ ?_
                                                                                rotate_left
                                                                                · intro w'
                                                                                  go_simp
                                                                                  with_reducible rfl
                                                                                rotate_left
                                                                                · simp only [Act.put, List.setIfInBounds_toArray, List.set_cons_zero, List.set_cons_succ, i64_w, i32_w]
                                                                                  rfl
                                                                                refine pure_ (i := 10) (N := some 125) (v := ?_) (a' := ?_) #[true, true, true, false, true, true, true, false, false, true, true, false, false, false, false, false, false] rfl rfl (any_of HT_.out (by kernel_rfl)) (fun _ _ _ h => h) (Or.inl ⟨by rfl, ?_⟩) ?_ ?_
                                                                                rotate_left
                                                                                · intro w'
                                                                                  go_simp
                                                                                  with_reducible rfl
                                                                                rotate_left
                                                                                · simp only [Act.put, List.setIfInBounds_toArray, List.set_cons_zero, List.set_cons_succ, i64_w, i32_w]
                                                                                  rfl
                                                                                refine pure_ (i := 11) (N := some 126) (v := ?_) (a' := ?_) #[true, true, true, false, true, true, true, false, false, true, true, true, false, false, false, false, false] rfl rfl (any_of HT_.out (by kernel_rfl)) (fun _ _ _ h => h) (Or.inl ⟨by rfl, ?_⟩) ?_ ?_
                                                                                rotate_left
                                                                                · intro w'
                                                                                  go_simp
                                                                                  with_reducible rfl
                                                                                rotate_left
                                                                                · simp only [Act.put, List.setIfInBounds_toArray, List.set_cons_zero, List.set_cons_succ, i64_w, i32_w]
                                                                                  rfl
                                                                                refine pure_ (i := 12) (N := some 127) (v := ?_) (a' := ?_) #[true, true, true, false, true, true, true, false, false, true, true, true, true, false, false, false, false] rfl rfl (any_of HT_.out (by kernel_rfl)) (fun _ _ _ h => h) (Or.inl ⟨by rfl, ?_⟩) ?_ ?_
                                                                                rotate_left
                                                                                · intro w'
                                                                                  go_simp
                                                                                  with_reducible rfl
                                                                                rotate_left
                                                                                · simp only [Act.put, List.setIfInBounds_toArray, List.set_cons_zero, List.set_cons_succ, i64_w, i32_w]
                                                                                  rfl
                                                                                refine pure_ (i := 13) (N := some 128) (v := ?_) (a' := ?_) #[true, true, true, false, true, true, true, false, false, true, true, true, true, true, false, false, false] rfl rfl (any_of HT_.out (by kernel_rfl)) (fun _ _ _ h => h) (Or.inl ⟨by rfl, ?_⟩) ?_ ?_
                                                                                rotate_left
                                                                                · intro w'
                                                                                  go_simp
                                                                                  with_reducible rfl
                                                                                rotate_left
                                                                                · simp only [Act.put, List.setIfInBounds_toArray, List.set_cons_zero, List.set_cons_succ, i64_w, i32_w]
                                                                                  rfl
                                                                                refine take_ (i := 3) (N := some 118) (v := ?_) (a' := ?_) #[true, true, true, true, true, true, true, false, false, true, true, true, true, true, false, false, false] rfl rfl (take_ofW HT_.out HW_.out (by kernel_rfl)) (fun _ _ _ h => h) (Or.inl ⟨by rfl, ?_⟩) hHeld ?_ ?_
                                                                                rotate_left
                                                                                · rintro w' ⟨s0, s1, s2⟩
                                                                                  go_simp
                                                                                  with_reducible rfl
                                                                                rotate_left
                                                                                · simp only [Act.put, List.setIfInBounds_toArray, List.set_cons_zero, List.set_cons_succ, i64_w, i32_w]
                                                                                  rfl
                                                                                refine take_ (i := 7) (N := some 122) (v := ?_) (a' := ?_) #[true, true, true, true, true, true, true, true, false, true, true, true, true, true, false, false, false] rfl rfl (take_ofW HT_.out HW_.out (by kernel_rfl)) (fun _ _ _ h => h) (Or.inl ⟨by rfl, ?_⟩) hHeld ?_ ?_
                                                                                rotate_left
                                                                                · rintro w' ⟨s0, s1, s2⟩
                                                                                  go_simp
                                                                                  with_reducible rfl
                                                                                rotate_left
                                                                                · simp only [Act.put, List.setIfInBounds_toArray, List.set_cons_zero, List.set_cons_succ, i64_w, i32_w]
                                                                                  rfl
                                                                                refine pure_ (i := 8) (N := some 123) (v := ?_) (a' := ?_) #[true, true, true, true, true, true, true, true, true, true, true, true, true, true, false, false, false] rfl rfl (any_of HT_.out (by kernel_rfl)) (fun _ _ _ h => h) (Or.inl ⟨by rfl, ?_⟩) ?_ ?_
                                                                                rotate_left
                                                                                · intro w'
                                                                                  go_simp
                                                                                  with_reducible rfl
                                                                                rotate_left
                                                                                · simp only [Act.put, List.setIfInBounds_toArray, List.set_cons_zero, List.set_cons_succ, i64_w, i32_w]
                                                                                  rfl
                                                                                refine take_ (i := 14) (N := some 129) (v := ?_) (a' := ?_) #[true, true, true, true, true, true, true, true, true, true, true, true, true, true, true, false, false] rfl rfl (take_ofW HT_.out HW_.out (by kernel_rfl)) (fun _ _ _ h => h) (Or.inl ⟨by rfl, ?_⟩) hHeld ?_ ?_
                                                                                rotate_left
                                                                                · rintro w' ⟨s0, s1, s2⟩
                                                                                  go_simp
                                                                                  with_reducible rfl
                                                                                rotate_left
                                                                                · simp only [Act.put, List.setIfInBounds_toArray, List.set_cons_zero, List.set_cons_succ, i64_w, i32_w]
                                                                                  rfl
                                                                                refine pure_ (i := 15) (N := some 130) (v := ?_) (a' := ?_) #[true, true, true, true, true, true, true, true, true, true, true, true, true, true, true, true, false] rfl rfl (any_of HT_.out (by kernel_rfl)) (fun _ _ _ h => h) (Or.inl ⟨by rfl, ?_⟩) ?_ ?_
                                                                                rotate_left
                                                                                · intro w'
                                                                                  go_simp
                                                                                  with_reducible rfl
                                                                                rotate_left
                                                                                · simp only [Act.put, List.setIfInBounds_toArray, List.set_cons_zero, List.set_cons_succ, i64_w, i32_w]
                                                                                  rfl
                                                                                refine pure_ (i := 16) (N := some 23) (v := ?_) (a' := ?_) #[true, true, true, true, true, true, true, true, true, true, true, true, true, true, true, true, true] rfl rfl (any_of HT_.out (by kernel_rfl)) (fun _ _ _ h => h) (Or.inl ⟨by rfl, ?_⟩) ?_ ?_
                                                                                rotate_left
                                                                                · intro w'
                                                                                  go_simp
                                                                                  with_reducible rfl
                                                                                rotate_left
                                                                                · simp only [Act.put, List.setIfInBounds_toArray, List.set_cons_zero, List.set_cons_succ, i64_w, i32_w]
                                                                                  rfl
                                                                                refine done_ (done_of HT_.out (by kernel_rfl)) ?_
                                                                                have p236 : 0 ≤ (x18_3 : Int) := of_decide_eq_true (by first | (with_reducible assumption) | assumption)
                                                                                have q236 : x18_3 < (x16_6.length : Int) := of_decide_eq_true (by first | (with_reducible assumption) | assumption)
                                                                                obtain ⟨ad236, e236, hx236_0⟩ := Kd.at_int (Kd.R_reads' HO_16.out).2.2 x18_3 p236 q236
                                                                                obtain rfl : (⟨go37, 0, none⟩ : Addr) = ad236 := (by injection e236)
                                                                                (first | simp only [add_plain] at hx236_0 | simp only [add_at] at hx236_0 | simp only [Addr.add, Nat.zero_add] at hx236_0 | skip)
                                                                                replace p236 := eq_true p236
                                                                                replace q236 := eq_true q236
                                                                                have p239 : 0 ≤ (x18_3 : Int) := of_decide_eq_true (by first | (with_reducible assumption) | assumption)
                                                                                have q239 : x18_3 < (x16_6.length : Int) := of_decide_eq_true (by first | (with_reducible assumption) | assumption)
                                                                                obtain ⟨ad239, e239, hx239_0⟩ := Kd.at_int (Kd.R_reads' HO_16.out).2.2 x18_3 p239 q239
                                                                                obtain rfl : (⟨go37, 0, none⟩ : Addr) = ad239 := (by injection e239)
                                                                                (first | simp only [add_plain] at hx239_0 | simp only [add_at] at hx239_0 | simp only [Addr.add, Nat.zero_add] at hx239_0 | skip)
                                                                                replace p239 := eq_true p239
                                                                                replace q239 := eq_true q239
                                                                                try go_wp2
                                                                                (try simp only [← hl16_6, ← hl17_6])
                                                                                go_roundg k6
                                                                                case measure => have := HJ4.out; have := HJ10.out; have := HK3.out; have := HK4.out; have := HJ42.out; have := HK6.out; omega
                                                                                case rel => exact ⟨(x16_6), (x17_6), (x19_6), (wrap64 (x22_6 + 1)), (by first | rfl | (simp; done) | (simp [*]; done)), (by first | rfl | (simp; done) | (simp [*]; done)), H', ⟨by have := HJ4.out; have := HJ10.out; have := HK3.out; have := HK4.out; have := HJ42.out; have := HK6.out; omega⟩, ⟨by (try simp only [hl16_4]); (try simp only [hl17_4]); (try simp only [hl16_6]); (try simp only [hl17_6]); (with_reducible repeat (first | apply Kd.R_alloc | apply Kd.R_drewN | apply Kd.R_drew)); exact HO_14.out⟩, ⟨by (try simp only [hl16_4]); (try simp only [hl17_4]); (try simp only [hl16_6]); (try simp only [hl17_6]); (with_reducible repeat (first | apply Kd.R_alloc | apply Kd.R_drewN | apply Kd.R_drew)); exact HO_15.out⟩, ⟨by (try simp only [hl16_4]); (try simp only [hl17_4]); (try simp only [hl16_6]); (try simp only [hl17_6]); (with_reducible repeat (first | apply Kd.R_alloc | apply Kd.R_drewN | apply Kd.R_drew)); exact HO_16.out⟩, ⟨by (try simp only [hl16_4]); (try simp only [hl17_4]); (try simp only [hl16_6]); (try simp only [hl17_6]); (with_reducible repeat (first | apply Kd.R_alloc | apply Kd.R_drewN | apply Kd.R_drew)); exact HO_17.out⟩, ⟨by repeat (first | (with_reducible first | exact HB.out | apply below_alloc | apply pw_below_drewN | apply below_drew1) | exact HB.out)⟩⟩
                                                                            · rw [if_neg c68] at H
                                                                              have c68b0 : ((wrap64 ((wrap64 ((rd t214 x22_6) + (rd t215 x20_4))) + (rd x16_6 (ji52)))) == (rd x16_6 x18_3)) = false := beq_eq_false_iff_ne.mpr c68
                                                                              have c68b1 : ((wrap64 ((wrap64 ((rd t214 x22_6) + (rd t215 x20_4))) + (rd x16_6 (ji52)))) != (rd x16_6 x18_3)) = true := bne_iff_ne.mpr c68
                                                                              have H' := Aside0.mk H
                                                                              clear H
                                                                              try go_wp2
                                                                              have n0_ := Aside0.mk (Kd.R_drew HO_14.out)
                                                                              have n1_ := Aside0.mk (Kd.R_drew HO_15.out)
                                                                              have n2_ := Aside0.mk (Kd.R_drew HO_16.out)
                                                                              have n3_ := Aside0.mk (Kd.R_drew HO_17.out)
                                                                              have n4_ := Aside0.mk (below_drew1 HB.out)
                                                                              clear HO_14
                                                                              clear HO_15
                                                                              clear HO_16
                                                                              clear HO_17
                                                                              clear HB
                                                                              have HO_14 := n0_
                                                                              have HO_15 := n1_
                                                                              have HO_16 := n2_
                                                                              have HO_17 := n3_
                                                                              have HB := n4_
                                                                              clear n0_ n1_ n2_ n3_ n4_
                                                                              obtain ⟨Ao84, co84, eo84⟩ := Kd.R_slice HO_14.out
                                                                              (first | subst eo84 | (injection eo84 with f1_ f2_ f3_; have f4_ := f1_.symm; have f5_ := f3_.symm; clear f1_ f2_ f3_; subst f4_; subst f5_))
                                                                              have p233 : 0 ≤ (x22_6 : Int) := of_decide_eq_true (by first | (with_reducible assumption) | assumption)
                                                                              have q233 : x22_6 < (t214.length : Int) := of_decide_eq_true (by first | (with_reducible assumption) | assumption)
                                                                              obtain ⟨ad233, e233, hx233_0⟩ := Kd.at_int (Kd.R_reads' HO_14.out).2.2 x22_6 p233 q233
                                                                              cases e233
                                                                              replace p233 := eq_true p233
                                                                              replace q233 := eq_true q233
                                                                              obtain ⟨Ao85, co85, eo85⟩ := Kd.R_slice HO_15.out
                                                                              (first | subst eo85 | (injection eo85 with f1_ f2_ f3_; have f4_ := f1_.symm; have f5_ := f3_.symm; clear f1_ f2_ f3_; subst f4_; subst f5_))
                                                                              have p234 : 0 ≤ (x20_4 : Int) := of_decide_eq_true (by first | (with_reducible assumption) | assumption)
                                                                              have q234 : x20_4 < (t215.length : Int) := of_decide_eq_true (by first | (with_reducible assumption) | assumption)
                                                                              obtain ⟨ad234, e234, hx234_0⟩ := Kd.at_int (Kd.R_reads' HO_15.out).2.2 x20_4 p234 q234
                                                                              cases e234
                                                                              replace p234 := eq_true p234
                                                                              replace q234 := eq_true q234
                                                                              have p235 : 0 ≤ ((ji52) : Int) := of_decide_eq_true (by first | (with_reducible assumption) | assumption)
                                                                              have q235 : (ji52) < (x16_6.length : Int) := of_decide_eq_true (by first | (with_reducible assumption) | assumption)
                                                                              obtain ⟨ad235, e235, hx235_0⟩ := Kd.at_int (Kd.R_reads' HO_16.out).2.2 (ji52) p235 q235
                                                                              obtain rfl : (⟨go37, 0, none⟩ : Addr) = ad235 := (by injection e235)
                                                                              (first | simp only [add_plain] at hx235_0 | simp only [add_at] at hx235_0 | simp only [Addr.add, Nat.zero_add] at hx235_0 | skip)
                                                                              replace p235 := eq_true p235
                                                                              replace q235 := eq_true q235
                                                                              refine start_ (n := 17) (S := fun w' => w'.cell? (ad233.add (x22_6).toNat) = some (.int .i64 (rd t214 x22_6)) ∧ w'.cell? (ad234.add (x20_4).toNat) = some (.int .i64 (rd t215 x20_4)) ∧ w'.cell? ⟨go37, ((ji52)).toNat, none⟩ = some (.int .i64 (rd x16_6 (ji52)))) (ds := []) #[false, false, false, false, false, false, false, false, false, false, false, false, false, false, false, false, false] (by kernel_rfl) rfl rfl ⟨hx233_0, hx234_0, hx235_0⟩ (fun hHeld => ?_); refine with_tabW valiseref21_Cheapest.tab25 valiseref21_Cheapest.bits25 (fun HT_ HW_ => ?_)
                                                                              generalize wr.drew = w83 at HO_14 HO_15 HO_16 HO_17 HB hx233_0 hx234_0 hx235_0 hHeld ⊢
                                                                              refine pure_ (i := 0) (N := some 115) (v := ?_) (a' := ?_) #[true, false, false, false, false, false, false, false, false, false, false, false, false, false, false, false, false] rfl rfl (any_of HT_.out (by kernel_rfl)) (fun _ _ _ h => h) (Or.inl ⟨by rfl, ?_⟩) ?_ ?_
                                                                              rotate_left
                                                                              · intro w'
                                                                                go_simp
                                                                                with_reducible rfl
                                                                              rotate_left
                                                                              · simp only [Act.put, List.setIfInBounds_toArray, List.set_cons_zero, List.set_cons_succ, i64_w, i32_w]
                                                                                rfl
                                                                              refine pure_ (i := 1) (N := some 116) (v := ?_) (a' := ?_) #[true, true, false, false, false, false, false, false, false, false, false, false, false, false, false, false, false] rfl rfl (any_of HT_.out (by kernel_rfl)) (fun _ _ _ h => h) (Or.inl ⟨by rfl, ?_⟩) ?_ ?_
                                                                              rotate_left
                                                                              · intro w'
                                                                                go_simp
                                                                                with_reducible rfl
                                                                              rotate_left
                                                                              · simp only [Act.put, List.setIfInBounds_toArray, List.set_cons_zero, List.set_cons_succ, i64_w, i32_w]
                                                                                rfl
                                                                              refine pure_ (i := 2) (N := some 117) (v := ?_) (a' := ?_) #[true, true, true, false, false, false, false, false, false, false, false, false, false, false, false, false, false] rfl rfl (any_of HT_.out (by kernel_rfl)) (fun _ _ _ h => h) (Or.inl ⟨by rfl, ?_⟩) ?_ ?_
                                                                              rotate_left
                                                                              · intro w'
                                                                                go_simp
                                                                                with_reducible rfl
                                                                              rotate_left
                                                                              · simp only [Act.put, List.setIfInBounds_toArray, List.set_cons_zero, List.set_cons_succ, i64_w, i32_w]
                                                                                rfl
                                                                              refine pure_ (i := 4) (N := some 119) (v := ?_) (a' := ?_) #[true, true, true, false, true, false, false, false, false, false, false, false, false, false, false, false, false] rfl rfl (any_of HT_.out (by kernel_rfl)) (fun _ _ _ h => h) (Or.inl ⟨by rfl, ?_⟩) ?_ ?_
                                                                              rotate_left
                                                                              · intro w'
                                                                                go_simp
                                                                                with_reducible rfl
                                                                              rotate_left
                                                                              · simp only [Act.put, List.setIfInBounds_toArray, List.set_cons_zero, List.set_cons_succ, i64_w, i32_w]
                                                                                rfl
                                                                              refine pure_ (i := 5) (N := some 120) (v := ?_) (a' := ?_) #[true, true, true, false, true, true, false, false, false, false, false, false, false, false, false, false, false] rfl rfl (any_of HT_.out (by kernel_rfl)) (fun _ _ _ h => h) (Or.inl ⟨by rfl, ?_⟩) ?_ ?_
                                                                              rotate_left
                                                                              · intro w'
                                                                                go_simp
                                                                                with_reducible rfl
                                                                              rotate_left
                                                                              · simp only [Act.put, List.setIfInBounds_toArray, List.set_cons_zero, List.set_cons_succ, i64_w, i32_w]
                                                                                rfl
                                                                              refine pure_ (i := 6) (N := some 121) (v := ?_) (a' := ?_) #[true, true, true, false, true, true, true, false, false, false, false, false, false, false, false, false, false] rfl rfl (any_of HT_.out (by kernel_rfl)) (fun _ _ _ h => h) (Or.inl ⟨by rfl, ?_⟩) ?_ ?_
                                                                              rotate_left
                                                                              · intro w'
                                                                                go_simp
                                                                                with_reducible rfl
                                                                              rotate_left
                                                                              · simp only [Act.put, List.setIfInBounds_toArray, List.set_cons_zero, List.set_cons_succ, i64_w, i32_w]
                                                                                rfl
                                                                              refine pure_ (i := 9) (N := some 124) (v := ?_) (a' := ?_) #[true, true, true, false, true, true, true, false, false, true, false, false, false, false, false, false, false] rfl rfl (any_of HT_.out (by kernel_rfl)) (fun _ _ _ h => h) (Or.inl ⟨by rfl, ?_⟩) ?_ ?_
                                                                              rotate_left
                                                                              · intro w'
                                                                                go_simp
                                                                                with_reducible rfl
                                                                              rotate_left
                                                                              · simp only [Act.put, List.setIfInBounds_toArray, List.set_cons_zero, List.set_cons_succ, i64_w, i32_w]
                                                                                rfl
                                                                              refine pure_ (i := 10) (N := some 125) (v := ?_) (a' := ?_) #[true, true, true, false, true, true, true, false, false, true, true, false, false, false, false, false, false] rfl rfl (any_of HT_.out (by kernel_rfl)) (fun _ _ _ h => h) (Or.inl ⟨by rfl, ?_⟩) ?_ ?_
                                                                              rotate_left
                                                                              · intro w'
                                                                                go_simp
                                                                                with_reducible rfl
                                                                              rotate_left
                                                                              · simp only [Act.put, List.setIfInBounds_toArray, List.set_cons_zero, List.set_cons_succ, i64_w, i32_w]
                                                                                rfl
                                                                              refine pure_ (i := 11) (N := some 126) (v := ?_) (a' := ?_) #[true, true, true, false, true, true, true, false, false, true, true, true, false, false, false, false, false] rfl rfl (any_of HT_.out (by kernel_rfl)) (fun _ _ _ h => h) (Or.inl ⟨by rfl, ?_⟩) ?_ ?_
                                                                              rotate_left
                                                                              · intro w'
                                                                                go_simp
                                                                                with_reducible rfl
                                                                              rotate_left
                                                                              · simp only [Act.put, List.setIfInBounds_toArray, List.set_cons_zero, List.set_cons_succ, i64_w, i32_w]
                                                                                rfl
                                                                              refine pure_ (i := 12) (N := some 127) (v := ?_) (a' := ?_) #[true, true, true, false, true, true, true, false, false, true, true, true, true, false, false, false, false] rfl rfl (any_of HT_.out (by kernel_rfl)) (fun _ _ _ h => h) (Or.inl ⟨by rfl, ?_⟩) ?_ ?_
                                                                              rotate_left
                                                                              · intro w'
                                                                                go_simp
                                                                                with_reducible rfl
                                                                              rotate_left
                                                                              · simp only [Act.put, List.setIfInBounds_toArray, List.set_cons_zero, List.set_cons_succ, i64_w, i32_w]
                                                                                rfl
                                                                              refine pure_ (i := 13) (N := some 128) (v := ?_) (a' := ?_) #[true, true, true, false, true, true, true, false, false, true, true, true, true, true, false, false, false] rfl rfl (any_of HT_.out (by kernel_rfl)) (fun _ _ _ h => h) (Or.inl ⟨by rfl, ?_⟩) ?_ ?_
                                                                              rotate_left
                                                                              · intro w'
                                                                                go_simp
                                                                                with_reducible rfl
                                                                              rotate_left
                                                                              · simp only [Act.put, List.setIfInBounds_toArray, List.set_cons_zero, List.set_cons_succ, i64_w, i32_w]
                                                                                rfl
                                                                              refine take_ (i := 3) (N := some 118) (v := ?_) (a' := ?_) #[true, true, true, true, true, true, true, false, false, true, true, true, true, true, false, false, false] rfl rfl (take_ofW HT_.out HW_.out (by kernel_rfl)) (fun _ _ _ h => h) (Or.inl ⟨by rfl, ?_⟩) hHeld ?_ ?_
                                                                              rotate_left
                                                                              · rintro w' ⟨s0, s1, s2⟩
                                                                                go_simp
                                                                                with_reducible rfl
                                                                              rotate_left
                                                                              · simp only [Act.put, List.setIfInBounds_toArray, List.set_cons_zero, List.set_cons_succ, i64_w, i32_w]
                                                                                rfl
                                                                              refine take_ (i := 7) (N := some 122) (v := ?_) (a' := ?_) #[true, true, true, true, true, true, true, true, false, true, true, true, true, true, false, false, false] rfl rfl (take_ofW HT_.out HW_.out (by kernel_rfl)) (fun _ _ _ h => h) (Or.inl ⟨by rfl, ?_⟩) hHeld ?_ ?_
                                                                              rotate_left
                                                                              · rintro w' ⟨s0, s1, s2⟩
                                                                                go_simp
                                                                                with_reducible rfl
                                                                              rotate_left
                                                                              · simp only [Act.put, List.setIfInBounds_toArray, List.set_cons_zero, List.set_cons_succ, i64_w, i32_w]
                                                                                rfl
                                                                              refine pure_ (i := 8) (N := some 123) (v := ?_) (a' := ?_) #[true, true, true, true, true, true, true, true, true, true, true, true, true, true, false, false, false] rfl rfl (any_of HT_.out (by kernel_rfl)) (fun _ _ _ h => h) (Or.inl ⟨by rfl, ?_⟩) ?_ ?_
                                                                              rotate_left
                                                                              · intro w'
                                                                                go_simp
                                                                                with_reducible rfl
                                                                              rotate_left
                                                                              · simp only [Act.put, List.setIfInBounds_toArray, List.set_cons_zero, List.set_cons_succ, i64_w, i32_w]
                                                                                rfl
                                                                              refine take_ (i := 14) (N := some 129) (v := ?_) (a' := ?_) #[true, true, true, true, true, true, true, true, true, true, true, true, true, true, true, false, false] rfl rfl (take_ofW HT_.out HW_.out (by kernel_rfl)) (fun _ _ _ h => h) (Or.inl ⟨by rfl, ?_⟩) hHeld ?_ ?_
                                                                              rotate_left
                                                                              · rintro w' ⟨s0, s1, s2⟩
                                                                                go_simp
                                                                                with_reducible rfl
                                                                              rotate_left
                                                                              · simp only [Act.put, List.setIfInBounds_toArray, List.set_cons_zero, List.set_cons_succ, i64_w, i32_w]
                                                                                rfl
                                                                              refine pure_ (i := 15) (N := some 130) (v := ?_) (a' := ?_) #[true, true, true, true, true, true, true, true, true, true, true, true, true, true, true, true, false] rfl rfl (any_of HT_.out (by kernel_rfl)) (fun _ _ _ h => h) (Or.inl ⟨by rfl, ?_⟩) ?_ ?_
                                                                              rotate_left
                                                                              · intro w'
                                                                                go_simp
                                                                                with_reducible rfl
                                                                              rotate_left
                                                                              · simp only [Act.put, List.setIfInBounds_toArray, List.set_cons_zero, List.set_cons_succ, i64_w, i32_w]
                                                                                rfl
                                                                              refine pure_ (i := 16) (N := some 23) (v := ?_) (a' := ?_) #[true, true, true, true, true, true, true, true, true, true, true, true, true, true, true, true, true] rfl rfl (any_of HT_.out (by kernel_rfl)) (fun _ _ _ h => h) (Or.inl ⟨by rfl, ?_⟩) ?_ ?_
                                                                              rotate_left
                                                                              · intro w'
                                                                                go_simp
                                                                                with_reducible rfl
                                                                              rotate_left
                                                                              · simp only [Act.put, List.setIfInBounds_toArray, List.set_cons_zero, List.set_cons_succ, i64_w, i32_w]
                                                                                rfl
                                                                              refine done_ (done_of HT_.out (by kernel_rfl)) ?_
                                                                              have p236 : 0 ≤ (x18_3 : Int) := of_decide_eq_true (by first | (with_reducible assumption) | assumption)
                                                                              have q236 : x18_3 < (x16_6.length : Int) := of_decide_eq_true (by first | (with_reducible assumption) | assumption)
                                                                              obtain ⟨ad236, e236, hx236_0⟩ := Kd.at_int (Kd.R_reads' HO_16.out).2.2 x18_3 p236 q236
                                                                              obtain rfl : (⟨go37, 0, none⟩ : Addr) = ad236 := (by injection e236)
                                                                              (first | simp only [add_plain] at hx236_0 | simp only [add_at] at hx236_0 | simp only [Addr.add, Nat.zero_add] at hx236_0 | skip)
                                                                              replace p236 := eq_true p236
                                                                              replace q236 := eq_true q236
                                                                              have p239 : 0 ≤ (x18_3 : Int) := of_decide_eq_true (by first | (with_reducible assumption) | assumption)
                                                                              have q239 : x18_3 < (x16_6.length : Int) := of_decide_eq_true (by first | (with_reducible assumption) | assumption)
                                                                              obtain ⟨ad239, e239, hx239_0⟩ := Kd.at_int (Kd.R_reads' HO_16.out).2.2 x18_3 p239 q239
                                                                              obtain rfl : (⟨go37, 0, none⟩ : Addr) = ad239 := (by injection e239)
                                                                              (first | simp only [add_plain] at hx239_0 | simp only [add_at] at hx239_0 | simp only [Addr.add, Nat.zero_add] at hx239_0 | skip)
                                                                              replace p239 := eq_true p239
                                                                              replace q239 := eq_true q239
                                                                              try go_wp2
                                                                              (try simp only [← hl16_6, ← hl17_6])
                                                                              go_roundg k6
                                                                              case measure => have := HJ4.out; have := HJ10.out; have := HK3.out; have := HK4.out; have := HJ42.out; have := HK6.out; omega
                                                                              case rel => exact ⟨(x16_6), (x17_6), (x19_6), (wrap64 (x22_6 + 1)), (by first | rfl | (simp; done) | (simp [*]; done)), (by first | rfl | (simp; done) | (simp [*]; done)), H', ⟨by have := HJ4.out; have := HJ10.out; have := HK3.out; have := HK4.out; have := HJ42.out; have := HK6.out; omega⟩, ⟨by (try simp only [hl16_4]); (try simp only [hl17_4]); (try simp only [hl16_6]); (try simp only [hl17_6]); (with_reducible repeat (first | apply Kd.R_alloc | apply Kd.R_drewN | apply Kd.R_drew)); exact HO_14.out⟩, ⟨by (try simp only [hl16_4]); (try simp only [hl17_4]); (try simp only [hl16_6]); (try simp only [hl17_6]); (with_reducible repeat (first | apply Kd.R_alloc | apply Kd.R_drewN | apply Kd.R_drew)); exact HO_15.out⟩, ⟨by (try simp only [hl16_4]); (try simp only [hl17_4]); (try simp only [hl16_6]); (try simp only [hl17_6]); (with_reducible repeat (first | apply Kd.R_alloc | apply Kd.R_drewN | apply Kd.R_drew)); exact HO_16.out⟩, ⟨by (try simp only [hl16_4]); (try simp only [hl17_4]); (try simp only [hl16_6]); (try simp only [hl17_6]); (with_reducible repeat (first | apply Kd.R_alloc | apply Kd.R_drewN | apply Kd.R_drew)); exact HO_17.out⟩, ⟨by repeat (first | (with_reducible first | exact HB.out | apply below_alloc | apply pw_below_drewN | apply below_drew1) | exact HB.out)⟩⟩
                                                                        · rw [if_neg c56] at H
                                                                          exact absurd H (by simp)
                                                                      · rw [if_neg c55] at H
                                                                        exact absurd H (by simp)
                                                                    · rw [if_neg c54] at H
                                                                      exact absurd H (by simp)
                                                                  · rw [if_neg c53] at H
                                                                    exact absurd H (by simp)
                                                                · rw [if_neg c51] at H
                                                                  exact absurd H (by simp)
                                                              · rw [if_neg c50] at H
                                                                exact absurd H (by simp)
                                                            · rw [if_neg c49] at H
                                                              exact absurd H (by simp)
                                                          · rw [if_neg c48] at H
                                                            exact absurd H (by simp)
                                                        · rw [if_neg c47] at H
                                                          have c47b0 : decide (x22_6 ≤ t232) = false := decide_eq_false c47
                                                          clear c47
                                                          have H' := Aside0.mk H
                                                          clear H
                                                          go_wp2
                                                          (try simp only [← hl16_4, ← hl17_4, ← hl16_6, ← hl17_6])
                                                          go_roundg k6
                                                          case measure => have := HJ4.out; have := HJ10.out; have := HK3.out; have := HK4.out; have := HJ42.out; have := HK6.out; omega
                                                          case rel => exact ⟨(x16_6), (x17_6), (x19_6), (wrap64 (x20_4 + 1)), (by first | rfl | (simp; done) | (simp [*]; done)), (by first | rfl | (simp; done) | (simp [*]; done)), H', ⟨by have := HJ4.out; have := HJ10.out; have := HK3.out; have := HK4.out; have := HJ42.out; have := HK6.out; omega⟩, ⟨by (try simp only [hl16_4]); (try simp only [hl17_4]); (try simp only [hl16_6]); (try simp only [hl17_6]); (with_reducible repeat (first | apply Kd.R_alloc | apply Kd.R_drewN | apply Kd.R_drew)); exact HO_14.out⟩, ⟨by (try simp only [hl16_4]); (try simp only [hl17_4]); (try simp only [hl16_6]); (try simp only [hl17_6]); (with_reducible repeat (first | apply Kd.R_alloc | apply Kd.R_drewN | apply Kd.R_drew)); exact HO_15.out⟩, ⟨by (try simp only [hl16_4]); (try simp only [hl17_4]); (try simp only [hl16_6]); (try simp only [hl17_6]); (with_reducible repeat (first | apply Kd.R_alloc | apply Kd.R_drewN | apply Kd.R_drew)); exact HO_16.out⟩, ⟨by (try simp only [hl16_4]); (try simp only [hl17_4]); (try simp only [hl16_6]); (try simp only [hl17_6]); (with_reducible repeat (first | apply Kd.R_alloc | apply Kd.R_drewN | apply Kd.R_drew)); exact HO_17.out⟩, ⟨by repeat (first | (with_reducible first | exact HB.out | apply below_alloc | apply pw_below_drewN | apply below_drew1) | exact HB.out)⟩⟩
                                                  · replace c45 := Bool.eq_false_iff.mpr c45
                                                    subst c45
                                                    have H1 : (valiseref21_Cheapest.l0 kj42 l0 a1 l2 (l0.length : Int) t214 t215 x16_4 x17_4 (wrap64 (x18_3 - 1))) = some (r1, r2) := by rw [if_neg (show ¬ (false = true) by decide)] at H; exact H
                                                    clear H
                                                    have H := H1
                                                    clear H1
                                                    have H' := Aside0.mk H
                                                    clear H
                                                    go_wp2
                                                    (try simp only [← hl16_4, ← hl17_4])
                                                    go_roundg kj42
                                                    case measure => have := HJ4.out; have := HJ10.out; have := HK3.out; have := HK4.out; have := HJ42.out; omega
                                                    case rel => exact ⟨(x16_4), (x17_4), (wrap64 (x18_3 - 1)), (by first | rfl | (simp; done) | (simp [*]; done)), H', ⟨by have := HJ4.out; have := HJ10.out; have := HK3.out; have := HK4.out; have := HJ42.out; omega⟩, ⟨by (try simp only [hl16_4]); (try simp only [hl17_4]); (with_reducible repeat (first | apply Kd.R_alloc | apply Kd.R_drewN | apply Kd.R_drew)); exact HO_14.out⟩, ⟨by (try simp only [hl16_4]); (try simp only [hl17_4]); (with_reducible repeat (first | apply Kd.R_alloc | apply Kd.R_drewN | apply Kd.R_drew)); exact HO_15.out⟩, ⟨by (try simp only [hl16_4]); (try simp only [hl17_4]); (with_reducible repeat (first | apply Kd.R_alloc | apply Kd.R_drewN | apply Kd.R_drew)); exact HO_16.out⟩, ⟨by (try simp only [hl16_4]); (try simp only [hl17_4]); (with_reducible repeat (first | apply Kd.R_alloc | apply Kd.R_drewN | apply Kd.R_drew)); exact HO_17.out⟩, ⟨by repeat (first | (with_reducible first | exact HB.out | apply below_alloc | apply pw_below_drewN | apply below_drew1) | exact HB.out)⟩⟩
                                        · rw [if_neg c36] at H
                                          exact absurd H (by simp)
                                      · rw [if_neg c35] at H
                                        exact absurd H (by simp)
                                    · rw [if_neg c34] at H
                                      exact absurd H (by simp)
                                  · rw [if_neg c32] at H
                                    exact absurd H (by simp)
                                · rw [if_neg c31] at H
                                  exact absurd H (by simp)
                              · rw [if_neg c28] at H
                                exact absurd H (by simp)
                            · rw [if_neg c27] at H
                              exact absurd H (by simp)
                          · rw [if_neg c26] at H
                            exact absurd H (by simp)
                        · rw [if_neg c25] at H
                          have c25b0 : decide (0 ≤ x18_3) = false := decide_eq_false c25
                          clear c25
                          have H' := Aside0.mk H
                          clear H
                          go_wp2
                          go_loopg [24, 25] k3 (fun kq v24 v25 w' => ∃ (x24_4 : List (S56)) (x25_4 : Int), v25 = .int .i64 x25_4 ∧ Aside0 (valiseref21_Cheapest.l3 kq (l0.length : Int) x17_3 x24_4 x25_4 = some (r1, r2)) ∧ Aside0 (kq ≤ k3) ∧ Aside0 (Kd.R k56 56 w' w.heap.size (fun k_ => some k_ ≠ (v24 : Value).ownBlock) v224 x17_3) ∧ Aside0 (Kd.R k56 56 w' w.heap.size (fun k_ => some k_ ≠ (v224 : Value).ownBlock) v24 x24_4) ∧ Aside0 (Below w.heap.size w w'))
                          case atStart => exact ⟨(([] : List (S56))), (0), (by first | rfl | (simp; done) | (simp [*]; done)), H', ⟨Nat.le_refl _⟩, ⟨by (with_reducible repeat (first | apply Kd.R_alloc | apply Kd.R_drewN | apply Kd.R_drew)); exact Kd.R_mono HO_17.out (fun _ hk => (by simp [Value.ownBlock]))⟩, ⟨by first | exact Kd.R_nil _ _ _ _ _ | exact Kd.N_nil _ _ _ _ _ | exact Kd.V_nil _ _ _ _ _ | exact Kd.Q_nil _ _ _ _ _ | exact Kd.S_nil _ _ _ _ _⟩, ⟨by repeat (first | (with_reducible first | exact HB.out | apply below_alloc | apply pw_below_drewN | apply below_drew1) | exact HB.out)⟩⟩
                          case round =>
                            clear H'
                            try clear c2
                            try clear p2
                            try clear q2
                            try clear hx2
                            try clear c3
                            try clear c4
                            try clear c5
                            try clear c6
                            try clear p6
                            try clear c7
                            try clear p7
                            try clear q7
                            try clear hx7
                            try clear hf7
                            try clear p23
                            try clear q23
                            try clear hx23
                            try clear c25
                            try clear c25b0
                            try clear c26
                            try clear c27
                            try clear c28
                            try clear c31
                            try clear c32
                            try clear c34
                            try clear c35
                            try clear c36
                            try clear c45
                            try clear c47
                            try clear c47b0
                            try clear c48
                            try clear c49
                            try clear c50
                            try clear c51
                            try clear c53
                            try clear c54
                            try clear c55
                            try clear c56
                            try clear p64
                            try clear c68
                            try clear c68b0
                            try clear c68b1
                            try clear c69
                            try clear c69b0
                            try clear p70
                            try clear q70
                            try clear hx70
                            try clear hf70
                            try clear c71
                            try clear c72
                            try clear p72
                            try clear q72
                            try clear hx72
                            try clear hf72
                            try clear c78
                            try clear hx78
                            try clear hf78
                            try clear hx233_0
                            try clear hx234_0
                            try clear hx235_0
                            try clear hx236_0
                            try clear hx239_0
                            try clear hx70_0
                            try clear hx72_0
                            try clear hx72_1
                            try clear hx72_2
                            try clear hx78_0
                            try clear hx78_1
                            try clear hx78_2
                            try clear p233
                            try clear p234
                            try clear p235
                            try clear p236
                            try clear p239
                            try clear p70
                            try clear p72
                            try clear q233
                            try clear q234
                            try clear q235
                            try clear q236
                            try clear q239
                            try clear q70
                            try clear q72
                            obtain ⟨x24_4, x25_4, rfl, HA, HK4, HO_17, HO_24, HB⟩ := hrel
                            cases gk with
                            | zero => exact absurd HA.out (by simp [valiseref21_Cheapest.l3])
                            | succ k4 =>
                              have H := HA.out
                              clear HA
                              simp only [valiseref21_Cheapest.l3] at H
                              by_cases c86 : x25_4 < (l0.length : Int)
                              · rw [if_pos c86] at H
                                have c86b0 : decide (x25_4 < (l0.length : Int)) = true := decide_eq_true c86
                                clear c86
                                by_cases c87 : 0 ≤ x25_4
                                · rw [if_pos c87] at H
                                  have c87b0 : decide (0 ≤ x25_4) = true := decide_eq_true c87
                                  clear c87
                                  by_cases c88 : x25_4 < (x17_3.length : Int)
                                  · rw [if_pos c88] at H
                                    have c88b0 : decide (x25_4 < (x17_3.length : Int)) = true := decide_eq_true c88
                                    clear c88
                                    by_cases c89 : x24_4.length < 5864062014805
                                    · rw [if_pos c89] at H
                                      have LMc89 := Aside0.mk c89
                                      clear c89
                                      obtain ⟨y243, hy243⟩ : ∃ y_ : List (S56), y_ = (x24_4 ++ [(⟨(rd_T56 x17_3 x25_4).f0, (rd_T56 x17_3 x25_4).f1, (rd_T56 x17_3 x25_4).f2⟩ : S56)]) := ⟨_, rfl⟩
                                      replace H : (if ((rd_T56 x17_3 x25_4).f0) = 0 then (valiseref21_Cheapest.l3 k4 (l0.length : Int) x17_3 y243 (wrap64 (x25_4 + 1))) else (valiseref21_Cheapest.l3 k4 (l0.length : Int) x17_3 y243 (wrap64 (x25_4 + ((rd_T56 x17_3 x25_4).f0))))) = some (r1, r2) := by first | (rw [hy243]; with_reducible exact H) | (have H2_ := (Option.bind_some _ _).symm.trans H; rw [hy243]; with_reducible exact H2_) | (have H2_ := (Option.bind_some _ _).symm.trans H; with_reducible exact H2_) | with_reducible exact H | (rw [hy243]; exact H) | exact H
                                      have Ny243 := Aside0.mk hy243
                                      clear hy243
                                      by_cases c90 : ((rd_T56 x17_3 x25_4).f0) = 0
                                      · rw [if_pos c90] at H
                                        have c90b0 : (((rd_T56 x17_3 x25_4).f0) == 0) = true := beq_iff_eq.mpr c90
                                        have c90b1 : (((rd_T56 x17_3 x25_4).f0) != 0) = false := bne_eq_false_iff_eq.mpr c90
                                        clear c90
                                        have H' := Aside0.mk H
                                        clear H
                                        obtain ⟨Ao91, co91, eo91⟩ := Kd.R_slice HO_17.out
                                        subst eo91
                                        have p242 : 0 ≤ (x25_4 : Int) := of_decide_eq_true (by first | (with_reducible assumption) | assumption)
                                        have q242 : x25_4 < (x17_3.length : Int) := of_decide_eq_true (by first | (with_reducible assumption) | assumption)
                                        obtain ⟨ad242, e242, hx242_0, hx242_1, hx242_2⟩ := at_T56 (Kd.R_reads' HO_17.out).2.2 x25_4 p242 q242
                                        cases e242
                                        replace p242 := eq_true p242
                                        replace q242 := eq_true q242
                                        go_wp2_with (first | ((with_reducible refine gate_builtin (b := .append) (xs := #[.tmp 164, .tmp 169]) rfl ?_); at_builtin; refine Kd.R_append k56 (w0 := w) w.heap.size rfl (.tmp 164) (.tmp 169) 35 56 (.agg #[(.int .i64 0), (.int .i64 0), (.int .u8 0)]) 24 rfl Tryd.underlying35 info56 rfl (by decide) (by omega) u24 x24_4 (⟨(rd_T56 x17_3 x25_4).f0, (rd_T56 x17_3 x25_4).f1, (rd_T56 x17_3 x25_4).f2⟩ : S56) [.int .i64 ((rd_T56 x17_3 x25_4).f0), .int .i64 ((rd_T56 x17_3 x25_4).f1), .int .u8 ((rd_T56 x17_3 x25_4).f2)] (fun k_ => some k_ ≠ (.slice (some ad242) x17_3.length co91 : Value).ownBlock) (fun _ => False) rfl rfl ?aP (fun _ hk => hk.elim) ?aF ?aO ?aB ?aS ?aL ?_; (case aP => exact k56_mkM _ _ _ (⟨(rd_T56 x17_3 x25_4).f0, (rd_T56 x17_3 x25_4).f1, (rd_T56 x17_3 x25_4).f2⟩ : S56)); (case aB => exact (by repeat (first | (with_reducible first | exact HB.out | apply below_alloc | apply pw_below_drewN | apply below_drew1) | exact HB.out))); (case aF => exact (fun k_ hk => Kd.fresh' (Kd.R_lt (by (with_reducible repeat (first | apply Kd.R_alloc | apply Kd.R_drewN | apply Kd.R_drew)); exact HO_17.out)) k_ hk)); (case aO => exact (by (with_reducible repeat (first | apply Kd.R_alloc | apply Kd.R_drewN | apply Kd.R_drew)); exact HO_24.out)); (case aS => exact (below_size (by repeat (first | (with_reducible first | exact HB.out | apply below_alloc | apply pw_below_drewN | apply below_drew1) | exact HB.out)))); (case aL => have := LMc89.out; omega); intro v244 w92 ho hb hg hat; rw [← Ny243.out] at ho; have n0_ := Aside0.mk (Kd.R_after (ok := (fun _ => True)) (by (with_reducible repeat (first | apply Kd.R_alloc | apply Kd.R_drewN | apply Kd.R_drew)); exact Kd.R_mono HO_17.out (fun _ hk => ⟨trivial, hk⟩)) hg hat); have n1_ := Aside0.mk (hb); have n2_ := Aside0.mk (ho); clear HO_17; clear HB; clear HO_24; have HO_17 := n0_; have HB := n1_; have HO245 := n2_; clear n0_ n1_ n2_; clear ho hb hg hat; have p246 : 0 ≤ (x25_4 : Int) := of_decide_eq_true (by first | (with_reducible assumption) | assumption); have q246 : x25_4 < (x17_3.length : Int) := of_decide_eq_true (by first | (with_reducible assumption) | assumption); obtain ⟨ad246, e246, hx246_0, hx246_1, hx246_2⟩ := at_T56 (Kd.R_reads' HO_17.out).2.2 x25_4 p246 q246; obtain rfl : ad242 = ad246 := (by injection e246); replace p246 := eq_true p246; replace q246 := eq_true q246))
                                        go_roundg k4
                                        case measure => have := HJ4.out; have := HJ10.out; have := HK3.out; have := HK4.out; omega
                                        case rel => exact ⟨(y243), (wrap64 (x25_4 + 1)), (by first | rfl | (simp; done) | (simp [*]; done)), H', ⟨by have := HJ4.out; have := HJ10.out; have := HK3.out; have := HK4.out; omega⟩, ⟨by (with_reducible repeat (first | apply Kd.R_alloc | apply Kd.R_drewN | apply Kd.R_drew)); exact Kd.R_mono HO_17.out (fun _ hk => hk.2)⟩, ⟨by (with_reducible repeat (first | apply Kd.R_alloc | apply Kd.R_drewN | apply Kd.R_drew)); exact HO245.out⟩, ⟨by repeat (first | (with_reducible first | exact HB.out | apply below_alloc | apply pw_below_drewN | apply below_drew1) | exact HB.out)⟩⟩
                                      · rw [if_neg c90] at H
                                        have c90b0 : (((rd_T56 x17_3 x25_4).f0) == 0) = false := beq_eq_false_iff_ne.mpr c90
                                        have c90b1 : (((rd_T56 x17_3 x25_4).f0) != 0) = true := bne_iff_ne.mpr c90
                                        have H' := Aside0.mk H
                                        clear H
                                        obtain ⟨Ao93, co93, eo93⟩ := Kd.R_slice HO_17.out
                                        subst eo93
                                        have p242 : 0 ≤ (x25_4 : Int) := of_decide_eq_true (by first | (with_reducible assumption) | assumption)
                                        have q242 : x25_4 < (x17_3.length : Int) := of_decide_eq_true (by first | (with_reducible assumption) | assumption)
                                        obtain ⟨ad242, e242, hx242_0, hx242_1, hx242_2⟩ := at_T56 (Kd.R_reads' HO_17.out).2.2 x25_4 p242 q242
                                        cases e242
                                        replace p242 := eq_true p242
                                        replace q242 := eq_true q242
                                        go_wp2_with (first | ((with_reducible refine gate_builtin (b := .append) (xs := #[.tmp 164, .tmp 169]) rfl ?_); at_builtin; refine Kd.R_append k56 (w0 := w) w.heap.size rfl (.tmp 164) (.tmp 169) 35 56 (.agg #[(.int .i64 0), (.int .i64 0), (.int .u8 0)]) 24 rfl Tryd.underlying35 info56 rfl (by decide) (by omega) u24 x24_4 (⟨(rd_T56 x17_3 x25_4).f0, (rd_T56 x17_3 x25_4).f1, (rd_T56 x17_3 x25_4).f2⟩ : S56) [.int .i64 ((rd_T56 x17_3 x25_4).f0), .int .i64 ((rd_T56 x17_3 x25_4).f1), .int .u8 ((rd_T56 x17_3 x25_4).f2)] (fun k_ => some k_ ≠ (.slice (some ad242) x17_3.length co93 : Value).ownBlock) (fun _ => False) rfl rfl ?aP (fun _ hk => hk.elim) ?aF ?aO ?aB ?aS ?aL ?_; (case aP => exact k56_mkM _ _ _ (⟨(rd_T56 x17_3 x25_4).f0, (rd_T56 x17_3 x25_4).f1, (rd_T56 x17_3 x25_4).f2⟩ : S56)); (case aB => exact (by repeat (first | (with_reducible first | exact HB.out | apply below_alloc | apply pw_below_drewN | apply below_drew1) | exact HB.out))); (case aF => exact (fun k_ hk => Kd.fresh' (Kd.R_lt (by (with_reducible repeat (first | apply Kd.R_alloc | apply Kd.R_drewN | apply Kd.R_drew)); exact HO_17.out)) k_ hk)); (case aO => exact (by (with_reducible repeat (first | apply Kd.R_alloc | apply Kd.R_drewN | apply Kd.R_drew)); exact HO_24.out)); (case aS => exact (below_size (by repeat (first | (with_reducible first | exact HB.out | apply below_alloc | apply pw_below_drewN | apply below_drew1) | exact HB.out)))); (case aL => have := LMc89.out; omega); intro v244 w94 ho hb hg hat; rw [← Ny243.out] at ho; have n0_ := Aside0.mk (Kd.R_after (ok := (fun _ => True)) (by (with_reducible repeat (first | apply Kd.R_alloc | apply Kd.R_drewN | apply Kd.R_drew)); exact Kd.R_mono HO_17.out (fun _ hk => ⟨trivial, hk⟩)) hg hat); have n1_ := Aside0.mk (hb); have n2_ := Aside0.mk (ho); clear HO_17; clear HB; clear HO_24; have HO_17 := n0_; have HB := n1_; have HO245 := n2_; clear n0_ n1_ n2_; clear ho hb hg hat; have p246 : 0 ≤ (x25_4 : Int) := of_decide_eq_true (by first | (with_reducible assumption) | assumption); have q246 : x25_4 < (x17_3.length : Int) := of_decide_eq_true (by first | (with_reducible assumption) | assumption); obtain ⟨ad246, e246, hx246_0, hx246_1, hx246_2⟩ := at_T56 (Kd.R_reads' HO_17.out).2.2 x25_4 p246 q246; obtain rfl : ad242 = ad246 := (by injection e246); replace p246 := eq_true p246; replace q246 := eq_true q246; have p247 : 0 ≤ (x25_4 : Int) := of_decide_eq_true (by first | (with_reducible assumption) | assumption); have q247 : x25_4 < (x17_3.length : Int) := of_decide_eq_true (by first | (with_reducible assumption) | assumption); obtain ⟨ad247, e247, hx247_0, hx247_1, hx247_2⟩ := at_T56 (Kd.R_reads' HO_17.out).2.2 x25_4 p247 q247; obtain rfl : ad242 = ad247 := (by injection e247); replace p247 := eq_true p247; replace q247 := eq_true q247))
                                        go_roundg k4
                                        case measure => have := HJ4.out; have := HJ10.out; have := HK3.out; have := HK4.out; omega
                                        case rel => exact ⟨(y243), (wrap64 (x25_4 + ((rd_T56 x17_3 x25_4).f0))), (by first | rfl | (simp; done) | (simp [*]; done)), H', ⟨by have := HJ4.out; have := HJ10.out; have := HK3.out; have := HK4.out; omega⟩, ⟨by (with_reducible repeat (first | apply Kd.R_alloc | apply Kd.R_drewN | apply Kd.R_drew)); exact Kd.R_mono HO_17.out (fun _ hk => hk.2)⟩, ⟨by (with_reducible repeat (first | apply Kd.R_alloc | apply Kd.R_drewN | apply Kd.R_drew)); exact HO245.out⟩, ⟨by repeat (first | (with_reducible first | exact HB.out | apply below_alloc | apply pw_below_drewN | apply below_drew1) | exact HB.out)⟩⟩
                                    · rw [if_neg c89] at H
                                      exact absurd H (by simp)
                                  · rw [if_neg c88] at H
                                    exact absurd H (by simp)
                                · rw [if_neg c87] at H
                                  exact absurd H (by simp)
                              · rw [if_neg c86] at H
                                have c86b0 : decide (x25_4 < (l0.length : Int)) = false := decide_eq_false c86
                                clear c86
                                simp only [Option.some.injEq, Prod.mk.injEq] at H
                                obtain ⟨rfl, rfl⟩ := H
                                go_wp2
                                go_ret2
                                exact ⟨_, by first | rfl | (simp [errW_none, errW_some] <;> rfl) | (simp only [← hji14, ← hji16]; first | rfl | (simp [errW_none, errW_some] <;> rfl)) | (simp [*, errW_none, errW_some] <;> rfl), by (with_reducible repeat (first | apply Kd.R_alloc | apply Kd.R_drewN | apply Kd.R_drew)); exact Kd.R_mono HO_24.out (fun _ hk => trivial), by repeat (first | (with_reducible first | exact HB.out | apply below_alloc | apply pw_below_drewN | apply below_drew1) | exact HB.out)⟩
                  · rw [if_neg c19] at H
                    exact absurd H (by simp)
                · rw [if_neg c18] at H
                  exact absurd H (by simp)
              · rw [if_neg c17] at H
                exact absurd H (by simp)

end Go.Proofs.YtpndhoefmepfdaaDoor.PSq
