-- WRITTEN BY myprint.py (this claim's own program, over the kit's printer): Lean checks it.
import Derived.BigQuiet
import Derived.IntWalk
import Derived.Test.YtpndhoefmepfdaaDoorPSqgC
import Derived.Test.YtpndhoefmepfdaaDoorPSqx0
import Derived.Test.YtpndhoefmepfdaaDoorPSqx1
namespace Go.Proofs.YtpndhoefmepfdaaDoor.PSq
open Go.RowKit Go.Proofs.YtpndhoefmepfdaaDoorW.PrintWords Go.Proofs.YtpndhoefmepfdaaDoorW.PrintLast Go.Proofs.YtpndhoefmepfdaaDoorW.PrintMore
open Go.Proofs.YtpndhoefmepfdaaDoor.More Go.Proofs.YtpndhoefmepfdaaDoor.TS
attribute [local go_sem] max2_int min2_int max_two min_two max_three min_three max_four min_four   -- for this text's walks alone
set_option linter.unusedVariables false
set_option linter.unusedSimpArgs false

/-! ### valiseref10_DistOf: function 48 -/
def valiseref10_DistOf.f (k : Nat) (a0 : Int) (a1 : Int) : Option (Int × Int) := if a0 < 0 then (some (0, 1)) else (if a0 > 29 then (some (0, 1)) else (if a1 < 0 then (some (0, 1)) else ((valiseref10_distBits.f a0).bind fun t190 => (if 0 ≤ (IntKind.u64.wrap (t190)) then (if a1 ≥ (shl .i64 1 (IntKind.u64.wrap (t190))) then (some (0, 1)) else ((valiseref10_distBase.f k a0).bind fun t191 => (some (wrap64 (t191 + a1), 0)))) else (none)))))
theorem valiseref10_DistOf.mono : ∀ a0 a1 k, LeO (valiseref10_DistOf.f k a0 a1) (valiseref10_DistOf.f (k + 1) a0 a1) := by
  intro a0 a1 k
  unfold valiseref10_DistOf.f
  repeat' first
      | (with_reducible exact valiseref10_distBase.mono _ _)
      | (with_reducible exact LeO.refl _)
      | (with_reducible exact LeO.none _)
      | (with_reducible refine LeO.ite ?_ ?_)
      | (with_reducible refine LeO.bind ?_ (fun _ => ?_))
      | exact valiseref10_distBase.mono _ _
      | exact LeO.none _
      | refine LeO.ite ?_ ?_
      | refine LeO.bind ?_ (fun _ => ?_)
set_option maxHeartbeats 8000000 in
set_option maxRecDepth 100000 in
theorem valiseref10_DistOf.calls (k : Nat) (a0 : Int) (a1 : Int) (r1 : Int) (r2 : Int) (w : World) (h : valiseref10_DistOf.f k a0 a1 = some (r1, r2)) :
    Calls Tryd.prog 48 #[.int .i64 a0, .int .i64 a1] w fun e w' => e = .returned (.tuple #[.int .i64 r1, .int .i64 r2]) ∧ Drawn0 w w' := by
  have H : (if a0 < 0 then (some (0, 1)) else (if a0 > 29 then (some (0, 1)) else (if a1 < 0 then (some (0, 1)) else ((valiseref10_distBits.f a0).bind fun t190 => (if 0 ≤ (IntKind.u64.wrap (t190)) then (if a1 ≥ (shl .i64 1 (IntKind.u64.wrap (t190))) then (some (0, 1)) else ((valiseref10_distBase.f k a0).bind fun t191 => (some (wrap64 (t191 + a1), 0)))) else (none)))))) = some (r1, r2) := h
  clear h
  by_cases c3 : a0 < 0
  · rw [if_pos c3] at H
    have c3b0 : decide (a0 < 0) = true := decide_eq_true c3
    clear c3
    simp only [Option.some.injEq, Prod.mk.injEq] at H
    obtain ⟨rfl, rfl⟩ := H
    go_enter Tryd.func48, Tryd.ntmps48
    go_wp2
    go_ret2
    exact ⟨by first | rfl | (simp; done) | (simp [*]; done), by repeat (first | exact Drawn0.refl _ | apply Drawn0.step)⟩
  · rw [if_neg c3] at H
    have c3b0 : decide (a0 < 0) = false := decide_eq_false c3
    clear c3
    by_cases c4 : a0 > 29
    · rw [if_pos c4] at H
      have c4b0 : decide (29 < a0) = true := decide_eq_true c4
      clear c4
      simp only [Option.some.injEq, Prod.mk.injEq] at H
      obtain ⟨rfl, rfl⟩ := H
      go_enter Tryd.func48, Tryd.ntmps48
      go_wp2
      go_ret2
      exact ⟨by first | rfl | (simp; done) | (simp [*]; done), by repeat (first | exact Drawn0.refl _ | apply Drawn0.step)⟩
    · rw [if_neg c4] at H
      have c4b0 : decide (29 < a0) = false := decide_eq_false c4
      clear c4
      by_cases c5 : a1 < 0
      · rw [if_pos c5] at H
        have c5b0 : decide (a1 < 0) = true := decide_eq_true c5
        clear c5
        simp only [Option.some.injEq, Prod.mk.injEq] at H
        obtain ⟨rfl, rfl⟩ := H
        go_enter Tryd.func48, Tryd.ntmps48
        go_wp2
        go_ret2
        exact ⟨by first | rfl | (simp; done) | (simp [*]; done), by repeat (first | exact Drawn0.refl _ | apply Drawn0.step)⟩
      · rw [if_neg c5] at H
        have c5b0 : decide (a1 < 0) = false := decide_eq_false c5
        clear c5
        replace H := Option.bind_eq_some_iff.mp H
        obtain ⟨t190, A60, H⟩ := H
        replace H : (if 0 ≤ (IntKind.u64.wrap (t190)) then (if a1 ≥ (shl .i64 1 (IntKind.u64.wrap (t190))) then (some (0, 1)) else ((valiseref10_distBase.f k a0).bind fun t191 => (some (wrap64 (t191 + a1), 0)))) else (none)) = some (r1, r2) := H
        have A6 := Aside0.mk A60
        clear A60
        obtain ⟨ji7, hji7⟩ : ∃ j_ : Int, (IntKind.u64.wrap (t190)) = j_ := ⟨_, rfl⟩
        replace H : (if 0 ≤ (ji7) then (if a1 ≥ (shl .i64 1 (ji7)) then (some (0, 1)) else ((valiseref10_distBase.f k a0).bind fun t191 => (some (wrap64 (t191 + a1), 0)))) else (none)) = some (r1, r2) := by first | (rw [hji7] at H; exact H) | (simp only [hji7] at H ⊢; exact H)
        (try rw [hji7] at A6)
        by_cases c8 : 0 ≤ (ji7)
        · rw [if_pos c8] at H
          have c8b0 := eq_true c8
          have c8b1 : decide (0 ≤ (ji7)) = true := decide_eq_true c8
          clear c8
          obtain ⟨ji9, hji9⟩ : ∃ j_ : Int, (shl .i64 1 (ji7)) = j_ := ⟨_, rfl⟩
          replace H : (if a1 ≥ (ji9) then (some (0, 1)) else ((valiseref10_distBase.f k a0).bind fun t191 => (some (wrap64 (t191 + a1), 0)))) = some (r1, r2) := by first | (rw [hji9] at H; exact H) | (simp only [hji9] at H ⊢; exact H)
          (try rw [hji9] at A6)
          have hji9_ : (IntKind.i64.wrap (1 * 2 ^ min (ji7).toNat 64)) = ji9 := hji9
          have hji9z : (ji7) ≤ 64 → (IntKind.i64.wrap (1 * 2 ^ (ji7).toNat)) = ji9 := shl_small hji9
          have hji9u : (IntKind.i64.wrap (2 ^ min (ji7).toNat 64)) = ji9 := by have h_ := hji9_; rw [Int.one_mul] at h_; exact h_
          have hji9v : (ji7) ≤ 64 → (IntKind.i64.wrap (2 ^ (ji7).toNat)) = ji9 := fun hle_ => by have h_ := hji9z hle_; rw [Int.one_mul] at h_; exact h_
          have hji9y : (wrap64 (1 * 2 ^ min (ji7).toNat 64)) = ji9 := (i64_w _).symm.trans hji9_
          have hji9x : (ji7) ≤ 64 → (wrap64 (1 * 2 ^ (ji7).toNat)) = ji9 := fun h_ => (i64_w _).symm.trans (hji9z h_)
          by_cases c10 : a1 ≥ (ji9)
          · rw [if_pos c10] at H
            have c10b0 : decide ((ji9) ≤ a1) = true := decide_eq_true c10
            clear c10
            simp only [Option.some.injEq, Prod.mk.injEq] at H
            obtain ⟨rfl, rfl⟩ := H
            go_enter Tryd.func48, Tryd.ntmps48
            go_wp2_with (first | (go_at_call 56; (with_reducible refine (valiseref10_distBits.calls a0 t190 _ A6.out).mono ?_); rintro e w' ⟨rfl, ⟨nd, rfl⟩⟩))
            go_ret2
            exact ⟨by first | rfl | (simp; done) | (simp only [← hji7, ← hji9] <;> (first | rfl | simp)) | (simp [*]; done), by repeat (first | exact Drawn0.refl _ | apply Drawn0.step)⟩
          · rw [if_neg c10] at H
            have c10b0 : decide ((ji9) ≤ a1) = false := decide_eq_false c10
            clear c10
            replace H := Option.bind_eq_some_iff.mp H
            obtain ⟨t191, A110, H⟩ := H
            replace H : (some (wrap64 (t191 + a1), 0)) = some (r1, r2) := H
            have A11 := Aside0.mk A110
            clear A110
            simp only [Option.some.injEq, Prod.mk.injEq] at H
            obtain ⟨rfl, rfl⟩ := H
            go_enter Tryd.func48, Tryd.ntmps48
            go_wp2_with (first | (go_at_call 56; (with_reducible refine (valiseref10_distBits.calls a0 t190 _ A6.out).mono ?_); rintro e w' ⟨rfl, ⟨nd, rfl⟩⟩) | ((with_reducible refine gate_callee (f := 55) rfl ?_); refine goesL_ (some 25) rfl rfl Tryd.func55 (by kernel_rfl) rfl #[.int .i64 a0] rfl (by (try simp only [List.map_toArray, List.map_cons, List.map_nil]); first | done | rfl | (simp only [List.length_drop, List.length_take]; rfl)) ?_; (with_reducible refine (valiseref10_distBase.calls k a0 t191 _ A11.out).mono ?_); rintro e w' ⟨rfl, ⟨nd, rfl⟩⟩; refine ⟨_, rfl, ?_⟩))
            go_ret2
            exact ⟨by first | rfl | (simp; done) | (simp only [← hji7, ← hji9] <;> (first | rfl | simp)) | (simp [*]; done), by repeat (first | exact Drawn0.refl _ | apply Drawn0.step)⟩
        · rw [if_neg c8] at H
          exact absurd H (by simp)

/-! ### valiseref21_table: function 40 -/
mutual
def valiseref21_table.l0 : Nat → List Int → List Int → Int → List Int → Int → Option (List Int × List Int)
  | 0, _, _, _, _, _ => none
  | k + 1, x0, x1, x2, x8, x9 => if x9 ≤ 258 then ((valiseref10_LengthSymbol.f k x9).bind fun bt195 => (if 0 ≤ bt195.1 then (if bt195.1 < (x0.length : Int) then (if 0 ≤ x9 then (if x9 < (x8.length : Int) then (valiseref21_table.l0 k x0 x1 x2 (x8.set (x9 : Int).toNat (rd x0 bt195.1)) (wrap64 (x9 + 1))) else (none)) else (none)) else (none)) else (none))) else (if 0 ≤ (wrap64 (x2 + 1)) then (if (wrap64 (x2 + 1) : Int).toNat ≤ 35184372088832 then (valiseref21_table.l1 k x1 x2 x8 (List.replicate (wrap64 (x2 + 1) : Int).toNat 0) 0 1) else (none)) else (none))
def valiseref21_table.l1 : Nat → List Int → Int → List Int → List Int → Int → Int → Option (List Int × List Int)
  | 0, _, _, _, _, _, _ => none
  | k + 1, x1, x2, x8, x14, x15, x16 => if x16 ≤ x2 then ((valiseref10_DistOf.f k (wrap64 (x15 + 1)) 0).bind fun bt204 => (if bt204.2 = 0 then (if bt204.1 = x16 then (if 0 ≤ (wrap64 (x15 + 1)) then (if (wrap64 (x15 + 1)) < (x1.length : Int) then (if 0 ≤ x16 then (if x16 < (x14.length : Int) then (valiseref21_table.l1 k x1 x2 x8 (x14.set (x16 : Int).toNat (rd x1 (wrap64 (x15 + 1)))) (wrap64 (x15 + 1)) (wrap64 (x16 + 1))) else (none)) else (none)) else (none)) else (none)) else (if 0 ≤ x15 then (if x15 < (x1.length : Int) then (if 0 ≤ x16 then (if x16 < (x14.length : Int) then (valiseref21_table.l1 k x1 x2 x8 (x14.set (x16 : Int).toNat (rd x1 x15)) x15 (wrap64 (x16 + 1))) else (none)) else (none)) else (none)) else (none))) else (if 0 ≤ x15 then (if x15 < (x1.length : Int) then (if 0 ≤ x16 then (if x16 < (x14.length : Int) then (valiseref21_table.l1 k x1 x2 x8 (x14.set (x16 : Int).toNat (rd x1 x15)) x15 (wrap64 (x16 + 1))) else (none)) else (none)) else (none)) else (none)))) else (some (x8, x14))
end
def valiseref21_table.f (k : Nat) (l0 : List Int) (l1 : List Int) (a2 : Int) : Option (List Int × List Int) := if 259 ≤ 35184372088832 then (valiseref21_table.l0 k l0 l1 a2 (List.replicate 259 0) 3) else (none)
theorem valiseref21_table.mono_l : ∀ k, (∀ y0 y1 y2 y3 y4, LeO (valiseref21_table.l0 k y0 y1 y2 y3 y4) (valiseref21_table.l0 (k + 1) y0 y1 y2 y3 y4)) ∧ (∀ y0 y1 y2 y3 y4 y5, LeO (valiseref21_table.l1 k y0 y1 y2 y3 y4 y5) (valiseref21_table.l1 (k + 1) y0 y1 y2 y3 y4 y5))
  | 0 => ⟨fun _ _ _ _ _ r h => by simp [valiseref21_table.l0] at h, fun _ _ _ _ _ _ r h => by simp [valiseref21_table.l1] at h⟩
  | k + 1 => by
    obtain ⟨ih0, ih1⟩ := valiseref21_table.mono_l k
    refine ⟨?_, ?_⟩
    · intro y0 y1 y2 y3 y4
      unfold valiseref21_table.l0
      repeat' first
      | (with_reducible exact ih0 _ _ _ _ _)
      | (with_reducible exact ih1 _ _ _ _ _ _)
      | (with_reducible exact valiseref10_DistOf.mono _ _ _)
      | (with_reducible exact valiseref10_LengthSymbol.mono _ _)
      | (with_reducible exact LeO.refl _)
      | (with_reducible exact LeO.none _)
      | (with_reducible refine LeO.ite ?_ ?_)
      | (with_reducible refine LeO.bind ?_ (fun _ => ?_))
      | exact ih0 _ _ _ _ _
      | exact ih1 _ _ _ _ _ _
      | exact valiseref10_DistOf.mono _ _ _
      | exact valiseref10_LengthSymbol.mono _ _
      | exact LeO.none _
      | refine LeO.ite ?_ ?_
      | refine LeO.bind ?_ (fun _ => ?_)
    · intro y0 y1 y2 y3 y4 y5
      unfold valiseref21_table.l1
      repeat' first
      | (with_reducible exact ih0 _ _ _ _ _)
      | (with_reducible exact ih1 _ _ _ _ _ _)
      | (with_reducible exact valiseref10_DistOf.mono _ _ _)
      | (with_reducible exact valiseref10_LengthSymbol.mono _ _)
      | (with_reducible exact LeO.refl _)
      | (with_reducible exact LeO.none _)
      | (with_reducible refine LeO.ite ?_ ?_)
      | (with_reducible refine LeO.bind ?_ (fun _ => ?_))
      | exact ih0 _ _ _ _ _
      | exact ih1 _ _ _ _ _ _
      | exact valiseref10_DistOf.mono _ _ _
      | exact valiseref10_LengthSymbol.mono _ _
      | exact LeO.none _
      | refine LeO.ite ?_ ?_
      | refine LeO.bind ?_ (fun _ => ?_)
theorem valiseref21_table.mono : ∀ a0 a1 a2 k, LeO (valiseref21_table.f k a0 a1 a2) (valiseref21_table.f (k + 1) a0 a1 a2) := by
  intro a0 a1 a2 k
  obtain ⟨ih0, ih1⟩ := valiseref21_table.mono_l k
  unfold valiseref21_table.f
  repeat' first
      | (with_reducible exact ih0 _ _ _ _ _)
      | (with_reducible exact ih1 _ _ _ _ _ _)
      | (with_reducible exact valiseref10_DistOf.mono _ _ _)
      | (with_reducible exact valiseref10_LengthSymbol.mono _ _)
      | (with_reducible exact LeO.refl _)
      | (with_reducible exact LeO.none _)
      | (with_reducible refine LeO.ite ?_ ?_)
      | (with_reducible refine LeO.bind ?_ (fun _ => ?_))
      | exact ih0 _ _ _ _ _
      | exact ih1 _ _ _ _ _ _
      | exact valiseref10_DistOf.mono _ _ _
      | exact valiseref10_LengthSymbol.mono _ _
      | exact LeO.none _
      | refine LeO.ite ?_ ?_
      | refine LeO.bind ?_ (fun _ => ?_)
set_option maxHeartbeats 8000000 in
set_option maxRecDepth 100000 in
theorem valiseref21_table.calls (k : Nat) (A0 : Option Addr) (c0 : Nat) (l0 : List Int) (A1 : Option Addr) (c1 : Nat) (l1 : List Int) (a2 : Int) (r1 : List Int) (r2 : List Int) (w : World) (hr0 : Kd.C (Kd.int .i64) w A0 l0.length l0) (hc0 : l0.length ≤ c0) (hr1 : Kd.C (Kd.int .i64) w A1 l1.length l1) (hc1 : l1.length ≤ c1) (h : valiseref21_table.f k l0 l1 a2 = some (r1, r2)) :
    Calls Tryd.prog 40 #[.slice A0 l0.length c0, .slice A1 l1.length c1, .int .i64 a2] w fun e w' => ∃ v0_ v1_ : Value, e = .returned (.tuple #[v0_, v1_]) ∧ Kd.R (Kd.int .i64) 3 w' w.heap.size (fun k_ => some k_ ≠ (v1_ : Value).ownBlock) v0_ r1 ∧ Kd.R (Kd.int .i64) 3 w' w.heap.size (fun k_ => some k_ ≠ (v0_ : Value).ownBlock) v1_ r2 ∧ Below w.heap.size w w' := by
  have HR0 := Aside0.mk hr0
  have HC0 := Aside0.mk hc0
  clear hr0 hc0
  have HR1 := Aside0.mk hr1
  have HC1 := Aside0.mk hc1
  clear hr1 hc1
  have HB := Aside0.mk (Below.refl w.heap.size w)
  have H : (if 259 ≤ 35184372088832 then (valiseref21_table.l0 k l0 l1 a2 (List.replicate 259 0) 3) else (none)) = some (r1, r2) := h
  clear h
  by_cases c4 : 259 ≤ 35184372088832
  · rw [if_pos c4] at H
    have c4b0 := eq_true c4
    have c4b1 : decide (259 ≤ 35184372088832) = true := decide_eq_true c4
    clear c4
    obtain ⟨y192, hy192⟩ : ∃ y_ : List Int, y_ = (List.replicate 259 0) := ⟨_, rfl⟩
    replace H : (valiseref21_table.l0 k l0 l1 a2 y192 3) = some (r1, r2) := by first | (rw [hy192]; with_reducible exact H) | (have H2_ := (Option.bind_some _ _).symm.trans H; rw [hy192]; with_reducible exact H2_) | (have H2_ := (Option.bind_some _ _).symm.trans H; with_reducible exact H2_) | with_reducible exact H | (rw [hy192]; exact H) | exact H
    have Ny192 := Aside0.mk hy192
    clear hy192
    have H' := Aside0.mk H
    clear H
    go_enter Tryd.func40, Tryd.ntmps40
    go_wp2_with (first | ((with_reducible refine gate_dst (N := 19) rfl ?_); refine Kd.R_make (Kd.int .i64) _ 3 rfl (N := 19) rfl 36 _ _ rfl 259 rfl rfl Tryd.underlying36 (.int .i64 0) 8 info3 rfl (by decide) (by omega) 0 (ok := fun _ => True) (okp := fun _ => True) rfl (fun _ hk => hk) trivial (by omega) (by omega) (Below.refl _ _) (Nat.le_refl _) ?_; intro v193 w5 ho6 hb hg_ hnew_; clear hg_ hnew_; (first | rw [← Ny192.out] at ho6 | (simp only [Int.reduceToNat] at ho6; rw [← Ny192.out] at ho6)); have n0_ := Aside0.mk (Kd.R_lower ho6 (below_size (by repeat (first | (with_reducible first | exact HB.out | apply below_alloc | apply pw_below_drewN | apply below_drew1) | exact HB.out)))); have n1_ := Aside0.mk (below_step (by repeat (first | (with_reducible first | exact HB.out | apply below_alloc | apply pw_below_drewN | apply below_drew1) | exact HB.out)) hb); clear HB; have HO194 := n0_; have HB := n1_; clear n0_ n1_; clear hb ho6))
    go_loopg [9] k (fun kq v9 w' => ∃ (x8_1 : List Int) (x9_1 : Int), v9 = .int .i64 x9_1 ∧ Aside0 (valiseref21_table.l0 kq l0 l1 a2 x8_1 x9_1 = some (r1, r2)) ∧ Aside0 (kq ≤ k) ∧ Aside0 (Kd.R (Kd.int .i64) 3 w' w.heap.size (fun _ => True) v193 x8_1) ∧ Aside0 (Below w.heap.size w w'))
    case atStart => exact ⟨(y192), (3), (by first | rfl | (simp; done) | (simp [*]; done)), H', ⟨Nat.le_refl _⟩, ⟨by (with_reducible repeat (first | apply Kd.R_alloc | apply Kd.R_drewN | apply Kd.R_drew)); exact HO194.out⟩, ⟨by repeat (first | (with_reducible first | exact HB.out | apply below_alloc | apply pw_below_drewN | apply below_drew1) | exact HB.out)⟩⟩
    case round =>
      clear H'
      try clear c1
      try clear p2
      try clear c4
      try clear c4b0
      try clear c4b1
      obtain ⟨x8_1, x9_1, rfl, HA, HK1, HO_8, HB⟩ := hrel
      cases gk with
      | zero => exact absurd HA.out (by simp [valiseref21_table.l0])
      | succ k1 =>
        have H := HA.out
        clear HA
        simp only [valiseref21_table.l0] at H
        by_cases c7 : x9_1 ≤ 258
        · rw [if_pos c7] at H
          have c7b0 : decide (x9_1 ≤ 258) = true := decide_eq_true c7
          clear c7
          replace H := Option.bind_eq_some_iff.mp H
          obtain ⟨⟨t195, t196, t197, t198⟩, A80, H⟩ := H
          replace H : (if 0 ≤ t195 then (if t195 < (l0.length : Int) then (if 0 ≤ x9_1 then (if x9_1 < (x8_1.length : Int) then (valiseref21_table.l0 k1 l0 l1 a2 (x8_1.set (x9_1 : Int).toNat (rd l0 t195)) (wrap64 (x9_1 + 1))) else (none)) else (none)) else (none)) else (none)) = some (r1, r2) := H
          have A8 := Aside0.mk A80
          clear A80
          by_cases c9 : 0 ≤ t195
          · rw [if_pos c9] at H
            have c9b0 : decide (0 ≤ t195) = true := decide_eq_true c9
            clear c9
            by_cases c10 : t195 < (l0.length : Int)
            · rw [if_pos c10] at H
              have c10b0 : decide (t195 < (l0.length : Int)) = true := decide_eq_true c10
              clear c10
              by_cases c11 : 0 ≤ x9_1
              · rw [if_pos c11] at H
                have c11b0 : decide (0 ≤ x9_1) = true := decide_eq_true c11
                clear c11
                by_cases c12 : x9_1 < (x8_1.length : Int)
                · rw [if_pos c12] at H
                  have c12b0 : decide (x9_1 < (x8_1.length : Int)) = true := decide_eq_true c12
                  clear c12
                  obtain ⟨y200, hy200⟩ : ∃ y_ : List Int, y_ = (x8_1.set (x9_1 : Int).toNat (rd l0 t195)) := ⟨_, rfl⟩
                  replace H : (valiseref21_table.l0 k1 l0 l1 a2 y200 (wrap64 (x9_1 + 1))) = some (r1, r2) := by first | (rw [hy200]; with_reducible exact H) | (have H2_ := (Option.bind_some _ _).symm.trans H; rw [hy200]; with_reducible exact H2_) | (have H2_ := (Option.bind_some _ _).symm.trans H; with_reducible exact H2_) | with_reducible exact H | (rw [hy200]; exact H) | exact H
                  have Ny200 := Aside0.mk hy200
                  clear hy200
                  have H' := Aside0.mk H
                  clear H
                  go_wp2_with (first | ((with_reducible refine gate_callee (f := 45) rfl ?_); refine goesL_ (some 26) rfl rfl Tryd.func45 (by kernel_rfl) rfl #[.int .i64 x9_1] rfl (by (try simp only [List.map_toArray, List.map_cons, List.map_nil]); first | done | rfl | (simp only [List.length_drop, List.length_take]; rfl)) ?_; (with_reducible refine (valiseref10_LengthSymbol.calls k1 x9_1 t195 t196 t197 t198 _ A8.out).mono ?_); rintro e w' ⟨rfl, ⟨nd, rfl⟩⟩; refine ⟨_, rfl, ?_⟩; (try (rw [drewN_self wr]; generalize hq_ : World.drewN wr _ = wr; have n0_ : Aside0 (Kd.R (Kd.int .i64) 3 wr w.heap.size (fun _ => True) v193 x8_1) := ⟨by rw [← hq_]; exact (by (with_reducible repeat (first | apply Kd.R_alloc | apply Kd.R_drewN | apply Kd.R_drew)); exact HO_8.out)⟩; have n1_ : Aside0 (Below w.heap.size w wr) := ⟨by rw [← hq_]; exact (by repeat (first | (with_reducible first | exact HB.out | apply below_alloc | apply pw_below_drewN | apply below_drew1) | exact HB.out))⟩; clear HO_8 HB hq_; have HO_8 := n0_; have HB := n1_; clear n0_ n1_)); have p199 : 0 ≤ (t195 : Int) := of_decide_eq_true (by first | (with_reducible assumption) | assumption); have q199 : t195 < (l0.length : Int) := of_decide_eq_true (by first | (with_reducible assumption) | assumption); obtain ⟨ad199, e199, hx199_0⟩ := Kd.at_int HR0.out t195 p199 q199; cases e199; replace hx199_0 := (HB.out.cell (World.block_lt_of_cell? w _ hx199_0)).trans hx199_0; replace p199 := eq_true p199; replace q199 := eq_true q199; have p13 : 0 ≤ (x9_1 : Int) := of_decide_eq_true (by first | (with_reducible assumption) | assumption); have q13 : (x9_1 : Int) < ((x8_1.length : Int) : Int) := of_decide_eq_true (by first | (with_reducible assumption) | assumption); obtain ⟨go13, co13, eo13, gb13, gl13, cl13, HG13⟩ := Kd.R_form HO_8.out (by omega); (first | cases eo13 | (injection eo13 with ea_ en_ ec_; (first | subst ea_ | (injection ea_ with ea_; subst ea_)); subst ec_; clear en_)); have GB13 := Aside0.mk gb13; have GG13 := Aside0.mk HG13; clear gb13 gl13 HG13; obtain ⟨hx13_0, hf13_0⟩ := Kd.R_celln 0 HO_8.out (x9_1 : Int) p13 q13; replace p13 := eq_true p13; replace q13 := eq_true q13; obtain ⟨hy14_, hz14_⟩ := Kd.R_celln 0 HO_8.out (x9_1 : Int) (of_decide_eq_true (by first | (with_reducible assumption) | assumption)) (of_decide_eq_true (by first | (with_reducible assumption) | assumption)); have HP14 := Kd.R_putg HO_8.out (x9_1 : Int) (rd l0 t195)) | ((with_reducible refine gate_store (t := 3) (p := 37) rfl ?_); refine store_event (t := 3) (p := 37) (v := ?vo_w15) (w1 := (wr.setCell ⟨go13, (x9_1 : Int).toNat, none⟩ (.int .i64 (rd l0 t195)))) ?hg ?ho ?hn ?hr ?_; (case ho => rfl); (case hg => rfl); (case hn => rfl); (case hr => first | (go_simp; done) | (go_simp; rfl)); intro w15 hw; have hg : wr.grownBy w15 (some go13) := (by rw [hw]; exact HP14.2); have hp_ : Kd.R (Kd.int .i64) 3 w15 w.heap.size (fun _ => True) (.slice (some ⟨go13, 0, none⟩) x8_1.length co13) y200 := (by rw [hw, Ny200.out]; exact HP14.1); clear HP14; have n0_ := Aside0.mk (hp_); have n1_ := Aside0.mk ((by rw [hw]; exact below_set (HB.out) GB13.out : Below w.heap.size w w15)); clear HO_8; clear HB; have HO_8 := n0_; have HB := n1_; clear n0_ n1_; clear hg hw hp_))
                  go_roundg k1
                  case measure => have := HK1.out; omega
                  case rel => exact ⟨(y200), (wrap64 (x9_1 + 1)), (by first | rfl | (simp; done) | (simp [*]; done)), H', ⟨by have := HK1.out; omega⟩, ⟨by (with_reducible repeat (first | apply Kd.R_alloc | apply Kd.R_drewN | apply Kd.R_drew)); exact HO_8.out⟩, ⟨by repeat (first | (with_reducible first | exact HB.out | apply below_alloc | apply pw_below_drewN | apply below_drew1) | exact HB.out)⟩⟩
                · rw [if_neg c12] at H
                  exact absurd H (by simp)
              · rw [if_neg c11] at H
                exact absurd H (by simp)
            · rw [if_neg c10] at H
              exact absurd H (by simp)
          · rw [if_neg c9] at H
            exact absurd H (by simp)
        · rw [if_neg c7] at H
          have c7b0 : decide (x9_1 ≤ 258) = false := decide_eq_false c7
          clear c7
          obtain ⟨ji16, hji16⟩ : ∃ j_ : Int, (wrap64 (a2 + 1)) = j_ := ⟨_, rfl⟩
          replace H : (if 0 ≤ (ji16) then (if (ji16 : Int).toNat ≤ 35184372088832 then (valiseref21_table.l1 k1 l1 a2 x8_1 (List.replicate (ji16 : Int).toNat 0) 0 1) else (none)) else (none)) = some (r1, r2) := by first | (rw [hji16] at H; exact H) | (simp only [hji16] at H ⊢; exact H)
          have hji16w : (IntKind.i64.wrap (a2 + 1)) = ji16 := (i64_w _).trans hji16
          by_cases c17 : 0 ≤ (ji16)
          · rw [if_pos c17] at H
            have c17b0 := eq_true c17
            have c17b1 : decide (0 ≤ (ji16)) = true := decide_eq_true c17
            clear c17
            by_cases c18 : (ji16 : Int).toNat ≤ 35184372088832
            · rw [if_pos c18] at H
              have c18b0 := eq_true c18
              have c18b1 : decide ((ji16 : Int).toNat ≤ 35184372088832) = true := decide_eq_true c18
              clear c18
              obtain ⟨y201, hy201⟩ : ∃ y_ : List Int, y_ = (List.replicate (ji16 : Int).toNat 0) := ⟨_, rfl⟩
              replace H : (valiseref21_table.l1 k1 l1 a2 x8_1 y201 0 1) = some (r1, r2) := by first | (rw [hy201]; with_reducible exact H) | (have H2_ := (Option.bind_some _ _).symm.trans H; rw [hy201]; with_reducible exact H2_) | (have H2_ := (Option.bind_some _ _).symm.trans H; with_reducible exact H2_) | with_reducible exact H | (rw [hy201]; exact H) | exact H
              have Ny201 := Aside0.mk hy201
              clear hy201
              have H' := Aside0.mk H
              clear H
              go_wp2_with (first | ((with_reducible refine gate_dst (N := 40) rfl ?_); refine Kd.R_make (Kd.int .i64) _ 3 rfl (N := 40) rfl 36 _ _ rfl ji16 rfl rfl Tryd.underlying36 (.int .i64 0) 8 info3 rfl (by decide) (by omega) 0 (ok := fun _ => True) (okp := fun _ => True) rfl (fun _ hk => hk) trivial (of_decide_eq_true (by first | (with_reducible assumption) | assumption)) (Nat.le_trans (Nat.mul_le_mul_right _ (of_decide_eq_true (by first | (with_reducible assumption) | assumption) : ji16.toNat ≤ 35184372088832)) (by omega)) (Below.refl _ _) (Nat.le_refl _) ?_; intro v202 w19 ho20 hb hg_ hnew_; clear hg_ hnew_; (first | rw [← Ny201.out] at ho20 | (simp only [Int.reduceToNat] at ho20; rw [← Ny201.out] at ho20)); have n0_ := Aside0.mk (Kd.R_elder' (by (with_reducible repeat (first | apply Kd.R_alloc | apply Kd.R_drewN | apply Kd.R_drew)); exact HO_8.out) (Kd.R_base ho20) hb); have n1_ := Aside0.mk (Kd.R_lower (Kd.R_new' ho20 (Kd.R_lt (by (with_reducible repeat (first | apply Kd.R_alloc | apply Kd.R_drewN | apply Kd.R_drew)); exact HO_8.out))) (below_size (by repeat (first | (with_reducible first | exact HB.out | apply below_alloc | apply pw_below_drewN | apply below_drew1) | exact HB.out)))); have n2_ := Aside0.mk (below_step (by repeat (first | (with_reducible first | exact HB.out | apply below_alloc | apply pw_below_drewN | apply below_drew1) | exact HB.out)) hb); clear HO_8; clear HB; have HO_8 := n0_; have HO203 := n1_; have HB := n2_; clear n0_ n1_ n2_; clear hb ho20))
              go_loopg [15, 16] k1 (fun kq v15 v16 w' => ∃ (x14_2 : List Int) (x15_2 : Int) (x16_2 : Int), v15 = .int .i64 x15_2 ∧ v16 = .int .i64 x16_2 ∧ Aside0 (valiseref21_table.l1 kq l1 a2 x8_1 x14_2 x15_2 x16_2 = some (r1, r2)) ∧ Aside0 (kq ≤ k1) ∧ Aside0 (Kd.R (Kd.int .i64) 3 w' w.heap.size (fun k_ => some k_ ≠ (v202 : Value).ownBlock) v193 x8_1) ∧ Aside0 (Kd.R (Kd.int .i64) 3 w' w.heap.size (fun k_ => some k_ ≠ (v193 : Value).ownBlock) v202 x14_2) ∧ Aside0 (Below w.heap.size w w'))
              case atStart => exact ⟨(y201), (0), (1), (by first | rfl | (simp; done) | (simp [*]; done)), (by first | rfl | (simp; done) | (simp [*]; done)), H', ⟨Nat.le_refl _⟩, ⟨by (with_reducible repeat (first | apply Kd.R_alloc | apply Kd.R_drewN | apply Kd.R_drew)); exact Kd.R_mono HO_8.out (fun _ hk => hk.2)⟩, ⟨by (with_reducible repeat (first | apply Kd.R_alloc | apply Kd.R_drewN | apply Kd.R_drew)); exact Kd.R_mono HO203.out (fun _ hk => hk.2)⟩, ⟨by repeat (first | (with_reducible first | exact HB.out | apply below_alloc | apply pw_below_drewN | apply below_drew1) | exact HB.out)⟩⟩
              case round =>
                clear H'
                try clear c1
                try clear p1
                try clear q1
                try clear hx1
                try clear p2
                try clear c4
                try clear c4b0
                try clear c4b1
                try clear p6
                try clear c7
                try clear c7b0
                try clear c9
                try clear c9b0
                try clear c10
                try clear c10b0
                try clear c11
                try clear c11b0
                try clear c12
                try clear c12b0
                try clear p13
                try clear q13
                try clear hx13
                try clear hf13
                try clear c17
                try clear c17b0
                try clear c17b1
                try clear c18
                try clear c18b0
                try clear c18b1
                try clear p19
                try clear q19
                try clear hx19
                try clear hx13_0
                try clear hx199_0
                try clear p13
                try clear p199
                try clear p2
                try clear q13
                try clear q199
                obtain ⟨x14_2, x15_2, x16_2, rfl, rfl, HA, HK2, HO_8, HO_14, HB⟩ := hrel
                cases gk with
                | zero => exact absurd HA.out (by simp [valiseref21_table.l1])
                | succ k2 =>
                  have H := HA.out
                  clear HA
                  simp only [valiseref21_table.l1] at H
                  by_cases c21 : x16_2 ≤ a2
                  · rw [if_pos c21] at H
                    have c21b0 : decide (x16_2 ≤ a2) = true := decide_eq_true c21
                    clear c21
                    replace H := Option.bind_eq_some_iff.mp H
                    obtain ⟨⟨t204, t205⟩, A220, H⟩ := H
                    replace H : (if t205 = 0 then (if t204 = x16_2 then (if 0 ≤ (wrap64 (x15_2 + 1)) then (if (wrap64 (x15_2 + 1)) < (l1.length : Int) then (if 0 ≤ x16_2 then (if x16_2 < (x14_2.length : Int) then (valiseref21_table.l1 k2 l1 a2 x8_1 (x14_2.set (x16_2 : Int).toNat (rd l1 (wrap64 (x15_2 + 1)))) (wrap64 (x15_2 + 1)) (wrap64 (x16_2 + 1))) else (none)) else (none)) else (none)) else (none)) else (if 0 ≤ x15_2 then (if x15_2 < (l1.length : Int) then (if 0 ≤ x16_2 then (if x16_2 < (x14_2.length : Int) then (valiseref21_table.l1 k2 l1 a2 x8_1 (x14_2.set (x16_2 : Int).toNat (rd l1 x15_2)) x15_2 (wrap64 (x16_2 + 1))) else (none)) else (none)) else (none)) else (none))) else (if 0 ≤ x15_2 then (if x15_2 < (l1.length : Int) then (if 0 ≤ x16_2 then (if x16_2 < (x14_2.length : Int) then (valiseref21_table.l1 k2 l1 a2 x8_1 (x14_2.set (x16_2 : Int).toNat (rd l1 x15_2)) x15_2 (wrap64 (x16_2 + 1))) else (none)) else (none)) else (none)) else (none))) = some (r1, r2) := H
                    have A22 := Aside0.mk A220
                    clear A220
                    by_cases c23 : t205 = 0
                    · rw [if_pos c23] at H
                      have c23b0 : (t205 == 0) = true := beq_iff_eq.mpr c23
                      have c23b1 : (t205 != 0) = false := bne_eq_false_iff_eq.mpr c23
                      clear c23
                      by_cases c24 : t204 = x16_2
                      · rw [if_pos c24] at H
                        have c24b0 : (t204 == x16_2) = true := beq_iff_eq.mpr c24
                        have c24b1 : (t204 != x16_2) = false := bne_eq_false_iff_eq.mpr c24
                        clear c24
                        obtain ⟨ji25, hji25⟩ : ∃ j_ : Int, (wrap64 (x15_2 + 1)) = j_ := ⟨_, rfl⟩
                        replace H : (if 0 ≤ (ji25) then (if (ji25) < (l1.length : Int) then (if 0 ≤ x16_2 then (if x16_2 < (x14_2.length : Int) then (valiseref21_table.l1 k2 l1 a2 x8_1 (x14_2.set (x16_2 : Int).toNat (rd l1 (ji25))) ji25 (wrap64 (x16_2 + 1))) else (none)) else (none)) else (none)) else (none)) = some (r1, r2) := by first | (rw [hji25] at H; exact H) | (simp only [hji25] at H ⊢; exact H)
                        (try rw [hji25] at A22)
                        have hji25w : (IntKind.i64.wrap (x15_2 + 1)) = ji25 := (i64_w _).trans hji25
                        by_cases c26 : 0 ≤ (ji25)
                        · rw [if_pos c26] at H
                          have c26b0 : decide (0 ≤ (ji25)) = true := decide_eq_true c26
                          clear c26
                          by_cases c27 : (ji25) < (l1.length : Int)
                          · rw [if_pos c27] at H
                            have c27b0 : decide ((ji25) < (l1.length : Int)) = true := decide_eq_true c27
                            clear c27
                            by_cases c28 : 0 ≤ x16_2
                            · rw [if_pos c28] at H
                              have c28b0 : decide (0 ≤ x16_2) = true := decide_eq_true c28
                              clear c28
                              by_cases c29 : x16_2 < (x14_2.length : Int)
                              · rw [if_pos c29] at H
                                have c29b0 : decide (x16_2 < (x14_2.length : Int)) = true := decide_eq_true c29
                                clear c29
                                obtain ⟨y207, hy207⟩ : ∃ y_ : List Int, y_ = (x14_2.set (x16_2 : Int).toNat (rd l1 (ji25))) := ⟨_, rfl⟩
                                replace H : (valiseref21_table.l1 k2 l1 a2 x8_1 y207 ji25 (wrap64 (x16_2 + 1))) = some (r1, r2) := by first | (rw [hy207]; with_reducible exact H) | (have H2_ := (Option.bind_some _ _).symm.trans H; rw [hy207]; with_reducible exact H2_) | (have H2_ := (Option.bind_some _ _).symm.trans H; with_reducible exact H2_) | with_reducible exact H | (rw [hy207]; exact H) | exact H
                                have Ny207 := Aside0.mk hy207
                                clear hy207
                                have H' := Aside0.mk H
                                clear H
                                go_wp2_with (first | ((with_reducible refine gate_callee (f := 48) rfl ?_); refine goesL_ (some 49) rfl rfl Tryd.func48 (by kernel_rfl) rfl #[.int .i64 ji25, .int .i64 0] rfl (by (try simp only [List.map_toArray, List.map_cons, List.map_nil]); first | done | (simp only [hji25]; rfl) | rfl | (simp only [List.length_drop, List.length_take]; rfl)) ?_; (with_reducible refine (valiseref10_DistOf.calls k2 ji25 0 t204 t205 _ A22.out).mono ?_); rintro e w' ⟨rfl, ⟨nd, rfl⟩⟩; refine ⟨_, rfl, ?_⟩; (try (rw [drewN_self wr]; generalize hq_ : World.drewN wr _ = wr; have n0_ : Aside0 (Kd.R (Kd.int .i64) 3 wr w.heap.size (fun k_ => some k_ ≠ (v193 : Value).ownBlock) v202 x14_2) := ⟨by rw [← hq_]; exact (by (with_reducible repeat (first | apply Kd.R_alloc | apply Kd.R_drewN | apply Kd.R_drew)); exact HO_14.out)⟩; have n1_ : Aside0 (Kd.R (Kd.int .i64) 3 wr w.heap.size (fun k_ => some k_ ≠ (v202 : Value).ownBlock) v193 x8_1) := ⟨by rw [← hq_]; exact (by (with_reducible repeat (first | apply Kd.R_alloc | apply Kd.R_drewN | apply Kd.R_drew)); exact HO_8.out)⟩; have n2_ : Aside0 (Below w.heap.size w wr) := ⟨by rw [← hq_]; exact (by repeat (first | (with_reducible first | exact HB.out | apply below_alloc | apply pw_below_drewN | apply below_drew1) | exact HB.out))⟩; clear HO_14 HO_8 HB hq_; have HO_14 := n0_; have HO_8 := n1_; have HB := n2_; clear n0_ n1_ n2_)); have p206 : 0 ≤ ((ji25) : Int) := of_decide_eq_true (by first | (with_reducible assumption) | assumption); have q206 : (ji25) < (l1.length : Int) := of_decide_eq_true (by first | (with_reducible assumption) | assumption); obtain ⟨ad206, e206, hx206_0⟩ := Kd.at_int HR1.out (ji25) p206 q206; cases e206; replace hx206_0 := (HB.out.cell (World.block_lt_of_cell? w _ hx206_0)).trans hx206_0; replace p206 := eq_true p206; replace q206 := eq_true q206; have p30 : 0 ≤ (x16_2 : Int) := of_decide_eq_true (by first | (with_reducible assumption) | assumption); have q30 : (x16_2 : Int) < ((x14_2.length : Int) : Int) := of_decide_eq_true (by first | (with_reducible assumption) | assumption); obtain ⟨go30, co30, eo30, gb30, gl30, cl30, HG30⟩ := Kd.R_form HO_14.out (by omega); (first | cases eo30 | (injection eo30 with ea_ en_ ec_; (first | subst ea_ | (injection ea_ with ea_; subst ea_)); subst ec_; clear en_)); have GB30 := Aside0.mk gb30; have GG30 := Aside0.mk HG30; clear gb30 gl30 HG30; obtain ⟨hx30_0, hf30_0⟩ := Kd.R_celln 0 HO_14.out (x16_2 : Int) p30 q30; replace p30 := eq_true p30; replace q30 := eq_true q30; obtain ⟨hy31_, hz31_⟩ := Kd.R_celln 0 HO_14.out (x16_2 : Int) (of_decide_eq_true (by first | (with_reducible assumption) | assumption)) (of_decide_eq_true (by first | (with_reducible assumption) | assumption)); have HP31 := Kd.R_putg HO_14.out (x16_2 : Int) (rd l1 (ji25))) | ((with_reducible refine gate_store (t := 3) (p := 67) rfl ?_); refine store_event (t := 3) (p := 67) (v := ?vo_w32) (w1 := (wr.setCell ⟨go30, (x16_2 : Int).toNat, none⟩ (.int .i64 (rd l1 (ji25))))) ?hg ?ho ?hn ?hr ?_; (case ho => rfl); (case hg => rfl); (case hn => rfl); (case hr => first | (go_simp; done) | (go_simp; rfl)); intro w32 hw; have hg : wr.grownBy w32 (some go30) := (by rw [hw]; exact HP31.2); have hp_ : Kd.R (Kd.int .i64) 3 w32 w.heap.size (fun k_ => some k_ ≠ (v193 : Value).ownBlock) (.slice (some ⟨go30, 0, none⟩) x14_2.length co30) y207 := (by rw [hw, Ny207.out]; exact HP31.1); clear HP31; have n0_ := Aside0.mk (Kd.R_after (v := (.slice (some ⟨go30, 0, none⟩) x14_2.length co30)) (v1 := (.slice (some ⟨go30, 0, none⟩) x14_2.length co30)) (ok := (fun _ => True)) (by (with_reducible repeat (first | apply Kd.R_alloc | apply Kd.R_drewN | apply Kd.R_drew)); exact Kd.R_mono HO_8.out (fun _ hk => ⟨trivial, hk⟩)) hg (.inl rfl)); have n1_ := Aside0.mk (hp_); have n2_ := Aside0.mk ((by rw [hw]; exact below_set (HB.out) GB30.out : Below w.heap.size w w32)); clear HO_8; clear HO_14; clear HB; have HO_8 := n0_; have HO_14 := n1_; have HB := n2_; clear n0_ n1_ n2_; clear hg hw hp_))
                                go_roundg k2
                                case measure => have := HK1.out; have := HK2.out; omega
                                case rel => exact ⟨(y207), (ji25), (wrap64 (x16_2 + 1)), (by first | rfl | (simp; done) | (simp only [← hji25] <;> (first | rfl | simp)) | (simp [*]; done)), (by first | rfl | (simp; done) | (simp [*]; done)), H', ⟨by have := HK1.out; have := HK2.out; omega⟩, ⟨by (with_reducible repeat (first | apply Kd.R_alloc | apply Kd.R_drewN | apply Kd.R_drew)); exact Kd.R_mono HO_8.out (fun _ hk => hk.2)⟩, ⟨by (with_reducible repeat (first | apply Kd.R_alloc | apply Kd.R_drewN | apply Kd.R_drew)); exact HO_14.out⟩, ⟨by repeat (first | (with_reducible first | exact HB.out | apply below_alloc | apply pw_below_drewN | apply below_drew1) | exact HB.out)⟩⟩
                              · rw [if_neg c29] at H
                                exact absurd H (by simp)
                            · rw [if_neg c28] at H
                              exact absurd H (by simp)
                          · rw [if_neg c27] at H
                            exact absurd H (by simp)
                        · rw [if_neg c26] at H
                          exact absurd H (by simp)
                      · rw [if_neg c24] at H
                        have c24b0 : (t204 == x16_2) = false := beq_eq_false_iff_ne.mpr c24
                        have c24b1 : (t204 != x16_2) = true := bne_iff_ne.mpr c24
                        by_cases c33 : 0 ≤ x15_2
                        · rw [if_pos c33] at H
                          have c33b0 : decide (0 ≤ x15_2) = true := decide_eq_true c33
                          clear c33
                          by_cases c34 : x15_2 < (l1.length : Int)
                          · rw [if_pos c34] at H
                            have c34b0 : decide (x15_2 < (l1.length : Int)) = true := decide_eq_true c34
                            clear c34
                            by_cases c35 : 0 ≤ x16_2
                            · rw [if_pos c35] at H
                              have c35b0 : decide (0 ≤ x16_2) = true := decide_eq_true c35
                              clear c35
                              by_cases c36 : x16_2 < (x14_2.length : Int)
                              · rw [if_pos c36] at H
                                have c36b0 : decide (x16_2 < (x14_2.length : Int)) = true := decide_eq_true c36
                                clear c36
                                obtain ⟨y209, hy209⟩ : ∃ y_ : List Int, y_ = (x14_2.set (x16_2 : Int).toNat (rd l1 x15_2)) := ⟨_, rfl⟩
                                replace H : (valiseref21_table.l1 k2 l1 a2 x8_1 y209 x15_2 (wrap64 (x16_2 + 1))) = some (r1, r2) := by first | (rw [hy209]; with_reducible exact H) | (have H2_ := (Option.bind_some _ _).symm.trans H; rw [hy209]; with_reducible exact H2_) | (have H2_ := (Option.bind_some _ _).symm.trans H; with_reducible exact H2_) | with_reducible exact H | (rw [hy209]; exact H) | exact H
                                have Ny209 := Aside0.mk hy209
                                clear hy209
                                have H' := Aside0.mk H
                                clear H
                                go_wp2_with (first | ((with_reducible refine gate_callee (f := 48) rfl ?_); refine goesL_ (some 49) rfl rfl Tryd.func48 (by kernel_rfl) rfl #[.int .i64 (wrap64 (x15_2 + 1)), .int .i64 0] rfl (by (try simp only [List.map_toArray, List.map_cons, List.map_nil]); first | done | rfl | (simp only [List.length_drop, List.length_take]; rfl)) ?_; (with_reducible refine (valiseref10_DistOf.calls k2 (wrap64 (x15_2 + 1)) 0 t204 t205 _ A22.out).mono ?_); rintro e w' ⟨rfl, ⟨nd, rfl⟩⟩; refine ⟨_, rfl, ?_⟩; (try (rw [drewN_self wr]; generalize hq_ : World.drewN wr _ = wr; have n0_ : Aside0 (Kd.R (Kd.int .i64) 3 wr w.heap.size (fun k_ => some k_ ≠ (v193 : Value).ownBlock) v202 x14_2) := ⟨by rw [← hq_]; exact (by (with_reducible repeat (first | apply Kd.R_alloc | apply Kd.R_drewN | apply Kd.R_drew)); exact HO_14.out)⟩; have n1_ : Aside0 (Kd.R (Kd.int .i64) 3 wr w.heap.size (fun k_ => some k_ ≠ (v202 : Value).ownBlock) v193 x8_1) := ⟨by rw [← hq_]; exact (by (with_reducible repeat (first | apply Kd.R_alloc | apply Kd.R_drewN | apply Kd.R_drew)); exact HO_8.out)⟩; have n2_ : Aside0 (Below w.heap.size w wr) := ⟨by rw [← hq_]; exact (by repeat (first | (with_reducible first | exact HB.out | apply below_alloc | apply pw_below_drewN | apply below_drew1) | exact HB.out))⟩; clear HO_14 HO_8 HB hq_; have HO_14 := n0_; have HO_8 := n1_; have HB := n2_; clear n0_ n1_ n2_)); have p208 : 0 ≤ (x15_2 : Int) := of_decide_eq_true (by first | (with_reducible assumption) | assumption); have q208 : x15_2 < (l1.length : Int) := of_decide_eq_true (by first | (with_reducible assumption) | assumption); obtain ⟨ad208, e208, hx208_0⟩ := Kd.at_int HR1.out x15_2 p208 q208; cases e208; replace hx208_0 := (HB.out.cell (World.block_lt_of_cell? w _ hx208_0)).trans hx208_0; replace p208 := eq_true p208; replace q208 := eq_true q208; have p37 : 0 ≤ (x16_2 : Int) := of_decide_eq_true (by first | (with_reducible assumption) | assumption); have q37 : (x16_2 : Int) < ((x14_2.length : Int) : Int) := of_decide_eq_true (by first | (with_reducible assumption) | assumption); obtain ⟨go37, co37, eo37, gb37, gl37, cl37, HG37⟩ := Kd.R_form HO_14.out (by omega); (first | cases eo37 | (injection eo37 with ea_ en_ ec_; (first | subst ea_ | (injection ea_ with ea_; subst ea_)); subst ec_; clear en_)); have GB37 := Aside0.mk gb37; have GG37 := Aside0.mk HG37; clear gb37 gl37 HG37; obtain ⟨hx37_0, hf37_0⟩ := Kd.R_celln 0 HO_14.out (x16_2 : Int) p37 q37; replace p37 := eq_true p37; replace q37 := eq_true q37; obtain ⟨hy38_, hz38_⟩ := Kd.R_celln 0 HO_14.out (x16_2 : Int) (of_decide_eq_true (by first | (with_reducible assumption) | assumption)) (of_decide_eq_true (by first | (with_reducible assumption) | assumption)); have HP38 := Kd.R_putg HO_14.out (x16_2 : Int) (rd l1 x15_2)) | ((with_reducible refine gate_store (t := 3) (p := 67) rfl ?_); refine store_event (t := 3) (p := 67) (v := ?vo_w39) (w1 := (wr.setCell ⟨go37, (x16_2 : Int).toNat, none⟩ (.int .i64 (rd l1 x15_2)))) ?hg ?ho ?hn ?hr ?_; (case ho => rfl); (case hg => rfl); (case hn => rfl); (case hr => first | (go_simp; done) | (go_simp; rfl)); intro w39 hw; have hg : wr.grownBy w39 (some go37) := (by rw [hw]; exact HP38.2); have hp_ : Kd.R (Kd.int .i64) 3 w39 w.heap.size (fun k_ => some k_ ≠ (v193 : Value).ownBlock) (.slice (some ⟨go37, 0, none⟩) x14_2.length co37) y209 := (by rw [hw, Ny209.out]; exact HP38.1); clear HP38; have n0_ := Aside0.mk (Kd.R_after (v := (.slice (some ⟨go37, 0, none⟩) x14_2.length co37)) (v1 := (.slice (some ⟨go37, 0, none⟩) x14_2.length co37)) (ok := (fun _ => True)) (by (with_reducible repeat (first | apply Kd.R_alloc | apply Kd.R_drewN | apply Kd.R_drew)); exact Kd.R_mono HO_8.out (fun _ hk => ⟨trivial, hk⟩)) hg (.inl rfl)); have n1_ := Aside0.mk (hp_); have n2_ := Aside0.mk ((by rw [hw]; exact below_set (HB.out) GB37.out : Below w.heap.size w w39)); clear HO_8; clear HO_14; clear HB; have HO_8 := n0_; have HO_14 := n1_; have HB := n2_; clear n0_ n1_ n2_; clear hg hw hp_))
                                go_roundg k2
                                case measure => have := HK1.out; have := HK2.out; omega
                                case rel => exact ⟨(y209), (x15_2), (wrap64 (x16_2 + 1)), (by first | rfl | (simp; done) | (simp [*]; done)), (by first | rfl | (simp; done) | (simp [*]; done)), H', ⟨by have := HK1.out; have := HK2.out; omega⟩, ⟨by (with_reducible repeat (first | apply Kd.R_alloc | apply Kd.R_drewN | apply Kd.R_drew)); exact Kd.R_mono HO_8.out (fun _ hk => hk.2)⟩, ⟨by (with_reducible repeat (first | apply Kd.R_alloc | apply Kd.R_drewN | apply Kd.R_drew)); exact HO_14.out⟩, ⟨by repeat (first | (with_reducible first | exact HB.out | apply below_alloc | apply pw_below_drewN | apply below_drew1) | exact HB.out)⟩⟩
                              · rw [if_neg c36] at H
                                exact absurd H (by simp)
                            · rw [if_neg c35] at H
                              exact absurd H (by simp)
                          · rw [if_neg c34] at H
                            exact absurd H (by simp)
                        · rw [if_neg c33] at H
                          exact absurd H (by simp)
                    · rw [if_neg c23] at H
                      have c23b0 : (t205 == 0) = false := beq_eq_false_iff_ne.mpr c23
                      have c23b1 : (t205 != 0) = true := bne_iff_ne.mpr c23
                      by_cases c40 : 0 ≤ x15_2
                      · rw [if_pos c40] at H
                        have c40b0 : decide (0 ≤ x15_2) = true := decide_eq_true c40
                        clear c40
                        by_cases c41 : x15_2 < (l1.length : Int)
                        · rw [if_pos c41] at H
                          have c41b0 : decide (x15_2 < (l1.length : Int)) = true := decide_eq_true c41
                          clear c41
                          by_cases c42 : 0 ≤ x16_2
                          · rw [if_pos c42] at H
                            have c42b0 : decide (0 ≤ x16_2) = true := decide_eq_true c42
                            clear c42
                            by_cases c43 : x16_2 < (x14_2.length : Int)
                            · rw [if_pos c43] at H
                              have c43b0 : decide (x16_2 < (x14_2.length : Int)) = true := decide_eq_true c43
                              clear c43
                              obtain ⟨y211, hy211⟩ : ∃ y_ : List Int, y_ = (x14_2.set (x16_2 : Int).toNat (rd l1 x15_2)) := ⟨_, rfl⟩
                              replace H : (valiseref21_table.l1 k2 l1 a2 x8_1 y211 x15_2 (wrap64 (x16_2 + 1))) = some (r1, r2) := by first | (rw [hy211]; with_reducible exact H) | (have H2_ := (Option.bind_some _ _).symm.trans H; rw [hy211]; with_reducible exact H2_) | (have H2_ := (Option.bind_some _ _).symm.trans H; with_reducible exact H2_) | with_reducible exact H | (rw [hy211]; exact H) | exact H
                              have Ny211 := Aside0.mk hy211
                              clear hy211
                              have H' := Aside0.mk H
                              clear H
                              go_wp2_with (first | ((with_reducible refine gate_callee (f := 48) rfl ?_); refine goesL_ (some 49) rfl rfl Tryd.func48 (by kernel_rfl) rfl #[.int .i64 (wrap64 (x15_2 + 1)), .int .i64 0] rfl (by (try simp only [List.map_toArray, List.map_cons, List.map_nil]); first | done | rfl | (simp only [List.length_drop, List.length_take]; rfl)) ?_; (with_reducible refine (valiseref10_DistOf.calls k2 (wrap64 (x15_2 + 1)) 0 t204 t205 _ A22.out).mono ?_); rintro e w' ⟨rfl, ⟨nd, rfl⟩⟩; refine ⟨_, rfl, ?_⟩; (try (rw [drewN_self wr]; generalize hq_ : World.drewN wr _ = wr; have n0_ : Aside0 (Kd.R (Kd.int .i64) 3 wr w.heap.size (fun k_ => some k_ ≠ (v193 : Value).ownBlock) v202 x14_2) := ⟨by rw [← hq_]; exact (by (with_reducible repeat (first | apply Kd.R_alloc | apply Kd.R_drewN | apply Kd.R_drew)); exact HO_14.out)⟩; have n1_ : Aside0 (Kd.R (Kd.int .i64) 3 wr w.heap.size (fun k_ => some k_ ≠ (v202 : Value).ownBlock) v193 x8_1) := ⟨by rw [← hq_]; exact (by (with_reducible repeat (first | apply Kd.R_alloc | apply Kd.R_drewN | apply Kd.R_drew)); exact HO_8.out)⟩; have n2_ : Aside0 (Below w.heap.size w wr) := ⟨by rw [← hq_]; exact (by repeat (first | (with_reducible first | exact HB.out | apply below_alloc | apply pw_below_drewN | apply below_drew1) | exact HB.out))⟩; clear HO_14 HO_8 HB hq_; have HO_14 := n0_; have HO_8 := n1_; have HB := n2_; clear n0_ n1_ n2_)); have p210 : 0 ≤ (x15_2 : Int) := of_decide_eq_true (by first | (with_reducible assumption) | assumption); have q210 : x15_2 < (l1.length : Int) := of_decide_eq_true (by first | (with_reducible assumption) | assumption); obtain ⟨ad210, e210, hx210_0⟩ := Kd.at_int HR1.out x15_2 p210 q210; cases e210; replace hx210_0 := (HB.out.cell (World.block_lt_of_cell? w _ hx210_0)).trans hx210_0; replace p210 := eq_true p210; replace q210 := eq_true q210; have p44 : 0 ≤ (x16_2 : Int) := of_decide_eq_true (by first | (with_reducible assumption) | assumption); have q44 : (x16_2 : Int) < ((x14_2.length : Int) : Int) := of_decide_eq_true (by first | (with_reducible assumption) | assumption); obtain ⟨go44, co44, eo44, gb44, gl44, cl44, HG44⟩ := Kd.R_form HO_14.out (by omega); (first | cases eo44 | (injection eo44 with ea_ en_ ec_; (first | subst ea_ | (injection ea_ with ea_; subst ea_)); subst ec_; clear en_)); have GB44 := Aside0.mk gb44; have GG44 := Aside0.mk HG44; clear gb44 gl44 HG44; obtain ⟨hx44_0, hf44_0⟩ := Kd.R_celln 0 HO_14.out (x16_2 : Int) p44 q44; replace p44 := eq_true p44; replace q44 := eq_true q44; obtain ⟨hy45_, hz45_⟩ := Kd.R_celln 0 HO_14.out (x16_2 : Int) (of_decide_eq_true (by first | (with_reducible assumption) | assumption)) (of_decide_eq_true (by first | (with_reducible assumption) | assumption)); have HP45 := Kd.R_putg HO_14.out (x16_2 : Int) (rd l1 x15_2)) | ((with_reducible refine gate_store (t := 3) (p := 67) rfl ?_); refine store_event (t := 3) (p := 67) (v := ?vo_w46) (w1 := (wr.setCell ⟨go44, (x16_2 : Int).toNat, none⟩ (.int .i64 (rd l1 x15_2)))) ?hg ?ho ?hn ?hr ?_; (case ho => rfl); (case hg => rfl); (case hn => rfl); (case hr => first | (go_simp; done) | (go_simp; rfl)); intro w46 hw; have hg : wr.grownBy w46 (some go44) := (by rw [hw]; exact HP45.2); have hp_ : Kd.R (Kd.int .i64) 3 w46 w.heap.size (fun k_ => some k_ ≠ (v193 : Value).ownBlock) (.slice (some ⟨go44, 0, none⟩) x14_2.length co44) y211 := (by rw [hw, Ny211.out]; exact HP45.1); clear HP45; have n0_ := Aside0.mk (Kd.R_after (v := (.slice (some ⟨go44, 0, none⟩) x14_2.length co44)) (v1 := (.slice (some ⟨go44, 0, none⟩) x14_2.length co44)) (ok := (fun _ => True)) (by (with_reducible repeat (first | apply Kd.R_alloc | apply Kd.R_drewN | apply Kd.R_drew)); exact Kd.R_mono HO_8.out (fun _ hk => ⟨trivial, hk⟩)) hg (.inl rfl)); have n1_ := Aside0.mk (hp_); have n2_ := Aside0.mk ((by rw [hw]; exact below_set (HB.out) GB44.out : Below w.heap.size w w46)); clear HO_8; clear HO_14; clear HB; have HO_8 := n0_; have HO_14 := n1_; have HB := n2_; clear n0_ n1_ n2_; clear hg hw hp_))
                              go_roundg k2
                              case measure => have := HK1.out; have := HK2.out; omega
                              case rel => exact ⟨(y211), (x15_2), (wrap64 (x16_2 + 1)), (by first | rfl | (simp; done) | (simp [*]; done)), (by first | rfl | (simp; done) | (simp [*]; done)), H', ⟨by have := HK1.out; have := HK2.out; omega⟩, ⟨by (with_reducible repeat (first | apply Kd.R_alloc | apply Kd.R_drewN | apply Kd.R_drew)); exact Kd.R_mono HO_8.out (fun _ hk => hk.2)⟩, ⟨by (with_reducible repeat (first | apply Kd.R_alloc | apply Kd.R_drewN | apply Kd.R_drew)); exact HO_14.out⟩, ⟨by repeat (first | (with_reducible first | exact HB.out | apply below_alloc | apply pw_below_drewN | apply below_drew1) | exact HB.out)⟩⟩
                            · rw [if_neg c43] at H
                              exact absurd H (by simp)
                          · rw [if_neg c42] at H
                            exact absurd H (by simp)
                        · rw [if_neg c41] at H
                          exact absurd H (by simp)
                      · rw [if_neg c40] at H
                        exact absurd H (by simp)
                  · rw [if_neg c21] at H
                    have c21b0 : decide (x16_2 ≤ a2) = false := decide_eq_false c21
                    clear c21
                    simp only [Option.some.injEq, Prod.mk.injEq] at H
                    obtain ⟨rfl, rfl⟩ := H
                    go_wp2
                    go_ret2
                    exact ⟨_, _, by first | rfl | (simp [errW_none, errW_some] <;> rfl) | (simp only [← hji16]; first | rfl | (simp [errW_none, errW_some] <;> rfl)) | (simp [*, errW_none, errW_some] <;> rfl), by (with_reducible repeat (first | apply Kd.R_alloc | apply Kd.R_drewN | apply Kd.R_drew)); exact HO_8.out, by (with_reducible repeat (first | apply Kd.R_alloc | apply Kd.R_drewN | apply Kd.R_drew)); exact HO_14.out, by repeat (first | (with_reducible first | exact HB.out | apply below_alloc | apply pw_below_drewN | apply below_drew1) | exact HB.out)⟩
            · rw [if_neg c18] at H
              exact absurd H (by simp)
          · rw [if_neg c17] at H
            exact absurd H (by simp)
  · rw [if_neg c4] at H
    exact absurd H (by simp)

/-! ### valiseref21_run: function 41 -/
/-! ### valiseref21_run, by hand: how far the bytes d back are the same, up to 258 -/
def valiseref21_run.go (l : List Int) (a d : Int) : Nat → Int → Int
  | 0, m => m
  | n + 1, m => if a + m < (l.length : Int) then (if rd l (a + m - d) = rd l (a + m) then valiseref21_run.go l a d n (m + 1) else m) else m
def valiseref21_run.f (l0 : List Int) (a1 : Int) (a2 : Int) : Option (Int) := if 1 ≤ a2 ∧ a2 ≤ a1 ∧ a1 < (l0.length : Int) ∧ l0.length ≤ 65536 then some (valiseref21_run.go l0 a1 a2 258 0) else none
set_option maxHeartbeats 8000000 in
set_option maxRecDepth 100000 in
theorem valiseref21_run.calls (A0 : Option Addr) (c0 : Nat) (l0 : List Int) (a1 : Int) (a2 : Int) (r1 : Int) (w : World) (hr0 : Kd.C (Kd.int .u8) w A0 l0.length l0) (hc0 : l0.length ≤ c0) (h : valiseref21_run.f l0 a1 a2 = some r1) :
    Calls Tryd.prog 41 #[.slice A0 l0.length c0, .int .i64 a1, .int .i64 a2] w fun e w' => e = .returned (.int .i64 r1) ∧ Drawn0 w w' := by
  obtain ⟨hq, hr⟩ : (1 ≤ a2 ∧ a2 ≤ a1 ∧ a1 < (l0.length : Int) ∧ l0.length ≤ 65536) ∧ valiseref21_run.go l0 a1 a2 258 0 = r1 := by
    unfold valiseref21_run.f at h
    split at h
    · exact ⟨‹_›, Option.some.inj h⟩
    · cases h
  have HQ := Aside0.mk hq
  have HR := Aside0.mk hr
  have HR0 := Aside0.mk hr0
  clear h hr0 hc0 hq hr
  go_enter Tryd.func41, Tryd.ntmps41
  go_wp2
  go_loopg [7] 259 (fun kq v7 w' => ∃ (m : Int), v7 = .int .i64 m ∧ Aside0 (0 ≤ m ∧ m ≤ 258 ∧ kq = (258 - m).toNat + 1 ∧ valiseref21_run.go l0 a1 a2 (258 - m).toNat m = r1) ∧ Drawn0 w w')
  case atStart => exact ⟨0, rfl, ⟨⟨by omega, by omega, by omega, HR.out⟩⟩, Drawn0.refl _⟩
  case round =>
    obtain ⟨m, rfl, HA, ⟨q0, rfl⟩⟩ := hrel
    cases gk with
    | zero => exact absurd HA.out.2.2.1 (by omega)
    | succ k2 =>
      by_cases c1 : m < 258
      · have c1b : decide (m < 258) = true := decide_eq_true c1
        have hgo := HA.out.2.2.2
        rw [show (258 - m).toNat = (258 - (m + 1)).toNat + 1 by omega, valiseref21_run.go] at hgo
        have hs1 : IntKind.i64.wrap (a1 + m) = a1 + m := IntWalk.i64_in _ (by have := HQ.out; have := HA.out; omega)
        by_cases c2 : a1 + m < (l0.length : Int)
        · rw [if_pos c2] at hgo
          have c2b : decide (a1 + m < (l0.length : Int)) = true := decide_eq_true c2
          have m0 : 0 ≤ m := HA.out.1
          have x0 : 0 ≤ a1 + m := by have := HQ.out; omega
          have x1 : 0 ≤ a1 + m - a2 := by have := HQ.out; omega
          have x2 : a1 + m - a2 < (l0.length : Int) := by have := HQ.out; omega
          obtain ⟨ad, e1, y1⟩ := Kd.at_int HR0.out (a1 + m - a2) x1 x2
          cases e1
          obtain ⟨ad2, e2, y2⟩ := Kd.at_int HR0.out (a1 + m) x0 c2
          cases e2
          obtain ⟨p, hp⟩ : ∃ p, rd l0 (a1 + m - a2) = p := ⟨_, rfl⟩
          obtain ⟨q, hq⟩ : ∃ q, rd l0 (a1 + m) = q := ⟨_, rfl⟩
          rw [hp] at y1 hgo
          rw [hq] at y2 hgo
          have hs2 : IntKind.i64.wrap (a1 + m - a2) = a1 + m - a2 := IntWalk.i64_in _ (by clear hs1; have := HQ.out; have := HA.out; omega)
          have HW := Aside0.mk (show wrap64 (m + 1) = m + 1 by unfold wrap64; omega)
          have HAA := Aside0.mk (show 0 ≤ m + 1 ∧ m + 1 ≤ 258 ∧ k2 = (258 - (m + 1)).toNat + 1 by clear hs1 hs2; have := HA.out; omega)
          by_cases c3 : p = q
          · rw [if_pos c3] at hgo
            have c3b : (p == q) = true := beq_iff_eq.2 c3
            have HGO := Aside0.mk hgo
            clear hp hq hgo HA
            go_wp2
            go_quiet (fail)
            clear hs1 hs2
            go_wp2
            go_roundg k2
            case measure => omega
            case rel => exact ⟨m + 1, (by first | rfl | (simp; done) | (simp [*]; done)), ⟨by exact ⟨HAA.out.1, HAA.out.2.1, HAA.out.2.2, HGO.out⟩⟩, by repeat (first | exact Drawn0.refl _ | apply Drawn0.step)⟩
          · rw [if_neg c3] at hgo
            have c3b : (p == q) = false := beq_eq_false_iff_ne.2 c3
            subst hgo
            clear hp hq HA
            go_wp2
            go_quiet (fail)
            clear hs1 hs2
            go_wp2
            go_ret
            exact ⟨rfl, by repeat (first | exact Drawn0.refl _ | apply Drawn0.step)⟩
        · rw [if_neg c2] at hgo
          have c2b : decide (a1 + m < (l0.length : Int)) = false := decide_eq_false c2
          subst hgo
          clear HA c2
          go_wp2
          go_quiet (fail)
          clear hs1
          go_wp2
          go_ret
          exact ⟨rfl, by repeat (first | exact Drawn0.refl _ | apply Drawn0.step)⟩
      · have c1b : decide (m < 258) = false := decide_eq_false c1
        have hgo := HA.out.2.2.2
        rw [show (258 - m).toNat = 0 by omega, valiseref21_run.go] at hgo
        subst hgo
        clear HA c1
        go_wp2
        go_quiet (fail)
        go_wp2
        go_ret
        exact ⟨rfl, by repeat (first | exact Drawn0.refl _ | apply Drawn0.step)⟩

end Go.Proofs.YtpndhoefmepfdaaDoor.PSq
