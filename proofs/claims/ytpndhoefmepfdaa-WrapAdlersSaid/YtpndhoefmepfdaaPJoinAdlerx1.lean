-- PRINTED BY print.sh 35421559b90ae4d0a3588c463048766b98c2df88dd9212a6774a882060cdf62d: not written by this session
import Derived.Test.YtpndhoefmepfdaaPJoinAdlerx0
namespace Go.Proofs.Ytpndhoefmepfdaa.PJoinAdler
open Go.RowKit Go.Proofs.YtpndhoefmepfdaaW.PrintWords Go.Proofs.YtpndhoefmepfdaaW.PrintLast Go.Proofs.YtpndhoefmepfdaaW.PrintMore
attribute [local go_sem] max2_int min2_int max_two min_two max_three min_three max_four min_four   -- for this text's walks alone
set_option linter.unusedVariables false
set_option linter.unusedSimpArgs false

/-! ### valiseref23_JoinAdler: function 13 -/
def valiseref23_JoinAdler.f (a0 : Int) (a1 : Int) (a2 : Int) : Option (Int × Int) := if a2 < 0 then (some (0, 1)) else (if a2 > 16777216 then (some (0, 1)) else (some ((wrap64 ((wrap64 ((Int.tmod (wrap64 ((wrap64 ((wrap64 (Int.tdiv (wrap64 (a0)) 65536)) + (wrap64 (Int.tdiv (wrap64 (a1)) 65536)))) + (wrap64 (a2 * (wrap64 ((Int.tmod (wrap64 (a0)) 65536) + 65520)))))) 65521) * 65536)) + (Int.tmod (wrap64 ((wrap64 ((Int.tmod (wrap64 (a0)) 65536) + (Int.tmod (wrap64 (a1)) 65536))) + 65520)) 65521))) % 4294967296, 0)))
set_option maxHeartbeats 8000000 in
set_option maxRecDepth 100000 in
theorem valiseref23_JoinAdler.calls (a0 : Int) (a1 : Int) (a2 : Int) (r1 : Int) (r2 : Int) (w : World) (h : valiseref23_JoinAdler.f a0 a1 a2 = some (r1, r2)) :
    Calls Try.prog 13 #[.int .u32 a0, .int .u32 a1, .int .i64 a2] w fun e w' => e = .returned (.tuple #[.int .u32 r1, .int .i64 r2]) ∧ Drawn0 w w' := by
  have H : (if a2 < 0 then (some (0, 1)) else (if a2 > 16777216 then (some (0, 1)) else (some ((wrap64 ((wrap64 ((Int.tmod (wrap64 ((wrap64 ((wrap64 (Int.tdiv (wrap64 (a0)) 65536)) + (wrap64 (Int.tdiv (wrap64 (a1)) 65536)))) + (wrap64 (a2 * (wrap64 ((Int.tmod (wrap64 (a0)) 65536) + 65520)))))) 65521) * 65536)) + (Int.tmod (wrap64 ((wrap64 ((Int.tmod (wrap64 (a0)) 65536) + (Int.tmod (wrap64 (a1)) 65536))) + 65520)) 65521))) % 4294967296, 0)))) = some (r1, r2) := h
  clear h
  by_cases c4 : a2 < 0
  · rw [if_pos c4] at H
    have c4b0 : decide (a2 < 0) = true := decide_eq_true c4
    clear c4
    simp only [Option.some.injEq, Prod.mk.injEq] at H
    obtain ⟨rfl, rfl⟩ := H
    go_enter Try.func13, Try.ntmps13
    go_wp2
    go_ret2
    exact ⟨by first | rfl | (simp; done) | (simp [*]; done), by repeat (first | exact Drawn0.refl _ | apply Drawn0.step)⟩
  · rw [if_neg c4] at H
    have c4b0 : decide (a2 < 0) = false := decide_eq_false c4
    clear c4
    by_cases c5 : a2 > 16777216
    · rw [if_pos c5] at H
      have c5b0 : decide (16777216 < a2) = true := decide_eq_true c5
      clear c5
      simp only [Option.some.injEq, Prod.mk.injEq] at H
      obtain ⟨rfl, rfl⟩ := H
      go_enter Try.func13, Try.ntmps13
      go_wp2
      go_ret2
      exact ⟨by first | rfl | (simp; done) | (simp [*]; done), by repeat (first | exact Drawn0.refl _ | apply Drawn0.step)⟩
    · rw [if_neg c5] at H
      have c5b0 : decide (16777216 < a2) = false := decide_eq_false c5
      clear c5
      simp only [Option.some.injEq, Prod.mk.injEq] at H
      obtain ⟨rfl, rfl⟩ := H
      go_enter Try.func13, Try.ntmps13
      go_wp2
      go_ret2
      exact ⟨by first | rfl | (simp; done) | (simp [*]; done), by repeat (first | exact Drawn0.refl _ | apply Drawn0.step)⟩

end Go.Proofs.Ytpndhoefmepfdaa.PJoinAdler
