/- The symbols of lengths and distances, as the program's tables tell them. Plain law: no memory and no program. -/
import Derived.Test.YtpndhoefmepfdaaDoorPSqgA
import Derived.KernelRfl
namespace Go.Proofs.YtpndhoefmepfdaaDoor.SqSym
open Go.RowKit Go.Proofs.YtpndhoefmepfdaaDoor.PSq Go.Proofs.YtpndhoefmepfdaaDoor.TS Go.Proofs.YtpndhoefmepfdaaDoorW.PrintWords Go.Proofs.YtpndhoefmepfdaaDoorW.PrintLast
set_option linter.unusedVariables false
theorem wrap_id {x : Int} (h0 : -9223372036854775808 ≤ x) (h1 : x ≤ 9223372036854775807) : wrap64 x = x := by unfold wrap64; omega
def lenOk0 (a : Int) : Bool := match block_LengthSymbol.f 40 a with
  | some (s, b, x, e) => e == 0 && decide (257 ≤ s) && decide (s ≤ 285)
  | _ => false
theorem len_all0 : ((List.range 256).all fun n => lenOk0 ((n : Int) + 3)) = true := by decide +kernel
theorem len_sym0 (a : Int) (h0 : 3 ≤ a) (h1 : a ≤ 258) (k : Nat) (hk : 200 ≤ k) : ∃ s b x : Int, block_LengthSymbol.f k a = some (s, b, x, 0) ∧ 257 ≤ s ∧ s ≤ 285 := by
  have h := List.all_eq_true.1 len_all0 (a - 3).toNat (by rw [List.mem_range]; omega)
  have e : (((a - 3).toNat : Nat) : Int) + 3 = a := by omega
  rw [e] at h
  unfold lenOk0 at h
  split at h
  · rename_i s b x e1 g1
    simp only [Bool.and_eq_true, beq_iff_eq, decide_eq_true_eq] at h
    obtain ⟨⟨rfl, h5⟩, h6⟩ := h
    exact ⟨s, b, x, at_rounds (block_LengthSymbol.mono a) (by omega) g1, h5, h6⟩
  · cases h
theorem len_no0 (a : Int) (h : a < 3 ∨ 258 < a) (k : Nat) : block_LengthSymbol.f (k + 1) a = some (0, 0, 0, 1) := by
  unfold block_LengthSymbol.f
  by_cases h3 : a < 3
  · rw [if_pos h3, block_LengthSymbol.j0]
    rfl
  · rw [if_neg h3, decide_eq_true (show a > 258 by omega), block_LengthSymbol.j0]
    rfl
/-- The distances' bases, and behind them the first number beyond all. -/
def T : List Int := tab4 ++ [32769]
theorem mono_all : ((List.range 31).all fun i => (List.range 31).all fun j => decide (j < i) || decide (rd T (i : Int) ≤ rd T (j : Int))) = true := by decide +kernel
theorem low_all : ((List.range 30).all fun i => rd T (i : Int) == rd tab4 (i : Int)) = true := by decide +kernel
theorem mono_at (i j : Nat) (hij : i ≤ j) (hj : j ≤ 30) : rd T (i : Int) ≤ rd T (j : Int) := by
  have h := List.all_eq_true.1 (List.all_eq_true.1 mono_all i (by rw [List.mem_range]; omega)) j (by rw [List.mem_range]; omega)
  simp only [Bool.or_eq_true, decide_eq_true_eq] at h
  rcases h with h | h
  · omega
  · exact h
theorem low_at (i : Nat) (hi : i ≤ 29) : rd tab4 (i : Int) = rd T (i : Int) := by
  have h := List.all_eq_true.1 low_all i (by rw [List.mem_range]; omega)
  exact (beq_iff_eq.1 h).symm
theorem place_of (d : Int) (h0 : rd T (0 : Nat) ≤ d) : ∀ n : Nat, d < rd T (n : Int) → ∃ i : Nat, i < n ∧ rd T (i : Int) ≤ d ∧ d < rd T ((i + 1 : Nat) : Int) := by
  intro n
  induction n with
  | zero => intro h; exact absurd h (by have : ((0 : Nat) : Int) = 0 := rfl; omega)
  | succ n ih =>
    intro h
    by_cases hn : d < rd T (n : Int)
    · obtain ⟨i, hi, h1, h2⟩ := ih hn
      exact ⟨i, by omega, h1, h2⟩
    · exact ⟨n, by omega, by omega, h⟩
theorem prog_loop (d : Int) (i : Nat) (h1 : rd T (i : Int) ≤ d) (h2 : d < rd T ((i + 1 : Nat) : Int)) : ∀ (m : Nat), i + m ≤ 29 → ∀ k, m < k → block_DistSymbol.l0 k d ((i + m : Nat) : Int) = some ((i : Int), rd tab5 (i : Int), wrap64 (d - rd tab4 (i : Int)), 0) := by
  intro m
  induction m with
  | zero =>
    intro hm k hk
    obtain ⟨k, rfl⟩ : ∃ q, k = q + 1 := ⟨k - 1, by omega⟩
    rw [block_DistSymbol.l0, if_pos (by omega), if_pos (by omega), Nat.add_zero, low_at i (by omega), if_neg (by omega)]
  | succ m ih =>
    intro hm k hk
    obtain ⟨k, rfl⟩ : ∃ q, k = q + 1 := ⟨k - 1, by omega⟩
    have hmo := mono_at (i + 1) (i + (m + 1)) (by omega) (by omega)
    have hw : wrap64 (((i + (m + 1) : Nat) : Int) - 1) = ((i + m : Nat) : Int) := by rw [wrap_id (by omega) (by omega)]; omega
    rw [block_DistSymbol.l0, if_pos (by omega), if_pos (by omega), low_at (i + (m + 1)) (by omega), if_pos (by omega), hw]
    exact ih (by omega) k (by omega)
theorem T_ends : rd T (0 : Nat) = 1 ∧ rd T ((30 : Nat) : Int) = 32769 := by decide +kernel
theorem dist_sym0 (d : Int) (h0 : 1 ≤ d) (h1 : d ≤ 32768) (k : Nat) (hk : 200 ≤ k) : ∃ s b x : Int, block_DistSymbol.f k d = some (s, b, x, 0) ∧ 0 ≤ s ∧ s ≤ 29 := by
  obtain ⟨i, hi, g1, g2⟩ := place_of d (by rw [T_ends.1]; exact h0) 30 (by rw [T_ends.2]; omega)
  refine ⟨(i : Int), rd tab5 (i : Int), wrap64 (d - rd tab4 (i : Int)), ?_, by omega, by omega⟩
  obtain ⟨k, rfl⟩ : ∃ q, k = q + 1 := ⟨k - 1, by omega⟩
  unfold block_DistSymbol.f
  rw [if_neg (by omega), decide_eq_false (by omega), block_DistSymbol.j0, if_neg (by decide)]
  have h := prog_loop d i g1 g2 (29 - i) (by omega) k (by omega)
  have e : ((i + (29 - i) : Nat) : Int) = 29 := by omega
  rw [e] at h
  exact h
theorem dist_no0 (d : Int) (h : d < 1 ∨ 32768 < d) (k : Nat) : block_DistSymbol.f (k + 1) d = some (0, 0, 0, 1) := by
  unfold block_DistSymbol.f
  by_cases h3 : d < 1
  · rw [if_pos h3, block_DistSymbol.j0]
    rfl
  · rw [if_neg h3, decide_eq_true (show d > 32768 by omega), block_DistSymbol.j0]
    rfl
end Go.Proofs.YtpndhoefmepfdaaDoor.SqSym
