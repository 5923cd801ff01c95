/- The lists that a law copies and compares with themselves. Plain law: no memory and no program. -/
import Derived.Test.YtpndhoefmepfdaaDoorPSqgA
import Derived.Test.YtpndhoefmepfdaaDoorPSqgB
namespace Go.Proofs.YtpndhoefmepfdaaDoor.SqSelf
open Go.RowKit Go.Proofs.YtpndhoefmepfdaaDoor.PSq Go.Proofs.YtpndhoefmepfdaaDoorW.PrintWords Go.Proofs.YtpndhoefmepfdaaDoorW.PrintLast
set_option linter.unusedVariables false
theorem wrap_id {x : Int} (h0 : -9223372036854775808 ≤ x) (h1 : x ≤ 9223372036854775807) : wrap64 x = x := by unfold wrap64; omega
theorem copy_whole {α : Type} (l y : List α) (h : y.length = l.length) : l.take (min l.length y.length) ++ y.drop (min l.length y.length) = l := by
  rw [h, Nat.min_self, List.take_length, ← h, List.drop_length, List.append_nil]
theorem ints_eq (l : List Int) (h : l.length * 8 ≤ 140737488351232) : valiselaw21_ints.f l = some l := by
  unfold valiselaw21_ints.f
  rw [if_pos (by omega), if_pos (by omega), Option.bind_some, copy_whole l _ (by rw [List.length_replicate]; omega)]
theorem list_eq (l : List S56) (h : l.length * 24 ≤ 140737488351232) : valiselaw21_list.f l = some l := by
  unfold valiselaw21_list.f
  rw [if_pos (by omega), if_pos (by omega), Option.bind_some, copy_whole l _ (by rw [List.length_replicate]; omega)]

theorem alike_from (l : List S56) (hl : l.length ≤ 9223372036854775806) : ∀ (n i : Nat), i + n = l.length → ∀ k, n < k → valiselaw21_alike.l0 k l l (i : Int) = some true := by
  intro n
  induction n with
  | zero =>
    intro i hi k hk
    obtain ⟨k, rfl⟩ : ∃ q, k = q + 1 := ⟨k - 1, by omega⟩
    rw [valiselaw21_alike.l0, if_neg (by omega)]
  | succ n ih =>
    intro i hi k hk
    obtain ⟨k, rfl⟩ : ∃ q, k = q + 1 := ⟨k - 1, by omega⟩
    rw [valiselaw21_alike.l0, if_pos (by omega), if_pos (by omega), if_pos (by omega), if_neg (by simp), wrap_id (by omega) (by omega)]
    exact ih (i + 1) (by omega) k (by omega)
theorem alike_self (l : List S56) (hl : l.length ≤ 9223372036854775806) (k : Nat) (hk : l.length < k) : valiselaw21_alike.l0 k l l 0 = some true := alike_from l hl l.length 0 (by omega) k hk
theorem equal_from (l : List Int) (hl : l.length ≤ 9223372036854775806) : ∀ (n i : Nat), i + n = l.length → ∀ k, n < k → valiselaw21_equal.l0 k l l (i : Int) = some true := by
  intro n
  induction n with
  | zero =>
    intro i hi k hk
    obtain ⟨k, rfl⟩ : ∃ q, k = q + 1 := ⟨k - 1, by omega⟩
    rw [valiselaw21_equal.l0, if_neg (by omega)]
  | succ n ih =>
    intro i hi k hk
    obtain ⟨k, rfl⟩ : ∃ q, k = q + 1 := ⟨k - 1, by omega⟩
    rw [valiselaw21_equal.l0, if_pos (by omega), if_pos (by omega), if_pos (by omega), if_pos rfl, wrap_id (by omega) (by omega)]
    exact ih (i + 1) (by omega) k (by omega)

theorem equal_self (l : List Int) (hl : l.length ≤ 9223372036854775806) (k : Nat) (hk : l.length < k) : valiselaw21_equal.l0 k l l 0 = some true := equal_from l hl l.length 0 (by omega) k hk

theorem clone_eq (l : List Int) (h : l.length ≤ 140737488351232) : valiselaw21_clone.f l = some l := by
  unfold valiselaw21_clone.f
  rw [if_pos (by omega), if_pos (by omega), Option.bind_some, copy_whole l _ (by rw [List.length_replicate]; omega)]
theorem same_from (l : List Int) (hl : l.length ≤ 9223372036854775806) : ∀ (n i : Nat), i + n = l.length → ∀ k, n < k → valiselaw21_same.l0 k l l (i : Int) = some true := by
  intro n
  induction n with
  | zero =>
    intro i hi k hk
    obtain ⟨k, rfl⟩ : ∃ q, k = q + 1 := ⟨k - 1, by omega⟩
    rw [valiselaw21_same.l0, if_neg (by omega)]
  | succ n ih =>
    intro i hi k hk
    obtain ⟨k, rfl⟩ : ∃ q, k = q + 1 := ⟨k - 1, by omega⟩
    rw [valiselaw21_same.l0, if_pos (by omega), if_pos (by omega), if_pos (by omega), if_pos rfl, wrap_id (by omega) (by omega)]
    exact ih (i + 1) (by omega) k (by omega)
theorem same_self (l : List Int) (hl : l.length ≤ 9223372036854775806) (k : Nat) (hk : l.length < k) : valiselaw21_same.f k l l = some true := by
  unfold valiselaw21_same.f
  rw [if_pos rfl]
  exact same_from l hl l.length 0 (by omega) k hk
end Go.Proofs.YtpndhoefmepfdaaDoor.SqSelf
