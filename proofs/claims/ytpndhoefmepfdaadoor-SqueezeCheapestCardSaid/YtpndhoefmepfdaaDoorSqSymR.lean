/- The symbols of lengths and distances: the program's tables and the document's search tell the same, for every length and distance. Plain law: no memory and no program. -/
import Derived.Test.YtpndhoefmepfdaaDoorSqSym0
import Derived.Test.YtpndhoefmepfdaaDoorPSqgC
import Derived.KernelRfl
namespace Go.Proofs.YtpndhoefmepfdaaDoor.SqSym
open Go.RowKit Go.Proofs.YtpndhoefmepfdaaDoor.PSq Go.Proofs.YtpndhoefmepfdaaDoor.TS Go.Proofs.YtpndhoefmepfdaaDoorW.PrintWords Go.Proofs.YtpndhoefmepfdaaDoorW.PrintLast
set_option linter.unusedVariables false
def lenOk (a : Int) : Bool := match block_LengthSymbol.f 40 a, valiseref10_LengthSymbol.f 200 a with
  | some (s, b, x, e), some (s', b', x', e') => s == s' && b == b' && x == x' && e == 0 && e' == 0 && decide (257 ≤ s) && decide (s ≤ 285)
  | _, _ => false
theorem len_all : ((List.range 256).all fun n => lenOk ((n : Int) + 3)) = true := by decide +kernel
/-- Both tell one symbol of a length. -/
theorem len_sym (a : Int) (h0 : 3 ≤ a) (h1 : a ≤ 258) (k : Nat) (hk : 200 ≤ k) : ∃ s b x : Int, block_LengthSymbol.f k a = some (s, b, x, 0) ∧ valiseref10_LengthSymbol.f k a = some (s, b, x, 0) ∧ 257 ≤ s ∧ s ≤ 285 := by
  have h := List.all_eq_true.1 len_all (a - 3).toNat (by rw [List.mem_range]; omega)
  have e : (((a - 3).toNat : Nat) : Int) + 3 = a := by omega
  rw [e] at h
  unfold lenOk at h
  split at h
  · rename_i s b x e1 s' b' x' e2 g1 g2
    simp only [Bool.and_eq_true, beq_iff_eq, decide_eq_true_eq] at h
    obtain ⟨⟨⟨⟨⟨⟨rfl, rfl⟩, rfl⟩, rfl⟩, rfl⟩, h5⟩, h6⟩ := h
    exact ⟨s, b, x, at_rounds (block_LengthSymbol.mono a) (by omega) g1, at_rounds (valiseref10_LengthSymbol.mono a) (by omega) g2, h5, h6⟩
  · cases h
theorem len_no (a : Int) (h : a < 3 ∨ 258 < a) (k : Nat) : block_LengthSymbol.f (k + 1) a = some (0, 0, 0, 1) ∧ valiseref10_LengthSymbol.f (k + 1) a = some (0, 0, 0, 1) := by
  unfold block_LengthSymbol.f valiseref10_LengthSymbol.f
  by_cases h3 : a < 3
  · rw [if_pos h3, if_pos h3, block_LengthSymbol.j0, valiseref10_LengthSymbol.j0]
    exact ⟨rfl, rfl⟩
  · rw [if_neg h3, if_neg h3, decide_eq_true (show a > 258 by omega), block_LengthSymbol.j0, valiseref10_LengthSymbol.j0]
    exact ⟨rfl, rfl⟩

theorem base_all : ((List.range 31).all fun s => valiseref10_distBase.f 60 (s : Int) == some (rd T (s : Int))) = true := by decide +kernel
theorem bits_all : ((List.range 30).all fun s => valiseref10_distBits.f (s : Int) == some (rd tab5 (s : Int))) = true := by decide +kernel
theorem base_at (s : Nat) (hs : s ≤ 30) (k : Nat) (hk : 60 ≤ k) : valiseref10_distBase.f k (s : Int) = some (rd T (s : Int)) :=
  at_rounds (valiseref10_distBase.mono _) hk (by simpa using List.all_eq_true.1 base_all s (by rw [List.mem_range]; omega))
theorem bits_at (s : Nat) (hs : s ≤ 29) : valiseref10_distBits.f (s : Int) = some (rd tab5 (s : Int)) := by simpa using List.all_eq_true.1 bits_all s (by rw [List.mem_range]; omega)
end Go.Proofs.YtpndhoefmepfdaaDoor.SqSym
