/- squeeze.search in memory: its block of 265 cells, and the array of 259 pairs, as functions. -/
import Derived.Test.YtpndhoefmepfdaaDoorPSqgA
import Derived.Test.YtpndhoefmepfdaaDoorPSqgB
namespace Go.Proofs.YtpndhoefmepfdaaDoor.PSq
open Go.RowKit Go.Proofs.YtpndhoefmepfdaaDoorW.PrintWords Go.Proofs.YtpndhoefmepfdaaDoorW.PrintLast Go.Proofs.YtpndhoefmepfdaaDoorW.PrintMore
set_option linter.unusedVariables false
def nums259 (L : Int → Int) : List Value := (List.range 259).map fun (j : Nat) => Value.int .i64 (L (j : Int))
def gcells (vd vD vU vT vP vL : Value) (L : Int → Int) : Array Value := ([vd] ++ nums259 L ++ [vD, vU, vT, vP, vL]).toArray
def updI {β : Type} (f : Int → β) (i : Int) (v : β) : Int → β := fun j => if j = i then v else f j
theorem nums_len (L : Int → Int) : (nums259 L).length = 259 := by simp [nums259]
theorem gcells_size (vd vD vU vT vP vL : Value) (L : Int → Int) : (gcells vd vD vU vT vP vL L).size = 265 := by simp [gcells, nums_len]
theorem g_data (vd vD vU vT vP vL : Value) (L : Int → Int) : (gcells vd vD vU vT vP vL L)[0]? = some vd := by simp [gcells]
theorem g_tail (vd vD vU vT vP vL : Value) (L : Int → Int) (j : Nat) (hj : j < 5) : (gcells vd vD vU vT vP vL L)[260 + j]? = [vD, vU, vT, vP, vL][j]? := by
  unfold gcells
  rw [List.getElem?_toArray, List.getElem?_append_right (by simp [nums_len])]
  simp [nums_len]
theorem g_len (vd vD vU vT vP vL : Value) (L : Int → Int) (m : Int) (h0 : 0 ≤ m) (h1 : m < 259) : (gcells vd vD vU vT vP vL L)[1 + m.toNat]? = some (.int .i64 (L m)) := by
  unfold gcells
  rw [List.getElem?_toArray, List.getElem?_append_left (by simp [nums_len]; omega), List.getElem?_append_right (by simp)]
  unfold nums259
  simp only [List.length_singleton, Nat.add_sub_cancel_left]
  rw [List.getElem?_map, List.getElem?_range (by omega)]
  simp [Int.toNat_of_nonneg h0]
theorem g_set (vd vD vU vT vP vL : Value) (L : Int → Int) (m v : Int) (h0 : 0 ≤ m) (h1 : m < 259) : (gcells vd vD vU vT vP vL L).setIfInBounds (1 + m.toNat) (.int .i64 v) = gcells vd vD vU vT vP vL (updI L m v) := by
  apply Array.ext'
  unfold gcells
  rw [Array.toList_setIfInBounds, List.toList_toArray, List.toList_toArray]
  rw [List.set_append_left _ _ (by simp [nums_len]; omega), List.set_append_right _ _ (by simp)]
  congr 2
  simp only [List.length_singleton, Nat.add_sub_cancel_left]
  apply List.ext_getElem?
  intro j
  unfold nums259
  rw [List.getElem?_set]
  by_cases hj : j < 259
  · rw [List.getElem?_map, List.getElem?_map, List.getElem?_range hj]
    by_cases e : m.toNat = j
    · rw [if_pos e, if_pos (by simp; omega)]
      simp [updI, show ((j : Nat) : Int) = m by omega]
    · rw [if_neg e]
      simp [updI, show ¬ ((j : Nat) : Int) = m by omega]
  · rw [if_neg (by omega), List.getElem?_eq_none (by simp; omega), List.getElem?_eq_none (by simp; omega)]
/-- The array of pairs: by length, the price of a distance and the distance. -/
def pairs (b : Int → Int × Int) : Nat → Nat → List Value
  | 0, _ => []
  | n + 1, j => Value.int .i64 (b (j : Int)).1 :: Value.int .i64 (b (j : Int)).2 :: pairs b n (j + 1)
theorem pairs_len (b : Int → Int × Int) : ∀ n j, (pairs b n j).length = 2 * n := by
  intro n
  induction n with
  | zero => intro j; rfl
  | succ n ih => intro j; rw [pairs, List.length_cons, List.length_cons, ih]; omega
theorem pairs_get (b : Int → Int × Int) : ∀ n j i, i < n → (pairs b n j)[2 * i]? = some (.int .i64 (b ((j + i : Nat) : Int)).1) ∧ (pairs b n j)[2 * i + 1]? = some (.int .i64 (b ((j + i : Nat) : Int)).2) := by
  intro n
  induction n with
  | zero => intro j i h; omega
  | succ n ih =>
    intro j i h
    rw [pairs]
    rcases i with _ | i
    · exact ⟨rfl, rfl⟩
    · have := ih (j + 1) i (by omega)
      rw [show j + 1 + i = j + (i + 1) by omega] at this
      rw [show 2 * (i + 1) = 2 * i + 1 + 1 by omega, List.getElem?_cons_succ, List.getElem?_cons_succ, List.getElem?_cons_succ, List.getElem?_cons_succ]
      exact this
theorem pairs_set (b : Int → Int × Int) (p : Int × Int) : ∀ n j i, i < n → ((pairs b n j).set (2 * i) (.int .i64 p.1)).set (2 * i + 1) (.int .i64 p.2) = pairs (updI b ((j + i : Nat) : Int) p) n j := by
  have same : ∀ (n j : Nat) (c : Int), c < (j : Int) → pairs (updI b c p) n j = pairs b n j := by
    intro n
    induction n with
    | zero => intro j c _; rfl
    | succ n ih =>
      intro j c hc
      rw [pairs, pairs, ih (j + 1) c (by omega)]
      have : updI b c p (j : Int) = b (j : Int) := if_neg (by omega)
      rw [this]
  intro n
  induction n with
  | zero => intro j i h; omega
  | succ n ih =>
    intro j i h
    rw [pairs, pairs]
    rcases i with _ | i
    · rw [same n (j + 1) ((j + 0 : Nat) : Int) (by omega)]
      have : updI b ((j + 0 : Nat) : Int) p (j : Int) = p := if_pos rfl
      rw [this]
      rfl
    · have := ih (j + 1) i (by omega)
      rw [show j + 1 + i = j + (i + 1) by omega] at this
      rw [show 2 * (i + 1) = 2 * i + 1 + 1 by omega, List.set_cons_succ, List.set_cons_succ, List.set_cons_succ, List.set_cons_succ, this]
      have : updI b ((j + (i + 1) : Nat) : Int) p (j : Int) = b (j : Int) := if_neg (by omega)
      rw [this]
def bcells (b : Int → Int × Int) : Array Value := (pairs b 259 0).toArray
theorem bcells_size (b : Int → Int × Int) : (bcells b).size = 518 := by unfold bcells; rw [List.size_toArray, pairs_len]
theorem b_get (b : Int → Int × Int) (m : Int) (h0 : 0 ≤ m) (h1 : m < 259) : (bcells b)[m.toNat * 2]? = some (.int .i64 (b m).1) ∧ (bcells b)[m.toNat * 2 + 1]? = some (.int .i64 (b m).2) := by
  have h := pairs_get b 259 0 m.toNat (by omega)
  rw [Nat.zero_add, Int.toNat_of_nonneg h0, Nat.mul_comm 2] at h
  unfold bcells
  rw [List.getElem?_toArray, List.getElem?_toArray]
  exact h
theorem b_set (b : Int → Int × Int) (m : Int) (p : Int × Int) (h0 : 0 ≤ m) (h1 : m < 259) : ((bcells b).setIfInBounds (m.toNat * 2) (.int .i64 p.1)).setIfInBounds (m.toNat * 2 + 1) (.int .i64 p.2) = bcells (updI b m p) := by
  have h := pairs_set b p 259 0 m.toNat (by omega)
  rw [Nat.zero_add, Int.toNat_of_nonneg h0, Nat.mul_comm 2] at h
  unfold bcells
  apply Array.ext'
  rw [Array.toList_setIfInBounds, Array.toList_setIfInBounds, List.toList_toArray, List.toList_toArray]
  exact h
end Go.Proofs.YtpndhoefmepfdaaDoor.PSq
