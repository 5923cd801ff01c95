/- deflate.Stored and the document's Stored are one; how long it is; the law's small functions on equal lists. Plain law: no memory and no program. -/
import Derived.Test.YtpndhoefmepfdaaStored
import Derived.Test.YtpndhoefmepfdaaPStx2
namespace Go.Proofs.Ytpndhoefmepfdaa.StPure
open Go.RowKit Go.Proofs.Ytpndhoefmepfdaa.PSt Go.Proofs.YtpndhoefmepfdaaW.PrintWords Go.Proofs.YtpndhoefmepfdaaW.PrintLast Go.Proofs.YtpndhoefmepfdaaW.PrintMore
set_option linter.unusedVariables false
set_option linter.unusedSimpArgs false
theorem wrap_id {x : Int} (h0 : -9223372036854775808 ≤ x) (h1 : x ≤ 9223372036854775807) : wrap64 x = x := by unfold wrap64; omega
theorem copy_whole {α : Type} (l y : List α) (h : y.length = l.length) : l.take (min l.length y.length) ++ y.drop (min l.length y.length) = l := by
  rw [h, Nat.min_self, List.take_length, ← h, List.drop_length, List.append_nil]
theorem copied_eq (l : List Int) (h : l.length ≤ 140737488351232) : valiselaw11_copied.f l = some l := by
  unfold valiselaw11_copied.f
  rw [if_pos (by omega), if_pos (by omega), Option.bind_some, copy_whole l _ (by rw [List.length_replicate]; omega)]
theorem stored_some : ∀ (k : Nat) (out data : List Int), data.length < k → ∃ rr, storedGo k out data = some rr ∧ (rr.length : Int) = out.length + data.length + 5 * mx 1 (((data.length : Int) + 65534) / 65535) := by
  intro k
  induction k with
  | zero => intro out data h; exact absurd h (by omega)
  | succ k ih =>
    intro out data h
    rw [storedGo]
    by_cases hd : (data.length : Int) ≤ 65535
    · rw [if_pos hd]
      refine ⟨_, rfl, ?_⟩
      have : mx 1 (((data.length : Int) + 65534) / 65535) = 1 := by unfold mx; rw [if_neg (by omega)]
      rw [this]
      simp [head5]
      omega
    · rw [if_neg hd]
      obtain ⟨rr, h1, h2⟩ := ih (out ++ head5 65535 0 ++ data.take 65535) (data.drop 65535) (by rw [List.length_drop]; omega)
      refine ⟨rr, h1, ?_⟩
      rw [h2, List.length_append, List.length_append, List.length_take, List.length_drop]
      have e5 : (head5 65535 0).length = 5 := rfl
      rw [e5]
      unfold mx
      split <;> split <;> omega
theorem take_mid {α : Type} (pre mid toks : List α) : (((pre ++ mid ++ toks).take (pre.length + mid.length)).drop pre.length) = mid := by
  rw [← List.length_append, List.take_left, List.drop_left]
theorem stored_ref (l0 : List Int) (hl : l0.length ≤ 16777216) : ∀ (k : Nat) (out pre data rr : List Int), storedGo k out data = some rr → pre ++ data = l0 → (pre = [] ∨ data ≠ []) → out.length ≤ 6 * pre.length →
    ∃ K, ∀ q, K ≤ q → valiseref11_Stored.l0 q l0 out (pre.length : Int) = some (rr, 0) := by
  intro k
  induction k with
  | zero => intro out pre data rr h; simp [storedGo] at h
  | succ k ih =>
    intro out pre data rr h hcat hne ho
    rw [storedGo] at h
    have hlen : l0.length = pre.length + data.length := by rw [← hcat, List.length_append]
    have start : ∀ q, valiseref11_Stored.l0 (q + 1) l0 out (pre.length : Int) = valiseref11_Stored.j1 q l0 out (pre.length : Int) true := by
      intro q
      rw [valiseref11_Stored.l0]
      by_cases hp : (pre.length : Int) < (l0.length : Int)
      · rw [if_pos hp]
      · rw [if_neg hp]
        have : pre = [] := by
          rcases hne with h1 | h1
          · exact h1
          · exact absurd (List.eq_nil_of_length_eq_zero (by omega)) h1
        subst this
        rfl
    have e1 : wrap64 ((l0.length : Int) - (pre.length : Int)) = (data.length : Int) := by rw [wrap_id (by omega) (by omega)]; omega
    by_cases hd : (data.length : Int) ≤ 65535
    · rw [if_pos hd] at h
      obtain rfl := Option.some.inj h
      refine ⟨4, fun q hq => ?_⟩
      obtain ⟨q, rfl⟩ : ∃ z, q = z + 4 := ⟨q - 4, by omega⟩
      rw [start, valiseref11_Stored.j1, if_pos rfl, e1, if_neg (by omega), Option.bind_some]
      have hrow : ([1, (Int.tmod (data.length : Int) 256) % 256, (wrap64 (Int.tdiv (data.length : Int) 256)) % 256, (wrap64 (255 - (Int.tmod (data.length : Int) 256))) % 256, (wrap64 (255 - (wrap64 (Int.tdiv (data.length : Int) 256)))) % 256] : List Int) = head5 (data.length : Int) 1 := by
        unfold head5
        rw [Int.tmod_eq_emod_of_nonneg (by omega), Int.tdiv_eq_ediv_of_nonneg (by omega), wrap_id (x := (data.length : Int) / 256) (by omega) (by omega), wrap_id (x := 255 - (data.length : Int) % 256) (by omega) (by omega), wrap_id (x := 255 - (data.length : Int) / 256) (by omega) (by omega)]
        have a1 : (data.length : Int) % 256 % 256 = (data.length : Int) % 256 := by omega
        have a2 : (data.length : Int) / 256 % 256 = (data.length : Int) / 256 := by omega
        have a3 : (255 - (data.length : Int) % 256) % 256 = (65535 - (data.length : Int)) % 256 := by omega
        have a4 : (255 - (data.length : Int) / 256) % 256 = (65535 - (data.length : Int)) / 256 := by omega
        rw [a1, a2, a3, a4]
      rw [hrow]
      have e5 : (head5 (data.length : Int) 1).length = 5 := rfl
      have e2 : wrap64 ((pre.length : Int) + (data.length : Int)) = (l0.length : Int) := by rw [wrap_id (by omega) (by omega)]; omega
      rw [if_pos (by rw [e5]; omega), Option.bind_some, e2, if_pos (by omega), if_pos (by omega), if_pos (by omega)]
      have hmid : ((l0.take ((l0.length : Int)).toNat).drop ((pre.length : Int)).toNat) = data := by
        rw [Int.toNat_natCast, Int.toNat_natCast, List.take_length, ← hcat, List.drop_left]
      rw [hmid, if_pos (by rw [List.length_append, e5]; omega), valiseref11_Stored.l0, wrap_id (x := (pre.length : Int) + 65535) (by omega) (by omega), if_neg (by omega), valiseref11_Stored.j1, if_neg (by simp; omega)]
    · rw [if_neg hd] at h
      have hcat2 : pre ++ data.take 65535 ++ data.drop 65535 = l0 := by rw [List.append_assoc, List.take_append_drop]; exact hcat
      have ht : (data.take 65535).length = 65535 := by rw [List.length_take]; omega
      have e5 : (head5 65535 0).length = 5 := rfl
      have hdn : data.drop 65535 ≠ [] := fun h0 => by
        have := congrArg List.length h0
        rw [List.length_drop, List.length_nil] at this
        omega
      obtain ⟨tk, etk⟩ : ∃ tk, data.take 65535 = tk := ⟨_, rfl⟩
      obtain ⟨dr, edr⟩ : ∃ dr, data.drop 65535 = dr := ⟨_, rfl⟩
      rw [etk, edr] at h hcat2
      rw [etk] at ht
      rw [edr] at hdn
      obtain ⟨K, hK⟩ := ih (out ++ head5 65535 0 ++ tk) (pre ++ tk) dr rr h hcat2 (.inr hdn) (by rw [List.length_append, List.length_append, List.length_append, e5, ht]; omega)
      refine ⟨K + 3, fun q hq => ?_⟩
      obtain ⟨q, rfl⟩ : ∃ z, q = z + 2 := ⟨q - 2, by omega⟩
      rw [start, valiseref11_Stored.j1, if_pos rfl, e1, if_pos (by omega), Option.bind_some]
      have hrow : ([0, (65535 : Int) % 256, ((65535 : Int) / 256) % 256, 255 - ((65535 : Int) % 256), (255 - ((65535 : Int) / 256)) % 256] : List Int) = head5 65535 0 := by decide
      rw [hrow, if_pos (by rw [e5]; omega), Option.bind_some, wrap_id (x := (pre.length : Int) + 65535) (by omega) (by omega), if_pos (by omega), if_pos (by omega), if_pos (by omega)]
      have hmid : ((l0.take ((pre.length : Int) + 65535).toNat).drop ((pre.length : Int)).toNat) = tk := by
        rw [Int.toNat_natCast, show ((pre.length : Int) + 65535).toNat = pre.length + tk.length by omega, ← hcat2]
        exact take_mid pre tk dr
      rw [hmid, if_pos (by rw [List.length_append, e5]; omega)]
      have := hK q (by omega)
      rwa [List.length_append, ht, show (((pre.length + 65535 : Nat)) : Int) = (pre.length : Int) + 65535 by omega] at this
theorem stores (l0 : List Int) : ∃ (K : Nat) (rr : List Int) (e : Int), deflate_Stored.f l0 = some (rr, e) ∧ valiseref11_Stored.f K l0 = some (rr, e) ∧ rr.length ≤ 17000000 ∧ (e ≠ 0 ∨ (e = 0 ∧ deflate_Bound.f (l0.length : Int) = some ((rr.length : Int), 0))) ∧ ∃ b z : Int, deflate_Bound.f (l0.length : Int) = some (b, z) := by
  unfold deflate_Stored.f valiseref11_Stored.f deflate_Bound.f
  by_cases hN : (l0.length : Int) > 16777216
  · rw [if_pos hN, if_neg (by omega), if_pos hN]
    exact ⟨0, [], 1, rfl, by rw [if_pos hN], by simp, .inl (by decide), _, _, rfl⟩
  · rw [if_neg hN, if_neg (by omega), if_neg hN]
    obtain ⟨rr, h1, h2⟩ := stored_some (l0.length + 1) [] l0 (by omega)
    obtain ⟨K, hK⟩ := stored_ref l0 (by omega) (l0.length + 1) [] [] l0 rr h1 rfl (.inl rfl) (by simp)
    have hlen : (rr.length : Int) = wrap64 ((l0.length : Int) + wrap64 (5 * mx 1 (wrap64 (Int.tdiv (wrap64 (wrap64 ((l0.length : Int) + 65535) - 1)) 65535)))) := by
      rw [wrap_id (x := (l0.length : Int) + 65535) (by omega) (by omega), wrap_id (x := (l0.length : Int) + 65535 - 1) (by omega) (by omega), Int.tdiv_eq_ediv_of_nonneg (by omega), wrap_id (x := ((l0.length : Int) + 65535 - 1) / 65535) (by omega) (by omega),
        show (l0.length : Int) + 65535 - 1 = (l0.length : Int) + 65534 by omega]
      have hb : 1 ≤ mx 1 (((l0.length : Int) + 65534) / 65535) ∧ mx 1 (((l0.length : Int) + 65534) / 65535) ≤ 300 := by unfold mx; split <;> omega
      rw [wrap_id (x := 5 * _) (by omega) (by omega), wrap_id (by omega) (by omega), h2, List.length_nil]
      omega
    refine ⟨K, rr, 0, by rw [h1]; rfl, by rw [if_neg hN]; exact hK K (Nat.le_refl _), ?_, .inr ⟨rfl, by rw [hlen]⟩, _, _, rfl⟩
    have hb : mx 1 (((l0.length : Int) + 65534) / 65535) ≤ 300 := by unfold mx; split <;> omega
    rw [List.length_nil] at h2
    omega
theorem same_from (l : List Int) (hl : l.length ≤ 9223372036854775806) : ∀ (n i : Nat), i + n = l.length → ∀ k, n < k → valiselaw11_same.l0 k l l (i : Int) = some true := by
  intro n
  induction n with
  | zero =>
    intro i hi k hk
    obtain ⟨k, rfl⟩ : ∃ q, k = q + 1 := ⟨k - 1, by omega⟩
    rw [valiselaw11_same.l0, if_neg (by omega)]
  | succ n ih =>
    intro i hi k hk
    obtain ⟨k, rfl⟩ : ∃ q, k = q + 1 := ⟨k - 1, by omega⟩
    rw [valiselaw11_same.l0, if_pos (by omega), if_pos (by omega), if_pos (by omega), if_pos rfl, wrap_id (by omega) (by omega)]
    exact ih (i + 1) (by omega) k (by omega)
theorem same_self (l : List Int) (hl : l.length ≤ 9223372036854775806) : valiselaw11_same.f (l.length + 1) l l = some true := by
  unfold valiselaw11_same.f
  rw [if_pos rfl]
  exact same_from l hl l.length 0 (by omega) _ (by omega)
theorem rd_left (a b : List Int) (i : Int) (h0 : 0 ≤ i) (h1 : i < (a.length : Int)) : rd (a ++ b) i = rd a i := by
  unfold rd
  rw [List.getD_eq_getElem?_getD, List.getD_eq_getElem?_getD, List.getElem?_append_left (by omega)]
theorem whole_from (l b : List Int) (hl : l.length ≤ 140737488351232) : ∀ (n i : Nat), i + n = l.length → ∀ k, n < k → valiselaw11_whole.l0 k (l ++ b) l (l.length : Int) (i : Int) = some true := by
  intro n
  induction n with
  | zero =>
    intro i hi k hk
    obtain ⟨k, rfl⟩ : ∃ q, k = q + 1 := ⟨k - 1, by omega⟩
    rw [valiselaw11_whole.l0, if_neg (by omega)]
  | succ n ih =>
    intro i hi k hk
    obtain ⟨k, rfl⟩ : ∃ q, k = q + 1 := ⟨k - 1, by omega⟩
    rw [valiselaw11_whole.l0, if_pos (by omega), if_pos (by omega), if_pos (by rw [List.length_append]; omega), if_pos (by omega), if_pos (rd_left l b _ (by omega) (by omega)), wrap_id (by omega) (by omega)]
    exact ih (i + 1) (by omega) k (by omega)
theorem rd_mark (l : List Int) (j : Nat) (hj : j < 4) : rd (l ++ [192, 193, 194, 195]) ((l.length : Int) + (j : Int)) = 192 + (j : Int) := by
  unfold rd
  rw [List.getD_eq_getElem?_getD, show ((l.length : Int) + (j : Int)).toNat = l.length + j by omega, List.getElem?_append_right (by omega), Nat.add_sub_cancel_left]
  match j, hj with
  | 0, _ => rfl
  | 1, _ => rfl
  | 2, _ => rfl
  | 3, _ => rfl
theorem whole_ok (l : List Int) (hl : l.length ≤ 140737488351232) : valiselaw11_whole.f (l.length + 2) (l ++ [192, 193, 194, 195]) l = some true := by
  unfold valiselaw11_whole.f
  have e : (l ++ [192, 193, 194, 195] : List Int).length = l.length + 4 := by simp
  have m0 := rd_mark l 0 (by omega)
  have m1 := rd_mark l 1 (by omega)
  have m2 := rd_mark l 2 (by omega)
  have m3 := rd_mark l 3 (by omega)
  rw [e, wrap_id (x := (l.length : Int) + 4) (by omega) (by omega), wrap_id (x := (l.length : Int) + 1) (by omega) (by omega), wrap_id (x := (l.length : Int) + 2) (by omega) (by omega), wrap_id (x := (l.length : Int) + 3) (by omega) (by omega)]
  rw [show ((0 : Nat) : Int) = 0 from rfl, Int.add_zero] at m0
  rw [if_pos (by omega), if_pos (by omega), if_pos (by omega), if_pos (by rw [m0]; rfl), if_pos (by omega), if_pos (by omega), if_pos (by exact m1), if_pos (by omega), if_pos (by omega), if_pos (by exact m2), if_pos (by omega), if_pos (by omega),
    show rd (l ++ [192, 193, 194, 195]) ((l.length : Int) + 3) = 195 from m3, valiselaw11_whole.j0, if_neg (by decide)]
  exact whole_from l _ hl l.length 0 (by omega) _ (by omega)
end Go.Proofs.Ytpndhoefmepfdaa.StPure
