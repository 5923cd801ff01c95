/- match: the tokens say data, within the window. -/
import Derived.Test.YtpndhoefmepfdaaDoorCheapMean
import Derived.Test.YtpndhoefmepfdaaDoorMatchSpec
namespace Go.Proofs.YtpndhoefmepfdaaDoor.MatchSays
open Go.RowKit Go.Proofs.YtpndhoefmepfdaaDoor.PSq Go.Proofs.YtpndhoefmepfdaaDoor.CheapPure Go.Proofs.YtpndhoefmepfdaaDoor.CheapMean Go.Proofs.YtpndhoefmepfdaaDoorW.PrintWords Go.Proofs.YtpndhoefmepfdaaDoorW.PrintLast
set_option linter.unusedVariables false
/-! ### It says data -/
theorem runLoop_says (d : List Int) (j i most : Int) (hj : 0 ≤ j) (hji : j < i) (hm : i + most ≤ (d.length : Int)) : ∀ (f : Nat) (n : Int), 0 ≤ n → n ≤ most → most - n < f → (∀ q, 0 ≤ q → q < n → rd d (j + q) = rd d (i + q)) →
    ∃ r, runLoop d j i most f n = some r ∧ n ≤ r ∧ r ≤ most ∧ (∀ q, 0 ≤ q → q < r → rd d (j + q) = rd d (i + q)) ∧ (r < most → rd d (j + r) ≠ rd d (i + r)) := by
  intro f
  induction f with
  | zero => intro n h0 h1 h2; omega
  | succ f ih =>
    intro n h0 h1 h2 h3
    rw [runLoop]
    by_cases c : n < most
    · rw [if_pos c, if_pos ⟨by omega, by omega, by omega, by omega⟩]
      by_cases e : rd d (j + n) = rd d (i + n)
      · rw [if_pos e]
        obtain ⟨r, a, b, c', g⟩ := ih (n + 1) (by omega) (by omega) (by omega) (fun q q0 q1 => by
          by_cases hq : q = n
          · rw [hq]; exact e
          · exact h3 q q0 (by omega))
        exact ⟨r, a, by omega, c', g⟩
      · rw [if_neg e]
        exact ⟨n, rfl, Int.le_refl _, h1, h3, fun _ => e⟩
    · rw [if_neg c]
      exact ⟨n, rfl, Int.le_refl _, h1, h3, fun h => absurd h c⟩
theorem runF_says (d : List Int) (j i : Int) (hj : 0 ≤ j) (hji : j < i) (hi : i ≤ (d.length : Int)) :
    ∃ r, runF d j i = some r ∧ 0 ≤ r ∧ r ≤ 258 ∧ i + r ≤ (d.length : Int) ∧ (∀ q, 0 ≤ q → q < r → rd d (j + q) = rd d (i + q)) ∧ (r < mostF d i → rd d (j + r) ≠ rd d (i + r)) := by
  have hm : mostF d i ≤ 258 ∧ i + mostF d i ≤ (d.length : Int) ∧ 0 ≤ mostF d i := by unfold mostF; split <;> omega
  obtain ⟨r, a, b, c, e, g⟩ := runLoop_says d j i (mostF d i) hj hji hm.2.1 260 0 (by omega) hm.2.2 (by omega) (fun q q0 q1 => by omega)
  exact ⟨r, a, b, by omega, by omega, e, g⟩
/-- A pair that best may answer. -/
def Copy (d : List Int) (window at_ : Int) (r : Int × Int) : Prop :=
  r.1 = 0 ∨ (3 ≤ r.1 ∧ r.1 ≤ 258 ∧ r.2 ≤ window ∧ Says d at_ r.1 r.2)
theorem bestLoop_says (d : List Int) (at_ window : Int) (hat : at_ + 3 ≤ (d.length : Int)) (h0 : 0 ≤ at_) (l : List Int) (hl : ∀ x ∈ l, 0 ≤ x ∧ x + 3 ≤ (d.length : Int) ∧ kAt d x = kAt d at_) :
    ∀ (f : Nat) (i left len dist : Int), i < (l.length : Int) → -1 ≤ i → i + 2 ≤ (f : Int) → 0 ≤ len → Copy d window at_ (len, dist) → ∃ r, bestLoop d at_ window l f i left len dist = some r ∧ 0 ≤ r.1 ∧ Copy d window at_ r := by
  intro f
  induction f with
  | zero =>
    intro i left len dist hi hf hg hn hc
    omega
  | succ f ih =>
    intro i left len dist hi hf hg hn hc
    rw [bestLoop]
    by_cases c0 : 0 ≤ i ∧ 0 < left
    · rw [if_pos c0, if_pos hi]
      have hmem : rd l i ∈ l := by
        unfold rd
        rw [List.getD_eq_getElem?_getD, List.getElem?_eq_getElem (by omega)]
        exact List.getElem_mem _
      obtain ⟨x0, x1, x2⟩ := hl _ hmem
      by_cases c1 : at_ - rd l i ≤ window
      · rw [if_pos c1]
        by_cases c2 : at_ ≤ rd l i
        · rw [if_pos c2]
          exact ih (i - 1) left len dist (by omega) (by omega) (by omega) hn hc
        · rw [if_neg c2]
          obtain ⟨n, e1, e2, e3, e4, e5, e6⟩ := runF_says d (rd l i) at_ x0 (by omega) (by omega)
          rw [e1, Option.bind_some]
          have h3 : 3 ≤ n := by
            have hm : 3 ≤ mostF d at_ := by unfold mostF; split <;> omega
            unfold kAt at x2
            simp only [Prod.mk.injEq] at x2
            obtain ⟨y0, y1, y2⟩ := x2
            rcases Int.lt_or_le n 3 with h | h
            · exfalso
              have hne := e6 (by omega)
              rcases (show n = 0 ∨ n = 1 ∨ n = 2 by omega) with rfl | rfl | rfl
              · rw [Int.add_zero, Int.add_zero] at hne; exact hne y0
              · exact hne y1
              · exact hne y2
            · exact h
          have hcp : Copy d window at_ (n, at_ - rd l i) := .inr ⟨h3, e3, c1, by omega, by omega, e4, fun j j0 j1 => by
            rw [show at_ + j - (at_ - rd l i) = rd l i + j by omega]
            exact e5 j j0 j1⟩
          by_cases c3 : len < n
          · rw [if_pos c3]
            by_cases c4 : n = 258
            · rw [if_pos c4]; exact ⟨_, rfl, e2, hcp⟩
            · rw [if_neg c4]; exact ih (i - 1) (left - 1) n _ (by omega) (by omega) (by omega) e2 hcp
          · rw [if_neg c3]
            by_cases c4 : len = 258
            · rw [if_pos c4]; exact ⟨_, rfl, hn, hc⟩
            · rw [if_neg c4]; exact ih (i - 1) (left - 1) len dist (by omega) (by omega) (by omega) hn hc
      · rw [if_neg c1]; exact ⟨_, rfl, hn, hc⟩
    · rw [if_neg c0]; exact ⟨_, rfl, hn, hc⟩
theorem bestF_says (d : List Int) (window chain : Int) (next : Nat) (at_ : Int) (h0 : 0 ≤ at_) : ∃ r, bestF d window chain next at_ = some r ∧ 0 ≤ r.1 ∧ Copy d window at_ r := by
  unfold bestF
  by_cases c : at_ + 3 ≤ (d.length : Int)
  · rw [if_pos c]
    refine bestLoop_says d at_ window c h0 _ (fun x hx => ?_) _ _ _ _ _ (by omega) (by omega) (by omega) (Int.le_refl _) (.inl rfl)
    obtain ⟨a, b, c', e⟩ := grpF_mem d _ _ x hx
    exact ⟨a, c', e⟩
  · rw [if_neg c]; exact ⟨_, rfl, Int.le_refl _, .inl rfl⟩
theorem says_lit {d : List Int} {i : Int} {l : List S56} (h : i < (d.length : Int)) (hl : SaysRow d (i + 1) l) : SaysRow d i (⟨0, 0, rd d i⟩ :: l) := Or.inl ⟨rfl, rfl, h, rfl, hl⟩
theorem says_copy {d : List Int} {i m k : Int} {l : List S56} (h3 : 3 ≤ m) (h4 : m ≤ 258) (h5 : k ≤ 32768) (hs : Says d i m k) (hl : SaysRow d (i + m) l) : SaysRow d i (⟨m, k, 0⟩ :: l) := Or.inr ⟨h3, h4, h5, rfl, hs, hl⟩
theorem eachF_says (d : List Int) (window chain : Int) (lazy : Bool) (hw : 0 ≤ window ∧ window ≤ 32768) : ∀ (f : Nat) (at_ known len dist : Int) (next : Nat), 0 ≤ at_ → at_ ≤ (d.length : Int) → (d.length : Int) - at_ < f →
    known ≤ at_ → (known = at_ → 0 ≤ len ∧ Copy d window at_ (len, dist)) → ∃ l, eachF d window chain lazy f at_ known len dist next = some l ∧ SaysRow d at_ l ∧ InWin window l := by
  intro f
  induction f with
  | zero => intro at_ known len dist next h0 h1 h2; omega
  | succ f ih =>
    intro at_ known len dist next h0 h1 h2 hkn hk
    rw [eachF]
    by_cases c : at_ < (d.length : Int)
    rotate_left
    · rw [if_neg c]
      exact ⟨[], rfl, by show at_ = _; omega, fun t ht => by cases ht⟩
    rw [if_pos c]
    obtain ⟨s1, e1, e2, e3⟩ : ∃ s1, askF d window chain at_ known len dist next = some s1 ∧ 0 ≤ s1.1.1 ∧ Copy d window at_ s1.1 := by
      unfold askF
      by_cases hq : known = at_
      · rw [if_pos hq]; exact ⟨_, rfl, hk hq⟩
      · rw [if_neg hq]
        obtain ⟨r, a, b, c'⟩ := bestF_says d window chain next at_ h0
        rw [a]
        exact ⟨_, rfl, b, c'⟩
    rw [e1, Option.bind_some]
    obtain ⟨s2, g1, g2⟩ : ∃ s2, lazyF d window chain lazy at_ s1.1.1 s1.2 = some s2 ∧ ∀ r, s2.1 = some r → at_ + 1 < (d.length : Int) ∧ 0 ≤ r.1 ∧ Copy d window (at_ + 1) r := by
      unfold lazyF
      split
      · rename_i hl
        obtain ⟨r, a, b, c'⟩ := bestF_says d window chain s1.2 (at_ + 1) (by omega)
        rw [a]
        refine ⟨_, rfl, fun r' hr => ?_⟩
        simp only at hr
        split at hr
        · obtain rfl := Option.some.inj hr; exact ⟨hl.2.2, b, c'⟩
        · cases hr
      · exact ⟨_, rfl, fun r' hr => by cases hr⟩
    rw [g1, Option.bind_some]
    cases hs : s2.1 with
    | some r =>
      obtain ⟨y0, y1, y2⟩ := g2 r hs
      obtain ⟨l, z1, z2, z3⟩ := ih (at_ + 1) (at_ + 1) r.1 r.2 s2.2 (by omega) (by omega) (by omega) (Int.le_refl _) (fun _ => ⟨y1, y2⟩)
      refine ⟨_, by simp only [z1, Option.map_some], says_lit c z2, ?_⟩
      intro t ht
      rcases List.mem_cons.1 ht with rfl | ht
      · exact hw.1
      · exact z3 t ht
    | none =>
      simp only
      by_cases hz : s1.1.1 = 0
      · rw [if_pos hz]
        obtain ⟨l, z1, z2, z3⟩ := ih (at_ + 1) known s1.1.1 s1.1.2 s2.2 (by omega) (by omega) (by omega) (by omega) (fun h => by omega)
        refine ⟨_, by rw [z1]; rfl, says_lit c z2, ?_⟩
        intro t ht
        rcases List.mem_cons.1 ht with rfl | ht
        · exact hw.1
        · exact z3 t ht
      · rw [if_neg hz]
        rcases e3 with e3 | ⟨e3, e4, e5, e6⟩
        · exact absurd e3 hz
        obtain ⟨l, z1, z2, z3⟩ := ih (at_ + s1.1.1) known s1.1.1 s1.1.2 s2.2 (by omega) (by have := e6.2.2.1; omega) (by omega) (by omega) (fun h => by omega)
        refine ⟨_, by rw [z1]; rfl, says_copy e3 e4 (by omega) e6 z2, ?_⟩
        intro t ht
        rcases List.mem_cons.1 ht with rfl | ht
        · exact e5
        · exact z3 t ht
end Go.Proofs.YtpndhoefmepfdaaDoor.MatchSays
