/- squeeze.Cheapest: what the plain functions compute: at each place the cheapest step. No memory here. -/
import Derived.Test.YtpndhoefmepfdaaDoorCheapSpec
namespace Go.Proofs.YtpndhoefmepfdaaDoor.CheapPure
open Go.RowKit Go.Proofs.YtpndhoefmepfdaaDoor.PSq Go.Proofs.YtpndhoefmepfdaaDoorW.PrintWords Go.Proofs.YtpndhoefmepfdaaDoorW.PrintLast Go.Proofs.YtpndhoefmepfdaaDoorW.PrintMore
set_option linter.unusedVariables false
theorem wrap_id {x : Int} (h0 : -9223372036854775808 ≤ x) (h1 : x ≤ 9223372036854775807) : wrap64 x = x := by unfold wrap64; omega
theorem rd_set (l : List Int) (i j v : Int) (hi : 0 ≤ i) (hil : i < (l.length : Int)) (hj : 0 ≤ j) : rd (l.set i.toNat v) j = if j = i then v else rd l j := by
  unfold rd
  rw [List.getD_eq_getElem?_getD, List.getElem?_set, List.getD_eq_getElem?_getD]
  by_cases h : j = i
  · subst h; rw [if_pos rfl, if_pos (by omega), if_pos rfl]; rfl
  · rw [if_neg (by omega), if_neg h]
theorem rd_set_eq (l : List Int) (i v : Int) (hi : 0 ≤ i) (hil : i < (l.length : Int)) : rd (l.set i.toNat v) i = v := by rw [rd_set l i i v hi hil hi, if_pos rfl]
theorem rd_set_ne (l : List Int) (i j v : Int) (hi : 0 ≤ i) (hj : 0 ≤ j) (h : j ≠ i) : rd (l.set i.toNat v) j = rd l j := by
  unfold rd
  rw [List.getD_eq_getElem?_getD, List.getElem?_set, List.getD_eq_getElem?_getD, if_neg (by omega)]
theorem rdT_set_eq (l : List S56) (i : Int) (v : S56) (hi : 0 ≤ i) (hil : i < (l.length : Int)) : rd_T56 (l.set i.toNat v) i = v := by
  unfold rd_T56
  rw [List.getD_eq_getElem?_getD, List.getElem?_set, if_pos rfl, if_pos (by omega)]
  rfl
theorem rdT_set_ne (l : List S56) (i j : Int) (v : S56) (hi : 0 ≤ i) (hj : 0 ≤ j) (h : j ≠ i) : rd_T56 (l.set i.toNat v) j = rd_T56 l j := by
  unfold rd_T56
  rw [List.getD_eq_getElem?_getD, List.getElem?_set, List.getD_eq_getElem?_getD, if_neg (by omega)]
/-- k bytes from i on are those d back. -/
def Says (data : List Int) (i k d : Int) : Prop := 1 ≤ d ∧ d ≤ i ∧ i + k ≤ (data.length : Int) ∧ ∀ j : Int, 0 ≤ j → j < k → rd data (i + j - d) = rd data (i + j)
theorem says_less {data : List Int} {i k k' d : Int} (h : Says data i k d) (hk : k' ≤ k) : Says data i k' d := ⟨h.1, h.2.1, by have := h.2.2.1; omega, fun j h0 h1 => h.2.2.2 j h0 (by omega)⟩
theorem says_step (data : List Int) (i k d : Int) (hd : 1 ≤ d) (hi : 0 ≤ i) (hin : i < (data.length : Int)) (hk : 1 ≤ k) : Says data i k d ↔ d ≤ i ∧ rd data (i - d) = rd data i ∧ (k = 1 ∨ Says data (i + 1) (k - 1) d) := by
  constructor
  · rintro ⟨h1, h2, h3, h4⟩
    refine ⟨h2, ?_, ?_⟩
    · have := h4 0 (by omega) (by omega)
      rwa [Int.add_zero] at this
    · by_cases hk1 : k = 1
      · exact .inl hk1
      · refine .inr ⟨h1, by omega, by omega, fun j h0 hj => ?_⟩
        have := h4 (j + 1) (by omega) (by omega)
        rw [show i + (j + 1) = i + 1 + j by omega] at this
        exact this
  · rintro ⟨h1, h2, h3⟩
    refine ⟨hd, h1, ?_, fun j h0 hj => ?_⟩
    · rcases h3 with rfl | h3
      · omega
      · have := h3.2.2.1; omega
    · by_cases hj0 : j = 0
      · subst hj0; rw [Int.add_zero]; exact h2
      · rcases h3 with rfl | h3
        · omega
        · have := h3.2.2.2 (j - 1) (by omega) (by omega)
          rw [show i + 1 + (j - 1) = i + j by omega] at this
          exact this
theorem says_end (data : List Int) (k d : Int) (hk : 1 ≤ k) : ¬ Says data (data.length : Int) k d := fun h => by have := h.2.2.1; omega
/-- What the run of a distance is. -/
def RunAt (data : List Int) (i : Int) (U : List Int) (d : Int) : Prop := 0 ≤ rd U d ∧ rd U d ≤ (data.length : Int) ∧ ∀ k, 1 ≤ k → (k ≤ rd U d ↔ Says data i k d)
/-- The best of some distances. -/
def BestOf (S : Int → Prop) (D : List Int) (p : Int × Int) : Prop :=
  (p.2 = 0 ∧ ∀ d, ¬ S d) ∨ (0 < p.2 ∧ S p.2 ∧ p.1 = rd D p.2 ∧ ∀ d, S d → p.1 < rd D d ∨ (p.1 = rd D d ∧ p.2 ≤ d))
theorem best_congr {S S' : Int → Prop} {D : List Int} {p : Int × Int} (h : ∀ d, S d ↔ S' d) (hp : BestOf S D p) : BestOf S' D p := by
  rcases hp with ⟨h1, h2⟩ | ⟨h1, h2, h3, h4⟩
  · exact .inl ⟨h1, fun d hd => h2 d ((h d).2 hd)⟩
  · exact .inr ⟨h1, (h _).1 h2, h3, fun d hd => h4 d ((h d).2 hd)⟩
theorem better_iff (a b : Int × Int) : better a b = true ↔ 0 < a.2 ∧ (b.2 = 0 ∨ a.1 < b.1 ∨ (a.1 = b.1 ∧ a.2 < b.2)) := by
  unfold better
  by_cases h1 : a.2 > 0
  · rw [if_pos h1]
    by_cases h2 : b.2 = 0
    · rw [if_pos h2]; simp; omega
    · rw [if_neg h2]
      by_cases h3 : a.1 < b.1
      · rw [if_pos h3]; simp; omega
      · rw [if_neg h3]
        by_cases h4 : a.1 = b.1
        · rw [if_pos h4, decide_eq_true_iff]; omega
        · rw [if_neg h4]
          constructor
          · intro h; cases h
          · omega
  · rw [if_neg h1]
    constructor
    · intro h; cases h
    · omega
theorem best_merge {S S' : Int → Prop} {D : List Int} {p q : Int × Int} (hp : BestOf S D p) (hq : BestOf S' D q) : BestOf (fun d => S d ∨ S' d) D (if better q p = true then q else p) := by
  by_cases h : better q p = true
  · rw [if_pos h]
    rw [better_iff] at h
    rcases hq with ⟨h1, _⟩ | ⟨q0, q1, q2, q3⟩
    · omega
    · refine .inr ⟨q0, .inr q1, q2, fun d hd => ?_⟩
      rcases hd with hd | hd
      · rcases hp with ⟨_, h2⟩ | ⟨p0, p1, p2, p3⟩
        · exact absurd hd (h2 d)
        · have := p3 d hd; omega
      · exact q3 d hd
  · rw [if_neg h]
    rw [better_iff] at h
    rcases hp with ⟨p0, p1⟩ | ⟨p0, p1, p2, p3⟩
    · rcases hq with ⟨q0, q1⟩ | ⟨q0, _⟩
      · exact .inl ⟨p0, fun d hd => hd.elim (p1 d) (q1 d)⟩
      · exact absurd ⟨q0, .inl p0⟩ h
    · refine .inr ⟨p0, .inl p1, p2, fun d hd => ?_⟩
      rcases hd with hd | hd
      · exact p3 d hd
      · rcases hq with ⟨_, h2⟩ | ⟨q0, q1, q2, q3⟩
        · exact absurd hd (h2 d)
        · have := q3 d hd; omega
/-- The run, cut to 258, is just m. -/
def Just (data : List Int) (i m d : Int) : Prop := 1 ≤ m ∧ m ≤ 258 ∧ Says data i m d ∧ (m = 258 ∨ ¬ Says data i (m + 1) d)
theorem just_iff {data : List Int} {i : Int} {U : List Int} {d : Int} (h : RunAt data i U d) (m : Int) : Just data i m d ↔ 1 ≤ rd U d ∧ capped (rd U d) = m := by
  unfold Just capped
  constructor
  · rintro ⟨h1, h2, h3, h4⟩
    have e1 := (h.2.2 m h1).2 h3
    rcases h4 with h4 | h4
    · split <;> omega
    · have e2 : ¬ (m + 1 ≤ rd U d) := fun e => h4 ((h.2.2 (m + 1) (by omega)).1 e)
      split <;> omega
  · rintro ⟨h1, h2⟩
    have hm : 1 ≤ m ∧ m ≤ 258 ∧ m ≤ rd U d ∧ (m = 258 ∨ ¬ (m + 1 ≤ rd U d)) := by split at h2 <;> omega
    refine ⟨hm.1, hm.2.1, (h.2.2 m hm.1).1 hm.2.2.1, ?_⟩
    rcases hm.2.2.2 with e | e
    · exact .inl e
    · exact .inr (fun hs => e ((h.2.2 (m + 1) (by omega)).2 hs))
theorem reach_run (data D : List Int) (i : Int) (hi : 0 ≤ i) (hin : i < (data.length : Int)) (hbig : data.length ≤ 65536) : ∀ (n : Nat) (d : Int) (U : List Int) (b : Int → Int × Int), 1 ≤ d → d + n = (U.length : Int) →
    (∀ e, 1 ≤ e → e < d → RunAt data i U e) → (∀ e, d ≤ e → e < (U.length : Int) → RunAt data (i + 1) U e) → (∀ m, BestOf (fun e => 1 ≤ e ∧ e < d ∧ Just data i m e) D (b m)) →
    ∃ U' b', reachLoop data D i n d U b = some (U', b') ∧ U'.length = U.length ∧ (∀ e, 1 ≤ e → e < (U.length : Int) → RunAt data i U' e) ∧ ∀ m, BestOf (fun e => 1 ≤ e ∧ e < (U.length : Int) ∧ Just data i m e) D (b' m) := by
  intro n
  induction n with
  | zero =>
    intro d U b hd hl h1 h2 h3
    obtain rfl : d = (U.length : Int) := by omega
    exact ⟨U, b, rfl, rfl, h1, h3⟩
  | succ n ih =>
    intro d U b hd hl h1 h2 h3
    have hdl : d < (U.length : Int) := by omega
    have hr := h2 d (by omega) hdl
    -- the run is 0
    have zero : (∀ k, 1 ≤ k → ¬ Says data i k d) → ∃ U' b', reachLoop data D i n (d + 1) (U.set d.toNat 0) b = some (U', b') ∧ U'.length = U.length ∧ (∀ e, 1 ≤ e → e < (U.length : Int) → RunAt data i U' e) ∧ ∀ m, BestOf (fun e => 1 ≤ e ∧ e < (U.length : Int) ∧ Just data i m e) D (b' m) := by
      intro hz
      have := ih (d + 1) (U.set d.toNat 0) b (by omega) (by rw [List.length_set]; omega) (fun e he1 he2 => ?_) (fun e he1 he2 => ?_) (fun m => ?_)
      · rw [List.length_set] at this
        exact this
      · by_cases hed : e = d
        · subst hed
          unfold RunAt
          rw [rd_set_eq _ _ _ (by omega) hdl]
          exact ⟨by omega, by omega, fun k hk => ⟨fun h => by omega, fun h => absurd h (hz k hk)⟩⟩
        · have := h1 e he1 (by omega)
          unfold RunAt
          rw [rd_set_ne _ _ _ _ (by omega) (by omega) hed]
          exact this
      · rw [List.length_set] at he2
        have := h2 e (by omega) he2
        unfold RunAt
        rw [rd_set_ne _ _ _ _ (by omega) (by omega) (by omega)]
        exact this
      · refine best_congr (fun e => ?_) (h3 m)
        constructor
        · rintro ⟨a1, a2, a3⟩
          exact ⟨a1, by omega, a3⟩
        · rintro ⟨a1, a2, a3⟩
          refine ⟨a1, ?_, a3⟩
          by_cases hed : e = d
          · subst hed
            exact absurd a3.2.2.1 (hz m a3.1)
          · omega
    rw [reachLoop]
    by_cases c1 : i < d
    · rw [if_pos c1]
      exact zero (fun k hk hs => by have := hs.2.1; omega)
    · rw [if_neg c1]
      by_cases c2 : rd data (i - d) = rd data i
      · rw [if_pos c2]
        have hw : wrap64 (rd U d + 1) = rd U d + 1 := wrap_id (by have := hr.1; omega) (by have := hr.2.1; omega)
        rw [hw]
        have hu0 := hr.1
        have hul : rd U d + 1 ≤ (data.length : Int) := by
          by_cases hz : rd U d = 0
          · omega
          · have := ((hr.2.2 (rd U d) (by omega)).1 (by omega)).2.2.1
            omega
        have hrun : RunAt data i (U.set d.toNat (rd U d + 1)) d := by
          unfold RunAt
          rw [rd_set_eq _ _ _ (by omega) hdl]
          refine ⟨by omega, hul, fun k hk => ?_⟩
          rw [says_step data i k d hd hi hin hk]
          constructor
          · intro h
            refine ⟨by omega, c2, ?_⟩
            by_cases hk1 : k = 1
            · exact .inl hk1
            · exact .inr ((hr.2.2 (k - 1) (by omega)).1 (by omega))
          · rintro ⟨_, _, h⟩
            rcases h with h | h
            · omega
            · by_cases hk1 : k = 1
              · omega
              · have := (hr.2.2 (k - 1) (by omega)).2 h
                omega
        have hm : 1 ≤ capped (rd U d + 1) ∧ capped (rd U d + 1) ≤ 258 := by unfold capped; split <;> omega
        rw [if_pos (by omega)]
        generalize hmm : capped (rd U d + 1) = m0 at hm
        have hjust : ∀ m, Just data i m d ↔ m = m0 := by
          intro m
          rw [just_iff hrun m, rd_set_eq _ _ _ (by omega) hdl, hmm]
          omega
        have := ih (d + 1) (U.set d.toNat (rd U d + 1)) (if better (rd D d, d) (b m0) = true then updI b m0 (rd D d, d) else b) (by omega) (by rw [List.length_set]; omega) (fun e he1 he2 => ?_) (fun e he1 he2 => ?_) (fun m => ?_)
        · rw [List.length_set] at this
          exact this
        · by_cases hed : e = d
          · subst hed; exact hrun
          · have := h1 e he1 (by omega)
            unfold RunAt
            rw [rd_set_ne _ _ _ _ (by omega) (by omega) hed]
            exact this
        · rw [List.length_set] at he2
          have := h2 e (by omega) he2
          unfold RunAt
          rw [rd_set_ne _ _ _ _ (by omega) (by omega) (by omega)]
          exact this
        · by_cases hmm0 : m = m0
          · subst hmm0
            have hone : BestOf (fun e => e = d) D (rd D d, d) := .inr ⟨by show (0 : Int) < d; omega, rfl, rfl, fun e he => .inr ⟨by rw [he], by show d ≤ e; omega⟩⟩
            have hmg := best_merge (h3 m) hone
            have heq : (if better (rd D d, d) (b m) = true then updI b m (rd D d, d) else b) m = (if better (rd D d, d) (b m) = true then (rd D d, d) else b m) := by
              split
              · exact if_pos rfl
              · rfl
            rw [heq]
            refine best_congr (fun e => ?_) hmg
            constructor
            · rintro (⟨a1, a2, a3⟩ | rfl)
              · exact ⟨a1, by omega, a3⟩
              · exact ⟨by omega, by omega, (hjust m).2 rfl⟩
            · rintro ⟨a1, a2, a3⟩
              by_cases hed : e = d
              · exact .inr hed
              · exact .inl ⟨a1, by omega, a3⟩
          · have heq : (if better (rd D d, d) (b m0) = true then updI b m0 (rd D d, d) else b) m = b m := by
              split
              · exact if_neg hmm0
              · rfl
            rw [heq]
            refine best_congr (fun e => ?_) (h3 m)
            constructor
            · rintro ⟨a1, a2, a3⟩
              exact ⟨a1, by omega, a3⟩
            · rintro ⟨a1, a2, a3⟩
              refine ⟨a1, ?_, a3⟩
              by_cases hed : e = d
              · subst hed
                exact absurd ((hjust m).1 a3) hmm0
              · omega
      · rw [if_neg c2]
        exact zero (fun k hk hs => c2 (((says_step data i k d hd hi hin hk).1 hs).2.1))
theorem down_run (data D : List Int) (i len : Int) : ∀ (n : Nat) (m : Int) (b : Int → Int × Int), m = 2 + (n : Int) → m ≤ 257 → (∀ k, m < k → k ≤ 258 → BestOf (fun e => 1 ≤ e ∧ e < len ∧ Says data i k e) D (b k)) → (∀ k, 1 ≤ k → k ≤ m → BestOf (fun e => 1 ≤ e ∧ e < len ∧ Just data i k e) D (b k)) →
    ∀ k, 3 ≤ k → k ≤ 258 → BestOf (fun e => 1 ≤ e ∧ e < len ∧ Says data i k e) D (downLoop n m b k) := by
  intro n
  induction n with
  | zero =>
    intro m b hm _ h1 _ k hk1 hk2
    exact h1 k (by omega) hk2
  | succ n ih =>
    intro m b hm hm2 h1 h2 k hk1 hk2
    rw [downLoop]
    refine ih (m - 1) _ (by omega) (by omega) (fun q hq1 hq2 => ?_) (fun q hq1 hq2 => ?_) k hk1 hk2
    · by_cases hqm : q = m
      · subst hqm
        have hmg := best_merge (h2 q (by omega) (by omega)) (h1 (q + 1) (by omega) (by omega))
        have heq : (if better (b (q + 1)) (b q) = true then updI b q (b (q + 1)) else b) q = (if better (b (q + 1)) (b q) = true then b (q + 1) else b q) := by
          split
          · exact if_pos rfl
          · rfl
        rw [heq]
        refine best_congr (fun e => ?_) hmg
        constructor
        · rintro (⟨a1, a2, a3⟩ | ⟨a1, a2, a3⟩)
          · exact ⟨a1, a2, a3.2.2.1⟩
          · exact ⟨a1, a2, says_less a3 (by omega)⟩
        · rintro ⟨a1, a2, a3⟩
          by_cases hs : Says data i (q + 1) e
          · exact .inr ⟨a1, a2, hs⟩
          · exact .inl ⟨a1, a2, by omega, by omega, a3, .inr hs⟩
      · have heq : (if better (b (m + 1)) (b m) = true then updI b m (b (m + 1)) else b) q = b q := by
          split
          · exact if_neg hqm
          · rfl
        rw [heq]
        exact h1 q (by omega) hq2
    · have heq : (if better (b (m + 1)) (b m) = true then updI b m (b (m + 1)) else b) q = b q := by
        split
        · exact if_neg (by omega)
        · rfl
      rw [heq]
      exact h2 q hq1 (by omega)
theorem reaches_run (data D U : List Int) (i : Int) (hi : 0 ≤ i) (hin : i < (data.length : Int)) (hbig : data.length ≤ 65536) (hl : 1 ≤ U.length) (hU : ∀ e, 1 ≤ e → e < (U.length : Int) → RunAt data (i + 1) U e) :
    ∃ U' b, reachesF data D U i = some (U', b) ∧ U'.length = U.length ∧ (∀ e, 1 ≤ e → e < (U.length : Int) → RunAt data i U' e) ∧ ∀ k, 3 ≤ k → k ≤ 258 → BestOf (fun e => 1 ≤ e ∧ e < (U.length : Int) ∧ Says data i k e) D (b k) := by
  obtain ⟨U', b, h1, h2, h3, h4⟩ := reach_run data D i hi hin hbig (U.length - 1) 1 U (fun _ => (0, 0)) (by omega) (by omega) (fun e h1 h2 => by omega) hU (fun m => .inl ⟨rfl, fun d hd => by omega⟩)
  refine ⟨U', downLoop 255 257 b, by unfold reachesF; rw [h1]; rfl, h2, h3, ?_⟩
  refine down_run data D i (U.length : Int) 255 257 b rfl (by omega) (fun k hk1 hk2 => ?_) (fun k _ _ => h4 k)
  obtain rfl : k = 258 := by omega
  refine best_congr (fun e => ?_) (h4 258)
  constructor
  · rintro ⟨a1, a2, a3⟩
    exact ⟨a1, a2, a3.2.2.1⟩
  · rintro ⟨a1, a2, a3⟩
    exact ⟨a1, a2, by omega, by omega, a3, .inl rfl⟩
/-- The cheapest step: less ahead of all, then the longer, then the nearer copy. -/
def Opt (S : Int → Int → Prop) (C : Int → Int → Int) (c0 x c : Int) (t : S56) : Prop :=
  (t = ⟨0, 0, x⟩ ∧ c = c0 ∧ ∀ m d, S m d → c0 < C m d) ∨ (∃ m d, t = ⟨m, d, 0⟩ ∧ S m d ∧ c = C m d ∧ c ≤ c0 ∧ ∀ m' d', S m' d' → c < C m' d' ∨ (c = C m' d' ∧ (m' < m ∨ (m' = m ∧ d ≤ d'))))
theorem opt_congr {S S' : Int → Int → Prop} {C C' : Int → Int → Int} {c0 x c : Int} {t : S56} (h : ∀ m d, S m d ↔ S' m d) (hc : ∀ m d, S m d → C m d = C' m d) (ho : Opt S C c0 x c t) : Opt S' C' c0 x c t := by
  rcases ho with ⟨h1, h2, h3⟩ | ⟨m, d, h1, h2, h3, h4, h5⟩
  · refine .inl ⟨h1, h2, fun m d hs => ?_⟩
    have := h3 m d ((h m d).2 hs)
    rwa [hc m d ((h m d).2 hs)] at this
  · refine .inr ⟨m, d, h1, (h m d).1 h2, by rw [h3, hc m d h2], h4, fun m' d' hs => ?_⟩
    have := h5 m' d' ((h m' d').2 hs)
    rwa [hc m' d' ((h m' d').2 hs)] at this
theorem opt_unique {S : Int → Int → Prop} {C : Int → Int → Int} {c0 x c c' : Int} {t t' : S56} (h : Opt S C c0 x c t) (h' : Opt S C c0 x c' t') : c = c' ∧ t = t' := by
  rcases h with ⟨h1, h2, h3⟩ | ⟨m, d, h1, h2, h3, h4, h5⟩ <;> rcases h' with ⟨k1, k2, k3⟩ | ⟨m', d', k1, k2, k3, k4, k5⟩
  · exact ⟨by omega, by rw [h1, k1]⟩
  · have := h3 m' d' k2; omega
  · have := k3 m d h2; omega
  · have a := h5 m' d' k2
    have b := k5 m d h2
    have e1 : m = m' := by omega
    have e2 : d = d' := by omega
    subst e1 e2
    exact ⟨by omega, by rw [h1, k1]⟩
theorem opt_le {S : Int → Int → Prop} {C : Int → Int → Int} {c0 x c : Int} {t : S56} (h : Opt S C c0 x c t) : c ≤ c0 ∧ ∀ m d, S m d → c ≤ C m d := by
  rcases h with ⟨h1, h2, h3⟩ | ⟨m, d, h1, h2, h3, h4, h5⟩
  · exact ⟨by omega, fun m d hs => by have := h3 m d hs; omega⟩
  · exact ⟨h4, fun m d hs => by have := h5 m d hs; omega⟩
/-- What a step at a place may be. -/
def Sset (data : List Int) (W i m d : Int) : Prop := 3 ≤ m ∧ m ≤ 258 ∧ d ≤ W ∧ Says data i m d
def Cst (L P : Int → Int) (R : List Int) (i m d : Int) : Int := L m + P d + rd R (i + m)
theorem place_run (data D : List Int) (L P : Int → Int) (b : Int → Int × Int) (i W c0 x : Int) (hi : 0 ≤ i) (hin : i < (data.length : Int)) (hbig : data.length ≤ 65536)
    (hb : ∀ k, 3 ≤ k → k ≤ 258 → BestOf (fun e => e ≤ W ∧ Says data i k e) D (b k)) (hL : ∀ m, 3 ≤ m → m ≤ 258 → 0 ≤ L m ∧ L m ≤ 65536) (hP : ∀ d, 1 ≤ d → d ≤ W → rd D d = P d ∧ 0 ≤ P d ∧ P d ≤ 65536) :
    ∀ (n : Nat) (m : Int) (R : List Int) (T : List S56), 3 ≤ m → m + n = 260 → m ≤ 259 → R.length = data.length + 1 → T.length = data.length → (∀ j, i < j → j ≤ (data.length : Int) → 0 ≤ rd R j ∧ rd R j ≤ 1099511627776) →
      Opt (fun m' d' => m' < m ∧ Sset data W i m' d') (Cst L P R i) c0 x (rd R i) (rd_T56 T i) →
      ∃ R' T', placeLoop L b i n m R T = some (R', T') ∧ R'.length = R.length ∧ T'.length = T.length ∧ (∀ j, 0 ≤ j → j ≠ i → rd R' j = rd R j) ∧ (∀ j, 0 ≤ j → j ≠ i → rd_T56 T' j = rd_T56 T j) ∧ Opt (Sset data W i) (Cst L P R i) c0 x (rd R' i) (rd_T56 T' i) := by
  intro n
  induction n with
  | zero => intro m R T h3 h4 h5; omega
  | succ n ih =>
    intro m R T h3 h4 h5 hRl hTl hR ho
    rw [placeLoop]
    by_cases c1 : m ≤ 258
    · rw [if_pos c1]
      rcases hb m h3 c1 with ⟨z1, z2⟩ | ⟨z1, z2, z3, z4⟩
      · rw [if_neg (by omega)]
        refine ⟨R, T, rfl, rfl, rfl, fun _ _ _ => rfl, fun _ _ _ => rfl, opt_congr (fun m' d' => ?_) (fun _ _ _ => rfl) ho⟩
        constructor
        · exact fun h => h.2
        · intro h
          refine ⟨?_, h⟩
          by_cases hm : m' < m
          · exact hm
          · exact absurd ⟨h.2.2.1, says_less h.2.2.2 (by omega)⟩ (z2 d')
      · rw [if_pos z1]
        generalize hd : (b m).2 = d at z1 z2 z3 z4 ⊢
        generalize hp : (b m).1 = p at z3 z4 ⊢
        have hs := z2.2
        have hd1 := hs.1
        have hPd := hP d hd1 z2.1
        have hlm := hL m h3 c1
        have hrm := hR (i + m) (by omega) hs.2.2.1
        have hsl := hs.2.2.1
        rw [if_pos (by omega), show wrap64 (L m + p) = L m + p from wrap_id (by omega) (by omega), show wrap64 (L m + p + rd R (i + m)) = L m + p + rd R (i + m) from wrap_id (by omega) (by omega)]
        have hcost : L m + p + rd R (i + m) = Cst L P R i m d := by unfold Cst; omega
        rw [hcost]
        have hset : Sset data W i m d := ⟨h3, c1, z2.1, hs⟩
        have hle := opt_le ho
        have hmin : ∀ d', Sset data W i m d' → Cst L P R i m d < Cst L P R i m d' ∨ (Cst L P R i m d = Cst L P R i m d' ∧ d ≤ d') := by
          intro d' h'
          have h1 := z4 d' ⟨h'.2.2.1, h'.2.2.2⟩
          have h2 := hP d' h'.2.2.2.1 h'.2.2.1
          unfold Cst
          omega
        have hsame : ∀ v m' d', 3 ≤ m' → Cst L P (R.set i.toNat v) i m' d' = Cst L P R i m' d' := by
          intro v m' d' hm'
          unfold Cst
          rw [rd_set_ne _ _ _ _ hi (by omega) (by omega)]
        by_cases c2 : Cst L P R i m d ≤ rd R i
        · rw [if_pos c2]
          have := ih (m + 1) (R.set i.toNat (Cst L P R i m d)) (T.set i.toNat ⟨m, d, 0⟩) (by omega) (by omega) (by omega) (by rw [List.length_set]; exact hRl) (by rw [List.length_set]; exact hTl)
            (fun j h1 h2 => by rw [rd_set_ne _ _ _ _ hi (by omega) (by omega)]; exact hR j h1 h2) ?_
          · obtain ⟨R', T', e1, e2, e3, e4, e5, e6⟩ := this
            refine ⟨R', T', e1, by rw [e2, List.length_set], by rw [e3, List.length_set], fun j h1 h2 => ?_, fun j h1 h2 => ?_, ?_⟩
            · rw [e4 j h1 h2, rd_set_ne _ _ _ _ hi h1 h2]
            · rw [e5 j h1 h2, rdT_set_ne _ _ _ _ hi h1 h2]
            · exact opt_congr (fun _ _ => Iff.rfl) (fun m' d' h' => hsame _ m' d' h'.1) e6
          · rw [rd_set_eq _ _ _ hi (by omega), rdT_set_eq _ _ _ hi (by omega)]
            refine opt_congr (fun _ _ => Iff.rfl) (fun m' d' h' => (hsame _ m' d' h'.2.1).symm) (.inr ⟨m, d, rfl, ⟨by omega, hset⟩, rfl, by omega, fun m' d' h' => ?_⟩)
            by_cases hm' : m' = m
            · subst hm'
              have := hmin d' h'.2
              omega
            · have h1 : m' < m := by have := h'.1; omega
              have := hle.2 m' d' ⟨h1, h'.2⟩
              omega
        · rw [if_neg c2]
          refine ih (m + 1) R T (by omega) (by omega) (by omega) hRl hTl hR ?_
          have far : ∀ d', Sset data W i m d' → rd R i < Cst L P R i m d' := fun d' h' => by have := hmin d' h'; omega
          rcases ho with ⟨o1, o2, o3⟩ | ⟨m1, d1, o1, o2, o3, o4, o5⟩
          · refine .inl ⟨o1, o2, fun m' d' h' => ?_⟩
            by_cases hm' : m' = m
            · subst hm'; have := far d' h'.2; omega
            · exact o3 m' d' ⟨by have := h'.1; omega, h'.2⟩
          · refine .inr ⟨m1, d1, o1, ⟨by have := o2.1; omega, o2.2⟩, o3, o4, fun m' d' h' => ?_⟩
            by_cases hm' : m' = m
            · subst hm'; exact .inl (far d' h'.2)
            · exact o5 m' d' ⟨by have := h'.1; omega, h'.2⟩
    · rw [if_neg c1]
      refine ⟨R, T, rfl, rfl, rfl, fun _ _ _ => rfl, fun _ _ _ => rfl, opt_congr (fun m' d' => ?_) (fun _ _ _ => rfl) ho⟩
      constructor
      · exact fun h => h.2
      · exact fun h => ⟨by have := h.2.1; omega, h⟩
/-- From a place on, all is cheapest. -/
structure Sol (lit data : List Int) (L P : Int → Int) (W i : Int) (R : List Int) (T : List S56) : Prop where
  rl : R.length = data.length + 1
  tl : data.length ≤ T.length
  last : rd R (data.length : Int) = 0
  bd : ∀ j, i ≤ j → j ≤ (data.length : Int) → 0 ≤ rd R j ∧ rd R j ≤ 65536 * ((data.length : Int) - j)
  opt : ∀ j, i ≤ j → j < (data.length : Int) → Opt (Sset data W j) (Cst L P R j) (rd lit (rd data j) + rd R (j + 1)) (rd data j) (rd R j) (rd_T56 T j)
theorem sol_unique {lit data : List Int} {L P : Int → Int} {W : Int} {R R' : List Int} {T T' : List S56} (h : Sol lit data L P W 0 R T) (h' : Sol lit data L P W 0 R' T') : ∀ (n : Nat) (j : Int), 0 ≤ j → j + n = (data.length : Int) → rd R j = rd R' j ∧ (j < (data.length : Int) → rd_T56 T j = rd_T56 T' j) := by
  intro n
  induction n using Nat.strongRecOn with
  | _ n ih =>
    intro j h0 hj
    by_cases hn : j < (data.length : Int)
    · have a := h.opt j h0 hn
      have b := h'.opt j h0 hn
      have e1 : rd R (j + 1) = rd R' (j + 1) := (ih (n - 1) (by omega) (j + 1) (by omega) (by omega)).1
      rw [← e1] at b
      have b' : Opt (Sset data W j) (Cst L P R j) (rd lit (rd data j) + rd R (j + 1)) (rd data j) (rd R' j) (rd_T56 T' j) := by
        refine opt_congr (fun _ _ => Iff.rfl) (fun m d hs => ?_) b
        unfold Cst
        have h3 := hs.1
        have h4 := hs.2.2.2.2.2.1
        rw [(ih (n - m.toNat) (by omega) (j + m) (by omega) (by omega)).1]
      obtain ⟨e2, e3⟩ := opt_unique a b'
      exact ⟨e2, fun _ => e3⟩
    · obtain rfl : j = (data.length : Int) := by omega
      exact ⟨by rw [h.last, h'.last], fun h => absurd h (by omega)⟩
theorem placeF_run (lit data D U R : List Int) (L P : Int → Int) (T : List S56) (W i : Int) (hi : 0 ≤ i) (hin : i < (data.length : Int)) (hbig : data.length ≤ 65536) (hl : 1 ≤ U.length) (hW : W = (U.length : Int) - 1)
    (hlit : ∀ q, 0 ≤ q → q ≤ 255 → 0 ≤ rd lit q ∧ rd lit q ≤ 65536) (hdata : ∀ q, 0 ≤ q → q < (data.length : Int) → 0 ≤ rd data q ∧ rd data q ≤ 255)
    (hL : ∀ m, 3 ≤ m → m ≤ 258 → 0 ≤ L m ∧ L m ≤ 65536) (hP : ∀ d, 1 ≤ d → d ≤ W → rd D d = P d ∧ 0 ≤ P d ∧ P d ≤ 65536) (hTl : T.length = data.length)
    (hU : ∀ e, 1 ≤ e → e < (U.length : Int) → RunAt data (i + 1) U e) (hs : Sol lit data L P W (i + 1) R T) :
    ∃ U' R' T', placeF lit data D L i U R T = some (U', R', T') ∧ U'.length = U.length ∧ T'.length = T.length ∧ (∀ e, 1 ≤ e → e < (U.length : Int) → RunAt data i U' e) ∧ Sol lit data L P W i R' T' := by
  obtain ⟨U', b, h1, h2, h3, h4⟩ := reaches_run data D U i hi hin hbig hl hU
  have hb : ∀ k, 3 ≤ k → k ≤ 258 → BestOf (fun e => e ≤ W ∧ Says data i k e) D (b k) := fun k hk1 hk2 => best_congr (fun e => ⟨fun h => ⟨by omega, h.2.2⟩, fun h => ⟨h.2.1, by omega, h.2⟩⟩) (h4 k hk1 hk2)
  have hrl := hs.rl
  have hb1 := hs.bd (i + 1) (by omega) (by omega)
  have hd := hdata i hi hin
  have hq := hlit _ hd.1 hd.2
  have hw : wrap64 (rd lit (rd data i) + rd R (i + 1)) = rd lit (rd data i) + rd R (i + 1) := wrap_id (by omega) (by omega)
  have hp := place_run data D L P b i W (rd lit (rd data i) + rd R (i + 1)) (rd data i) hi hin hbig hb hL hP 257 3 (R.set i.toNat (rd lit (rd data i) + rd R (i + 1))) (T.set i.toNat ⟨0, 0, rd data i⟩) (by omega) (by omega) (by omega) (by rw [List.length_set]; exact hrl) (by rw [List.length_set]; exact hTl)
    (fun j h5 h6 => by rw [rd_set_ne _ _ _ _ hi (by omega) (by omega)]; have := hs.bd j (by omega) h6; omega)
    (by
      rw [rd_set_eq _ _ _ hi (by omega), rdT_set_eq _ _ _ hi (by omega)]
      exact .inl ⟨rfl, rfl, fun m d h => by have := h.1; have := h.2.1; omega⟩)
  obtain ⟨R', T', e1, e2, e3, e4, e5, e6⟩ := hp
  rw [List.length_set] at e2 e3
  have hRj : ∀ j, i < j → rd R' j = rd R j := fun j hj => by rw [e4 j (by omega) (by omega), rd_set_ne _ _ _ _ hi (by omega) (by omega)]
  have hTj : ∀ j, i < j → rd_T56 T' j = rd_T56 T j := fun j hj => by rw [e5 j (by omega) (by omega), rdT_set_ne _ _ _ _ hi (by omega) (by omega)]
  have e7 : Opt (Sset data W i) (Cst L P R' i) (rd lit (rd data i) + rd R' (i + 1)) (rd data i) (rd R' i) (rd_T56 T' i) := by
    rw [hRj (i + 1) (by omega)]
    refine opt_congr (fun _ _ => Iff.rfl) (fun m d h => ?_) e6
    unfold Cst
    have := h.1
    rw [hRj (i + m) (by omega), rd_set_ne _ _ _ _ hi (by omega) (by omega)]
  refine ⟨U', R', T', ?_, h2, e3, h3, ⟨by rw [e2, hrl], by rw [e3]; exact hs.tl, by rw [hRj _ hin]; exact hs.last, fun j h5 h6 => ?_, fun j h5 h6 => ?_⟩⟩
  · unfold placeF
    rw [h1, Option.bind_some, hw]
    show (placeLoop L b i 257 3 _ _).map _ = _
    rw [e1]
    rfl
  · by_cases hj : j = i
    · subst hj
      have h7 := (opt_le e7).1
      rw [hRj (j + 1) (by omega)] at h7
      refine ⟨?_, by omega⟩
      rcases e7 with ⟨_, o2, _⟩ | ⟨m, d, _, o2, o3, _⟩
      · rw [o2, hRj (j + 1) (by omega)]; omega
      · rw [o3]
        unfold Cst
        have hh := o2.1
        have h8 := o2.2.2.2.2.2.1
        have h9 := o2.2.2.2.1
        have := hL m o2.1 o2.2.1
        have := hP d h9 o2.2.2.1
        have := hs.bd (j + m) (by omega) (by omega)
        rw [hRj (j + m) (by omega)]
        omega
    · rw [hRj j (by omega)]
      exact hs.bd j (by omega) h6
  · by_cases hj : j = i
    · subst hj; exact e7
    · have := hs.opt j (by omega) h6
      rw [hRj j (by omega), hTj j (by omega), hRj (j + 1) (by omega)]
      refine opt_congr (fun _ _ => Iff.rfl) (fun m d h => ?_) this
      unfold Cst
      have := h.1
      rw [hRj (j + m) (by omega)]
theorem placesF_run (lit data D : List Int) (L P : Int → Int) (W : Int) (hbig : data.length ≤ 65536)
    (hlit : ∀ q, 0 ≤ q → q ≤ 255 → 0 ≤ rd lit q ∧ rd lit q ≤ 65536) (hdata : ∀ q, 0 ≤ q → q < (data.length : Int) → 0 ≤ rd data q ∧ rd data q ≤ 255)
    (hL : ∀ m, 3 ≤ m → m ≤ 258 → 0 ≤ L m ∧ L m ≤ 65536) (hP : ∀ d, 1 ≤ d → d ≤ W → rd D d = P d ∧ 0 ≤ P d ∧ P d ≤ 65536) :
    ∀ (n : Nat) (U R : List Int) (T : List S56), n ≤ data.length → 1 ≤ U.length → W = (U.length : Int) - 1 → T.length = data.length → (∀ e, 1 ≤ e → e < (U.length : Int) → RunAt data (n : Int) U e) → Sol lit data L P W (n : Int) R T →
    ∃ U' R' T', placesF lit data D L n U R T = some (U', R', T') ∧ T'.length = data.length ∧ Sol lit data L P W 0 R' T' := by
  intro n
  induction n with
  | zero =>
    intro U R T hn hl hW hTl hU hs
    exact ⟨U, R, T, rfl, hTl, hs⟩
  | succ n ih =>
    intro U R T hn hl hW hTl hU hs
    obtain ⟨U', R', T', e1, e2, e3, e4, e5⟩ := placeF_run lit data D U R L P T W (n : Int) (by omega) (by omega) hbig hl hW hlit hdata hL hP hTl (fun e h1 h2 => by have := hU e h1 h2; rwa [show ((n + 1 : Nat) : Int) = (n : Int) + 1 by omega] at this) (by rwa [show ((n + 1 : Nat) : Int) = (n : Int) + 1 by omega] at hs)
    obtain ⟨U2, R2, T2, g1, g2, g3⟩ := ih U' R' T' (by omega) (by omega) (by rw [e2]; exact hW) (by rw [e3]; exact hTl) (fun e h1 h2 => e4 e h1 (by omega)) e5
    refine ⟨U2, R2, T2, ?_, g2, g3⟩
    rw [placesF, e1, Option.bind_some]
    exact g1
theorem rd_zeros (n : Nat) (j : Int) : rd (List.replicate n (0 : Int)) j = 0 := by
  unfold rd
  rw [List.getD_eq_getElem?_getD, List.getElem?_replicate]
  split <;> rfl
/-- All of it, from what newSearch makes. -/
theorem all_run (lit data D : List Int) (L P : Int → Int) (W : Int) (hW0 : 0 ≤ W) (hbig : data.length ≤ 65536)
    (hlit : ∀ q, 0 ≤ q → q ≤ 255 → 0 ≤ rd lit q ∧ rd lit q ≤ 65536) (hdata : ∀ q, 0 ≤ q → q < (data.length : Int) → 0 ≤ rd data q ∧ rd data q ≤ 255)
    (hL : ∀ m, 3 ≤ m → m ≤ 258 → 0 ≤ L m ∧ L m ≤ 65536) (hP : ∀ d, 1 ≤ d → d ≤ W → rd D d = P d ∧ 0 ≤ P d ∧ P d ≤ 65536) :
    ∃ U R T, placesF lit data D L data.length (List.replicate (W.toNat + 1) 0) (List.replicate (data.length + 1) 0) (List.replicate data.length z56) = some (U, R, T) ∧ T.length = data.length ∧ Sol lit data L P W 0 R T := by
  refine placesF_run lit data D L P W hbig hlit hdata hL hP data.length _ _ _ (Nat.le_refl _) (by rw [List.length_replicate]; omega) (by rw [List.length_replicate]; omega) (List.length_replicate ..) (fun e h1 h2 => ?_) ⟨by rw [List.length_replicate], by rw [List.length_replicate]; exact Nat.le_refl _, rd_zeros _ _, fun j h1 h2 => by rw [rd_zeros]; omega, fun j h1 h2 => by omega⟩
  unfold RunAt
  rw [rd_zeros]
  exact ⟨by omega, by omega, fun k hk => ⟨fun h => by omega, fun h => absurd h (says_end data k e hk)⟩⟩
end Go.Proofs.YtpndhoefmepfdaaDoor.CheapPure
