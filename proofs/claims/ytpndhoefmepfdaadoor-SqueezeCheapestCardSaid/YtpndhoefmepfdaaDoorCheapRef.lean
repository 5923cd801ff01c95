/- The document's Cheapest, as it is printed: it fills the same table: at each place the cheapest step. Plain law: no memory and no program. -/
import Derived.Test.YtpndhoefmepfdaaDoorCheapFair
import Derived.Test.YtpndhoefmepfdaaDoorSqSymR
import Derived.Test.YtpndhoefmepfdaaDoorPSqgRC
namespace Go.Proofs.YtpndhoefmepfdaaDoor.CheapRef
open Go.RowKit Go.Proofs.YtpndhoefmepfdaaDoor.PSq Go.Proofs.YtpndhoefmepfdaaDoor.CheapPure Go.Proofs.YtpndhoefmepfdaaDoor.CheapFair Go.Proofs.YtpndhoefmepfdaaDoor.TS Go.Proofs.YtpndhoefmepfdaaDoorW.PrintWords Go.Proofs.YtpndhoefmepfdaaDoorW.PrintLast
open Go.Proofs.YtpndhoefmepfdaaDoor.SqSym (len_sym T mono_at base_at bits_at low_at place_of prog_loop T_ends)
set_option linter.unusedVariables false
/-- With rounds enough the answer is r. -/
def Lands {α : Type} (g : Nat → Option α) (r : α) : Prop := ∃ K, ∀ k, K ≤ k → g k = some r
theorem Lands.step {α : Type} {g g' : Nat → Option α} {r : α} (h : Lands g' r) (hs : ∀ k, g (k + 1) = g' k) : Lands g r := by
  obtain ⟨K, hK⟩ := h
  refine ⟨K + 1, fun k hk => ?_⟩
  obtain ⟨k, rfl⟩ : ∃ q, k = q + 1 := ⟨k - 1, by omega⟩
  rw [hs]
  exact hK k (by omega)
theorem Lands.const {α : Type} {g : Nat → Option α} {r : α} (hs : ∀ k, g (k + 1) = some r) : Lands g r := ⟨1, fun k hk => by obtain ⟨k, rfl⟩ : ∃ q, k = q + 1 := ⟨k - 1, by omega⟩; exact hs k⟩
theorem Lands.late {α : Type} {g : Nat → Option α} {r : α} (n : Nat) (h : Lands (fun k => g (k + n)) r) : Lands g r := by
  obtain ⟨K, hK⟩ := h
  refine ⟨K + n, fun k hk => ?_⟩
  have := hK (k - n) (by omega)
  simp only at this
  rwa [show k - n + n = k by omega] at this
theorem rd_at (pre : List Int) (c : Int) (t : List Int) : rd (pre ++ c :: t) (pre.length : Int) = c := by unfold rd; simp [List.getD]
theorem all_loop (n : Nat) : ∀ (suf pre : List Int) (k : Nat), (pre ++ suf).length = n → n ≤ 9223372036854775806 → suf.length < k →
    valiseref21_all.l0 k (pre ++ suf) (n : Int) (pre.length : Int) = some (squeeze_fair.ok suf) := by
  intro suf
  induction suf with
  | nil =>
    intro pre k hn _ hk
    obtain ⟨k, rfl⟩ : ∃ q, k = q + 1 := ⟨k - 1, by omega⟩
    rw [List.append_nil] at hn
    rw [valiseref21_all.l0, if_neg (by omega)]
    rfl
  | cons c t ih =>
    intro pre k hn hb hk
    obtain ⟨k, rfl⟩ : ∃ q, k = q + 1 := ⟨k - 1, by omega⟩
    have hl : (pre ++ c :: t).length = pre.length + (t.length + 1) := by simp
    rw [valiseref21_all.l0, if_pos (by omega), if_pos (by omega), if_pos (by omega), rd_at]
    have e7 : pre ++ c :: t = (pre ++ [c]) ++ t := by simp
    have e6 : wrap64 ((pre.length : Int) + 1) = ((pre ++ [c]).length : Int) := by rw [wrap_id (by omega) (by omega)]; simp
    have hok : squeeze_fair.ok (c :: t) = (decide (1 ≤ c) && decide (c ≤ 65536) && squeeze_fair.ok t) := rfl
    by_cases h1 : c < 1
    · rw [if_pos h1, hok, decide_eq_false (by omega)]; rfl
    · by_cases h2 : c > 65536
      · rw [if_neg h1, if_pos h2, hok, decide_eq_true (by omega : 1 ≤ c), decide_eq_false (by omega)]; rfl
      · rw [if_neg h1, if_neg h2, hok, decide_eq_true (by omega : 1 ≤ c), decide_eq_true (by omega : c ≤ 65536), e6, e7]
        exact ih (pre ++ [c]) k (by rw [← e7]; exact hn) hb (by simp at hk; omega)
theorem all_eq (l : List Int) (n : Nat) (hl : l.length ≤ 9223372036854775806) (k : Nat) (hk : l.length < k) : valiseref21_all.f k l (n : Int) = some (l.length == n && squeeze_fair.ok l) := by
  unfold valiseref21_all.f
  by_cases h : l.length = n
  · rw [if_pos (by omega), ← h]
    have := all_loop l.length l [] k rfl hl hk
    rw [List.nil_append] at this
    simpa using this
  · rw [if_neg (by omega), show (l.length == n) = false from beq_eq_false_iff_ne.2 h]; rfl

/-! ### the run -/
theorem go_spec (l : List Int) (a d : Int) (hd : 1 ≤ d) (hda : d ≤ a) : ∀ (n : Nat) (m : Int), 0 ≤ m → a + m ≤ (l.length : Int) → (∀ j, 0 ≤ j → j < m → rd l (a + j - d) = rd l (a + j)) →
    ∃ r, valiseref21_run.go l a d n m = r ∧ m ≤ r ∧ r ≤ m + n ∧ a + r ≤ (l.length : Int) ∧ (∀ j, 0 ≤ j → j < r → rd l (a + j - d) = rd l (a + j)) ∧ (r < m + n → (a + r < (l.length : Int) → rd l (a + r - d) ≠ rd l (a + r))) := by
  intro n
  induction n with
  | zero => intro m h0 h1 h2; exact ⟨m, rfl, by omega, by omega, h1, h2, fun h => by omega⟩
  | succ n ih =>
    intro m h0 h1 h2
    rw [valiseref21_run.go]
    by_cases c1 : a + m < (l.length : Int)
    · rw [if_pos c1]
      by_cases c2 : rd l (a + m - d) = rd l (a + m)
      · rw [if_pos c2]
        obtain ⟨r, e1, e2, e3, e4, e5, e6⟩ := ih (m + 1) (by omega) (by omega) (fun j j0 j1 => by
          by_cases hj : j = m
          · rw [hj]; exact c2
          · exact h2 j j0 (by omega))
        exact ⟨r, e1, by omega, by omega, e4, e5, fun h => e6 (by omega)⟩
      · rw [if_neg c2]
        exact ⟨m, rfl, by omega, by omega, by omega, h2, fun _ _ => c2⟩
    · rw [if_neg c1]
      exact ⟨m, rfl, by omega, by omega, by omega, h2, fun _ h => absurd h c1⟩
theorem run_spec (l : List Int) (a d : Int) (hd : 1 ≤ d) (hda : d ≤ a) (hal : a < (l.length : Int)) (hl : l.length ≤ 65536) : ∃ r, valiseref21_run.f l a d = some r ∧ 0 ≤ r ∧ r ≤ 258 ∧ ∀ k, 1 ≤ k → k ≤ 258 → (k ≤ r ↔ Says l a k d) := by
  obtain ⟨r, e1, e2, e3, e4, e5, e6⟩ := go_spec l a d hd hda 258 0 (by omega) (by omega) (fun j j0 j1 => by omega)
  refine ⟨r, by unfold valiseref21_run.f; rw [if_pos ⟨hd, hda, hal, hl⟩, e1], e2, by omega, fun k h1 h2 => ⟨fun h => ⟨hd, hda, by omega, fun j j0 j1 => e5 j j0 (by omega)⟩, fun h => ?_⟩⟩
  by_cases hk : k ≤ r
  · exact hk
  · exfalso
    have h3 := h.2.2.1
    exact e6 (by omega) (by omega) (h.2.2.2 r e2 (by omega))
/-! ### one more step in view -/
theorem opt_take {V : Int → Int → Prop} {C : Int → Int → Int} {c0 x c : Int} {t : S56} (h : Opt V C c0 x c t) (m d tk : Int) (h3 : 3 ≤ m) (ht : tk = if t.f0 = 0 then 1 else t.f0) (hV : ∀ m' d', V m' d' → 3 ≤ m')
    (hc : C m d < c ∨ (C m d = c ∧ tk < m)) : Opt (fun m' d' => V m' d' ∨ (m' = m ∧ d' = d)) C c0 x (C m d) ⟨m, d, 0⟩ := by
  have hle := opt_le h
  refine .inr ⟨m, d, rfl, .inr ⟨rfl, rfl⟩, rfl, by omega, fun m' d' hv => ?_⟩
  rcases hv with hv | ⟨rfl, rfl⟩
  · have h1 := hle.2 m' d' hv
    rcases hc with hc | ⟨hc, hm⟩
    · exact .inl (by omega)
    · rcases h with ⟨o1, o2, o3⟩ | ⟨m1, d1, o1, o2, o3, o4, o5⟩
      · have := o3 m' d' hv; exact .inl (by omega)
      · have := o5 m' d' hv
        have := hV m1 d1 o2
        rw [o1] at ht
        simp only at ht
        rw [if_neg (by omega)] at ht
        omega
  · exact .inr ⟨rfl, .inr ⟨rfl, Int.le_refl _⟩⟩
theorem opt_keep {V : Int → Int → Prop} {C : Int → Int → Int} {c0 x c : Int} {t : S56} (h : Opt V C c0 x c t) (m d tk : Int) (h3 : 3 ≤ m) (ht : tk = if t.f0 = 0 then 1 else t.f0) (hV : ∀ m' d', V m' d' → 3 ≤ m' ∧ d' ≤ d)
    (hc : c ≤ C m d ∧ (C m d = c → m ≤ tk)) : Opt (fun m' d' => V m' d' ∨ (m' = m ∧ d' = d)) C c0 x c t := by
  rcases h with ⟨o1, o2, o3⟩ | ⟨m1, d1, o1, o2, o3, o4, o5⟩
  · refine .inl ⟨o1, o2, fun m' d' hv => ?_⟩
    rcases hv with hv | ⟨rfl, rfl⟩
    · exact o3 m' d' hv
    · rw [o1] at ht
      simp only [if_true] at ht
      omega
  · refine .inr ⟨m1, d1, o1, .inl o2, o3, o4, fun m' d' hv => ?_⟩
    rcases hv with hv | ⟨rfl, rfl⟩
    · exact o5 m' d' hv
    · have := hV m1 d1 o2
      rw [o1] at ht
      simp only at ht
      rw [if_neg (by omega)] at ht
      omega
/-! ### the loops -/
/-- The state of a place, when the steps of V have been seen. -/
structure St (data : List Int) (L P : Int → Int) (R0 : List Int) (T0 : List S56) (i c0 x : Int) (V : Int → Int → Prop) (R : List Int) (T : List S56) (tk : Int) : Prop where
  rl : R.length = data.length + 1
  tl : T.length = data.length + 1
  ro : ∀ j, 0 ≤ j → j ≠ i → rd R j = rd R0 j
  te : ∀ j, 0 ≤ j → j ≠ i → rd_T56 T j = rd_T56 T0 j
  op : Opt V (Cst L P R0 i) c0 x (rd R i) (rd_T56 T i)
  tk : tk = if (rd_T56 T i).f0 = 0 then 1 else (rd_T56 T i).f0
theorem St.congr {data : List Int} {L P : Int → Int} {R0 : List Int} {T0 : List S56} {i c0 x tk : Int} {V V' : Int → Int → Prop} {R : List Int} {T : List S56} (h : St data L P R0 T0 i c0 x V R T tk) (hv : ∀ m d, V m d ↔ V' m d) : St data L P R0 T0 i c0 x V' R T tk :=
  ⟨h.rl, h.tl, h.ro, h.te, opt_congr hv (fun _ _ _ => rfl) h.op, h.tk⟩
section
variable (data lens dists : List Int) (lit : List Int) (L P : Int → Int) (W i c0 x : Int) (R0 : List Int) (T0 : List S56) (n0 most : Int)
variable (hi : 0 ≤ i) (hin : i < (data.length : Int)) (hbig : data.length ≤ 65536)
variable (hL : ∀ m, 3 ≤ m → m ≤ 258 → rd lens m = L m ∧ 0 ≤ L m ∧ L m ≤ 65536) (hll : lens.length = 259)
variable (hP : ∀ d, 1 ≤ d → d ≤ W → d < (data.length : Int) → rd dists d = P d ∧ 0 ≤ P d ∧ P d ≤ 65536 ∧ d < (dists.length : Int))
variable (hR0 : ∀ j, i < j → j ≤ (data.length : Int) → 0 ≤ rd R0 j ∧ rd R0 j ≤ 1099511627776)
include hi hin hbig hL hll hP hR0
theorem l2_run (d : Int) (hd : 1 ≤ d) (hdW : d ≤ W) (hdi : d ≤ i) (r : Int) (hr258 : r ≤ 258) (hrs : ∀ k, 1 ≤ k → k ≤ 258 → (k ≤ r ↔ Says data i k d)) : ∀ (n : Nat) (m : Int) (R : List Int) (T : List S56) (tk : Int), 3 ≤ m → m + n = (if r < 3 then 3 else r + 1) →
    St data L P R0 T0 i c0 x (fun m' d' => Sset data W i m' d' ∧ (d' < d ∨ (d' = d ∧ m' < m))) R T tk →
    ∃ R' T' tk', St data L P R0 T0 i c0 x (fun m' d' => Sset data W i m' d' ∧ d' < d + 1) R' T' tk' ∧
      ∀ a, Lands (fun k => valiseref21_Cheapest.l1 k data W lit n0 lens dists R' T' i tk' (d + 1)) a → Lands (fun k => valiseref21_Cheapest.l2 k data W lit n0 lens dists R T i tk d r m) a := by
  intro n
  induction n with
  | zero =>
    intro m R T tk h3 hn hs
    refine ⟨R, T, tk, hs.congr (fun m' d' => ?_), fun a ha => ha.step (fun k => ?_)⟩
    · constructor
      · rintro ⟨a1, a2⟩; exact ⟨a1, by omega⟩
      · rintro ⟨a1, a2⟩
        refine ⟨a1, ?_⟩
        by_cases hdd : d' < d
        · exact .inl hdd
        · obtain rfl : d' = d := by omega
          refine .inr ⟨rfl, ?_⟩
          have := (hrs m' (by have := a1.1; omega) a1.2.1).2 a1.2.2.2
          have := a1.1
          split at hn <;> omega
    · rw [valiseref21_Cheapest.l2, if_neg (by split at hn <;> omega), wrap_id (by omega) (by omega)]
  | succ n ih =>
    intro m R T tk h3 hn hs
    have hmr : m ≤ r := by split at hn <;> omega
    have hsay := (hrs m (by omega) (by omega)).1 hmr
    have him := hsay.2.2.1
    have hl := hL m h3 (by omega)
    have hp := hP d hd hdW (by omega)
    have hrm := hR0 (i + m) (by omega) him
    have e1 : wrap64 (i + m) = i + m := wrap_id (by omega) (by omega)
    have e2 : rd R (i + m) = rd R0 (i + m) := hs.ro (i + m) (by omega) (by omega)
    have e3 : wrap64 (rd lens m + rd dists d) = L m + P d := by rw [hl.1, hp.1]; exact wrap_id (by omega) (by omega)
    have e4 : wrap64 (L m + P d + rd R0 (i + m)) = Cst L P R0 i m d := by unfold Cst; exact wrap_id (by omega) (by omega)
    have e5 : wrap64 (m + 1) = m + 1 := wrap_id (by omega) (by omega)
    have hrl := hs.rl
    have htl := hs.tl
    have base : ∀ k, valiseref21_Cheapest.l2 (k + 1) data W lit n0 lens dists R T i tk d r m = if Cst L P R0 i m d < rd R i then valiseref21_Cheapest.l2 k data W lit n0 lens dists (R.set i.toNat (Cst L P R0 i m d)) (T.set i.toNat ⟨m, d, 0⟩) i m d r (m + 1)
        else if Cst L P R0 i m d = rd R i then (if m > tk then valiseref21_Cheapest.l2 k data W lit n0 lens dists (R.set i.toNat (Cst L P R0 i m d)) (T.set i.toNat ⟨m, d, 0⟩) i m d r (m + 1) else valiseref21_Cheapest.l2 k data W lit n0 lens dists R T i tk d r (m + 1))
        else valiseref21_Cheapest.l2 k data W lit n0 lens dists R T i tk d r (m + 1) := by
      intro k
      rw [valiseref21_Cheapest.l2, if_pos hmr, if_pos (by omega), if_pos (by omega), if_pos (by omega), if_pos hp.2.2.2, e1, if_pos (by omega), if_pos (by omega), if_pos hi, if_pos (by omega), e2, e3, e4, e5, if_pos (show i < (T.length : Int) by omega)]
    have hset : Sset data W i m d := ⟨h3, by omega, hdW, hsay⟩
    have hVV : ∀ m' d', (Sset data W i m' d' ∧ (d' < d ∨ (d' = d ∧ m' < m)) ∨ (m' = m ∧ d' = d)) ↔ (Sset data W i m' d' ∧ (d' < d ∨ (d' = d ∧ m' < m + 1))) := by
      intro m' d'
      constructor
      · rintro (⟨a1, a2⟩ | ⟨rfl, rfl⟩)
        · exact ⟨a1, by omega⟩
        · exact ⟨hset, by omega⟩
      · rintro ⟨a1, a2⟩
        by_cases hmm : m' = m ∧ d' = d
        · exact .inr hmm
        · exact .inl ⟨a1, by omega⟩
    by_cases hc : Cst L P R0 i m d < rd R i ∨ (Cst L P R0 i m d = rd R i ∧ tk < m)
    · have hst : St data L P R0 T0 i c0 x (fun m' d' => Sset data W i m' d' ∧ (d' < d ∨ (d' = d ∧ m' < m + 1))) (R.set i.toNat (Cst L P R0 i m d)) (T.set i.toNat ⟨m, d, 0⟩) m := by
        refine ⟨by rw [List.length_set]; exact hrl, by rw [List.length_set]; exact htl, fun j j0 j1 => by rw [rd_set_ne _ _ _ _ hi j0 j1]; exact hs.ro j j0 j1, fun j j0 j1 => by rw [rdT_set_ne _ _ _ _ hi j0 j1]; exact hs.te j j0 j1, ?_, ?_⟩
        · rw [rd_set_eq _ _ _ hi (by omega), rdT_set_eq _ _ _ hi (by omega)]
          exact opt_congr hVV (fun _ _ _ => rfl) (opt_take hs.op m d tk h3 hs.tk (fun m' d' hv => hv.1.1) hc)
        · rw [rdT_set_eq _ _ _ hi (by omega)]
          show m = if m = 0 then 1 else m
          rw [if_neg (by omega)]
      obtain ⟨R', T', tk', g1, g2⟩ := ih (m + 1) _ _ m (by omega) (by omega) hst
      refine ⟨R', T', tk', g1, fun a ha => (g2 a ha).step (fun k => ?_)⟩
      rw [base k]
      rcases hc with hc | ⟨hc, hm⟩
      · rw [if_pos hc]
      · rw [if_neg (by omega), if_pos hc, if_pos hm]
    · have hst : St data L P R0 T0 i c0 x (fun m' d' => Sset data W i m' d' ∧ (d' < d ∨ (d' = d ∧ m' < m + 1))) R T tk :=
        ⟨hrl, htl, hs.ro, hs.te, opt_congr hVV (fun _ _ _ => rfl) (opt_keep hs.op m d tk h3 hs.tk (fun m' d' hv => ⟨hv.1.1, by have := hv.2; omega⟩) (by omega)), hs.tk⟩
      obtain ⟨R', T', tk', g1, g2⟩ := ih (m + 1) R T tk (by omega) (by omega) hst
      refine ⟨R', T', tk', g1, fun a ha => (g2 a ha).step (fun k => ?_)⟩
      rw [base k, if_neg (by omega)]
      by_cases hc2 : Cst L P R0 i m d = rd R i
      · rw [if_pos hc2, if_neg (by omega)]
      · rw [if_neg hc2]
theorem l1_run : ∀ (n : Nat) (d : Int) (R : List Int) (T : List S56) (tk : Int), 1 ≤ d → d + n = i + 1 →
    St data L P R0 T0 i c0 x (fun m' d' => Sset data W i m' d' ∧ d' < d) R T tk →
    ∃ R' T' tk', St data L P R0 T0 i c0 x (Sset data W i) R' T' tk' ∧
      ∀ a, Lands (fun k => valiseref21_Cheapest.l0 k data W lit n0 lens dists R' T' (i - 1)) a → Lands (fun k => valiseref21_Cheapest.l1 k data W lit n0 lens dists R T i tk d) a := by
  intro n
  induction n with
  | zero =>
    intro d R T tk hd hn hs
    refine ⟨R, T, tk, hs.congr (fun m' d' => ⟨fun h => h.1, fun h => ⟨h, by have := h.2.2.2.2.1; omega⟩⟩), fun a ha => (ha.step (g := fun k => valiseref21_Cheapest.j4 k data W lit n0 lens dists R T i tk d false) (fun k => ?_)).step (fun k => ?_)⟩
    · rw [valiseref21_Cheapest.j4, if_neg (by decide), wrap_id (by omega) (by omega)]
    · rw [valiseref21_Cheapest.l1, decide_eq_false (by omega)]
      split <;> rfl
  | succ n ih =>
    intro d R T tk hd hn hs
    by_cases hdW : d ≤ W
    · obtain ⟨r, r1, r2, r3, r4⟩ := run_spec data i d hd (by omega) hin hbig
      obtain ⟨n2, hn2⟩ : ∃ n2 : Nat, 3 + (n2 : Int) = if r < 3 then 3 else r + 1 := ⟨(if r < 3 then 0 else r - 2).toNat, by split <;> omega⟩
      obtain ⟨R1, T1, tk1, g1, g2⟩ := l2_run data lens dists lit L P W i c0 x R0 T0 n0 hi hin hbig hL hll hP hR0 d hd hdW (by omega) r r3 r4 n2 3 R T tk (by omega) hn2
        (hs.congr (fun m' d' => ⟨fun h => ⟨h.1, .inl h.2⟩, fun h => ⟨h.1, by rcases h.2 with h2 | ⟨_, h2⟩; exact h2; have := h.1.1; omega⟩⟩))
      obtain ⟨R', T', tk', g3, g4⟩ := ih (d + 1) R1 T1 tk1 (by omega) (by omega) g1
      refine ⟨R', T', tk', g3, fun a ha => ((g2 a (g4 a ha)).step (g := fun k => valiseref21_Cheapest.j4 k data W lit n0 lens dists R T i tk d true) (fun k => ?_)).step (fun k => ?_)⟩
      · rw [valiseref21_Cheapest.j4, if_pos rfl, r1, Option.bind_some]
      · rw [valiseref21_Cheapest.l1, if_pos hdW, decide_eq_true (by omega)]
    · refine ⟨R, T, tk, hs.congr (fun m' d' => ⟨fun h => h.1, fun h => ⟨h, by have := h.2.2.1; omega⟩⟩), fun a ha => (ha.step (g := fun k => valiseref21_Cheapest.j4 k data W lit n0 lens dists R T i tk d false) (fun k => ?_)).step (fun k => ?_)⟩
      · rw [valiseref21_Cheapest.j4, if_neg (by decide), wrap_id (by omega) (by omega)]
      · rw [valiseref21_Cheapest.l1, if_neg hdW]
end
theorem Lands.step' {α : Type} {g g' : Nat → Option α} {r : α} (K0 : Nat) (h : Lands g' r) (hs : ∀ k, K0 ≤ k → g (k + 1) = g' k) : Lands g r := by
  obtain ⟨K, hK⟩ := h
  refine ⟨K + K0 + 1, fun k hk => ?_⟩
  obtain ⟨k, rfl⟩ : ∃ q, k = q + 1 := ⟨k - 1, by omega⟩
  rw [hs k (by omega)]
  exact hK k (by omega)
theorem l0_run (data lens dists lit : List Int) (L P : Int → Int) (W n0 : Int) (hbig : data.length ≤ 65536) (hll2 : lit.length = 286) (hlit : ∀ q, 0 ≤ q → q ≤ 255 → 0 ≤ rd lit q ∧ rd lit q ≤ 65536) (hdata : ∀ q, 0 ≤ q → q < (data.length : Int) → 0 ≤ rd data q ∧ rd data q ≤ 255)
    (hL : ∀ m, 3 ≤ m → m ≤ 258 → rd lens m = L m ∧ 0 ≤ L m ∧ L m ≤ 65536) (hll : lens.length = 259) (hP : ∀ d, 1 ≤ d → d ≤ W → d < (data.length : Int) → rd dists d = P d ∧ 0 ≤ P d ∧ P d ≤ 65536 ∧ d < (dists.length : Int)) :
    ∀ (n : Nat) (R : List Int) (T : List S56), n ≤ data.length → T.length = data.length + 1 → Sol lit data L P W (n : Int) R T →
      ∃ R' T', Sol lit data L P W 0 R' T' ∧ T'.length = data.length + 1 ∧ ∀ a, Lands (fun k => valiseref21_Cheapest.l3 k n0 T' [] 0) a → Lands (fun k => valiseref21_Cheapest.l0 k data W lit n0 lens dists R T ((n : Int) - 1)) a := by
  intro n
  induction n with
  | zero =>
    intro R T hn hT hs
    refine ⟨R, T, hs, hT, fun a ha => ha.step (fun k => ?_)⟩
    rw [valiseref21_Cheapest.l0, if_neg (by omega)]
  | succ n ih =>
    intro R T hn hT hs
    obtain ⟨i, hi⟩ : ∃ i : Int, (n : Int) = i := ⟨_, rfl⟩
    have hi1 : ((n + 1 : Nat) : Int) - 1 = i := by omega
    have hi2 : ((n + 1 : Nat) : Int) = i + 1 := by omega
    rw [hi1]
    rw [hi2] at hs
    have hi0 : 0 ≤ i := by omega
    have hin : i < (data.length : Int) := by omega
    have hrl := hs.rl
    have hb1 := hs.bd (i + 1) (by omega) (by omega)
    have hd := hdata i hi0 hin
    have hq := hlit _ hd.1 hd.2
    have w1 : wrap64 (rd data i) = rd data i := wrap_id (by omega) (by omega)
    have w2 : wrap64 (i + 1) = i + 1 := wrap_id (by omega) (by omega)
    have w3 : wrap64 (rd lit (rd data i) + rd R (i + 1)) = rd lit (rd data i) + rd R (i + 1) := wrap_id (by omega) (by omega)
    obtain ⟨c0, hc0⟩ : ∃ c, rd lit (rd data i) + rd R (i + 1) = c := ⟨_, rfl⟩
    obtain ⟨x, hx⟩ : ∃ x, rd data i = x := ⟨_, rfl⟩
    have hRj : ∀ v j, i < j → rd (R.set i.toNat v) j = rd R j := fun v j hj => rd_set_ne _ _ _ _ hi0 (by omega) (by omega)
    obtain ⟨R1, T1, tk1, g1, g2⟩ := l1_run data lens dists lit L P W i c0 x (R.set i.toNat c0) (T.set i.toNat ⟨0, 0, x⟩) n0 hi0 hin hbig hL hll hP (fun j j0 j1 => by rw [hRj _ j j0]; have := hs.bd j (by omega) j1; omega) n 1 (R.set i.toNat c0) (T.set i.toNat ⟨0, 0, x⟩) 1 (by omega) (by omega)
      ⟨by rw [List.length_set]; exact hrl, by rw [List.length_set]; exact hT, fun _ _ _ => rfl, fun _ _ _ => rfl, by
        rw [rd_set_eq _ _ _ hi0 (by omega), rdT_set_eq _ _ _ hi0 (by omega)]
        exact .inl ⟨rfl, rfl, fun m d h => by have := h.1.2.2.2.1; omega⟩, by rw [rdT_set_eq _ _ _ hi0 (by omega)]; rfl⟩
    have e1 : ∀ j, i < j → rd R1 j = rd R j := fun j hj => by rw [g1.ro j (by omega) (by omega), hRj _ j hj]
    have e2 : ∀ j, i < j → rd_T56 T1 j = rd_T56 T j := fun j hj => by rw [g1.te j (by omega) (by omega), rdT_set_ne _ _ _ _ hi0 (by omega) (by omega)]
    have e3 : Opt (Sset data W i) (Cst L P R1 i) (rd lit (rd data i) + rd R1 (i + 1)) (rd data i) (rd R1 i) (rd_T56 T1 i) := by
      rw [e1 (i + 1) (by omega), hc0, hx]
      refine opt_congr (fun _ _ => Iff.rfl) (fun m d h => ?_) g1.op
      unfold Cst
      have := h.1
      rw [hRj _ (i + m) (by omega), e1 (i + m) (by omega)]
    have hsol : Sol lit data L P W (n : Int) R1 T1 := by
      rw [hi]
      refine ⟨g1.rl, by rw [g1.tl]; omega, by rw [e1 _ hin]; exact hs.last, fun j h5 h6 => ?_, fun j h5 h6 => ?_⟩
      · by_cases hj : j = i
        · subst hj
          have h7 := (opt_le e3).1
          rw [e1 (j + 1) (by omega)] at h7
          refine ⟨?_, by omega⟩
          rcases e3 with ⟨_, o2, _⟩ | ⟨m, d, _, o2, o3, _⟩
          · rw [o2, e1 (j + 1) (by omega)]; omega
          · rw [o3]
            unfold Cst
            have hh := o2.1
            have h8 := o2.2.2.2.2.2.1
            have h9 := o2.2.2.2.1
            have := hL m o2.1 o2.2.1
            have := hP d h9 o2.2.2.1 (by have := o2.2.2.2.2.1; omega)
            have := hs.bd (j + m) (by omega) (by omega)
            rw [e1 (j + m) (by omega)]
            omega
        · rw [e1 j (by omega)]
          exact hs.bd j (by omega) h6
      · by_cases hj : j = i
        · subst hj; exact e3
        · have := hs.opt j (by omega) h6
          rw [e1 j (by omega), e2 j (by omega), e1 (j + 1) (by omega)]
          refine opt_congr (fun _ _ => Iff.rfl) (fun m d h => ?_) this
          unfold Cst
          have := h.1
          rw [e1 (j + m) (by omega)]
    obtain ⟨R', T', g3, g4, g5⟩ := ih R1 T1 (by omega) g1.tl hsol
    refine ⟨R', T', g3, g4, fun a ha => ?_⟩
    have h5 := g5 a ha
    rw [hi] at h5
    refine (g2 a h5).step (fun k => ?_)
    rw [valiseref21_Cheapest.l0, if_pos (by omega), if_pos hi0, if_pos hin, if_pos (by omega), w1, if_pos hd.1, if_pos (by omega), w2, if_pos (by omega), if_pos (by omega), if_pos (by omega), w3, hc0, hx]
/-! ### the row -/
theorem l3_row {lit data : List Int} {L P : Int → Int} {W : Int} {R : List Int} {T T' : List S56} (h : Sol lit data L P W 0 R T) (hT : T.length = data.length) (hT' : T'.length = data.length + 1) (hbig : data.length ≤ 65536) (he : ∀ j, 0 ≤ j → j < (data.length : Int) → rd_T56 T' j = rd_T56 T j) :
    ∀ (n : Nat) (i : Int) (l r : List S56), 0 ≤ i → i ≤ (data.length : Int) → (l.length : Int) ≤ i → rowF T n i l = some r → Lands (fun k => valiseref21_Cheapest.l3 k (data.length : Int) T' l i) (r, 0) := by
  intro n
  induction n with
  | zero => intro i l r h0 h1 h2 h3; cases h3
  | succ n ih =>
    intro i l r h0 h1 h2 h3
    rw [rowF, hT] at h3
    by_cases c : i < (data.length : Int)
    · have hs := step_ok h i h0 c
      rw [if_pos c, if_pos h0, wrap_id (by omega) (by omega)] at h3
      refine (ih _ _ _ (by omega) (by omega) (by rw [List.length_append]; simp; omega) h3).step (fun k => ?_)
      rw [valiseref21_Cheapest.l3, if_pos c, if_pos h0, if_pos (by omega), if_pos (by omega), Option.bind_some, he i h0 c]
      have hstep : (if (rd_T56 T i).f0 = 0 then wrap64 (i + 1) else wrap64 (i + (rd_T56 T i).f0)) = i + mx 1 (rd_T56 T i).f0 := by
        rcases hs.1 with h4 | h4
        · rw [if_pos h4, h4, wrap_id (by omega) (by omega)]; rfl
        · have e : mx 1 (rd_T56 T i).f0 = (rd_T56 T i).f0 := by unfold mx; rw [if_pos (by omega)]
          rw [if_neg (by omega), e, wrap_id (by omega) (by omega)]
      rw [← hstep]
      split <;> rfl
    · rw [if_neg c] at h3
      obtain rfl := Option.some.inj h3
      exact Lands.const (fun k => by rw [valiseref21_Cheapest.l3, if_neg c])
/-! ### the tables -/
theorem lenS_sym (m : Int) (h0 : 3 ≤ m) (h1 : m ≤ 258) : (∀ k, 200 ≤ k → ∃ b x, valiseref10_LengthSymbol.f k m = some (lenS m, b, x, 0)) ∧ 257 ≤ lenS m ∧ lenS m ≤ 285 := by
  obtain ⟨s, b, x, g1, _, g3, g4⟩ := len_sym m h0 h1 200 (Nat.le_refl _)
  have e : lenS m = s := by unfold lenS; rw [g1]; rfl
  refine ⟨fun k hk => ?_, by omega, by omega⟩
  obtain ⟨s', b', x', q1, q2, _⟩ := len_sym m h0 h1 k hk
  have : s' = s := by
    have a := at_rounds (block_LengthSymbol.mono m) hk g1
    rw [q1] at a
    injection a with a
    injection a
  exact ⟨b', x', by rw [e, ← this]; exact q2⟩
theorem tl0 (lit dist : List Int) (most : Int) (hlit : lit.length = 286) (hm : 0 ≤ most ∧ most ≤ 65536) : ∀ (n : Nat) (m : Int) (lens : List Int), 3 ≤ m → m + n = 259 → lens.length = 259 → (∀ j, 3 ≤ j → j < m → rd lens j = rd lit (lenS j)) →
    ∃ lens', lens'.length = 259 ∧ (∀ j, 3 ≤ j → j ≤ 258 → rd lens' j = rd lit (lenS j)) ∧ ∀ a, Lands (fun k => valiseref21_table.l1 k dist most lens' (List.replicate (most + 1).toNat 0) 0 1) a → Lands (fun k => valiseref21_table.l0 k lit dist most lens m) a := by
  intro n
  induction n with
  | zero =>
    intro m lens h3 hn hl hj
    refine ⟨lens, hl, fun j j0 j1 => hj j j0 (by omega), fun a ha => ha.step (fun k => ?_)⟩
    rw [valiseref21_table.l0, if_neg (by omega), wrap_id (by omega) (by omega), if_pos (by omega), if_pos (by omega)]
  | succ n ih =>
    intro m lens h3 hn hl hj
    obtain ⟨hs, s1, s2⟩ := lenS_sym m h3 (by omega)
    obtain ⟨lens', g1, g2, g3⟩ := ih (m + 1) (lens.set m.toNat (rd lit (lenS m))) (by omega) (by omega) (by rw [List.length_set]; exact hl) (fun j j0 j1 => by
      by_cases hjm : j = m
      · rw [hjm, rd_set_eq _ _ _ (by omega) (by omega)]
      · rw [rd_set_ne _ _ _ _ (by omega) (by omega) hjm]; exact hj j j0 (by omega))
    refine ⟨lens', g1, g2, fun a ha => (g3 a ha).step' 200 (fun k hk => ?_)⟩
    obtain ⟨b, x, hsym⟩ := hs k hk
    rw [valiseref21_table.l0, if_pos (by omega), hsym, Option.bind_some]
    show (if 0 ≤ lenS m then (if lenS m < (lit.length : Int) then _ else _) else _) = _
    rw [if_pos (by omega), if_pos (by omega), if_pos (by omega), if_pos (by omega), wrap_id (by omega) (by omega)]
theorem distof_all : ((List.range 30).all fun s => valiseref10_DistOf.f 60 (s : Int) 0 == some (rd T (s : Int), 0)) = true := by decide +kernel
theorem distof_at (s : Nat) (hs : s ≤ 29) (k : Nat) (hk : 60 ≤ k) : valiseref10_DistOf.f k (s : Int) 0 = some (rd T (s : Int), 0) :=
  at_rounds (valiseref10_DistOf.mono _ _) hk (by simpa using List.all_eq_true.1 distof_all s (by rw [List.mem_range]; omega))
theorem distof_no (k : Nat) : valiseref10_DistOf.f k 30 0 = some (0, 1) := rfl
theorem tl1 (dist lens : List Int) (most : Int) (hdist : dist.length = 30) (hm : 0 ≤ most ∧ most ≤ 32768) : ∀ (n : Nat) (d : Int) (s : Nat) (ds : List Int), 1 ≤ d → d + n = most + 1 → ds.length = (most + 1).toNat → ((d = 1 ∧ s = 0) ∨ (1 < d ∧ Pl s (d - 1))) → (∀ j, 1 ≤ j → j < d → rd ds j = rd dist (distS j)) →
    ∃ ds', ds'.length = (most + 1).toNat ∧ (∀ j, 1 ≤ j → j ≤ most → rd ds' j = rd dist (distS j)) ∧ Lands (fun k => valiseref21_table.l1 k dist most lens ds (s : Int) d) (lens, ds') := by
  intro n
  induction n with
  | zero =>
    intro d s ds h1 hn hl hs hj
    exact ⟨ds, hl, fun j j0 j1 => hj j j0 (by omega), Lands.const (fun k => by rw [valiseref21_table.l1, if_neg (by omega)])⟩
  | succ n ih =>
    intro d s ds h1 hn hl hs hj
    obtain ⟨t, ht, hd⟩ := distS_pl d h1 (by omega)
    have hs29 : s ≤ 29 := by rcases hs with ⟨_, rfl⟩ | ⟨_, h⟩; omega; exact h.1
    have cont : ∀ (t' : Nat), t' = t → ∃ ds', ds'.length = (most + 1).toNat ∧ (∀ j, 1 ≤ j → j ≤ most → rd ds' j = rd dist (distS j)) ∧ Lands (fun k => valiseref21_table.l1 k dist most lens (ds.set d.toNat (rd dist (t' : Int))) (t' : Int) (d + 1)) (lens, ds') := by
      rintro t' rfl
      refine ih (d + 1) t' _ (by omega) (by omega) (by rw [List.length_set]; exact hl) (.inr ⟨by omega, by rw [show d + 1 - 1 = d by omega]; exact ht⟩) (fun j j0 j1 => ?_)
      by_cases hjd : j = d
      · rw [hjd, rd_set_eq _ _ _ (by omega) (by omega), hd]
      · rw [rd_set_ne _ _ _ _ (by omega) (by omega) hjd]; exact hj j j0 (by omega)
    have w1 : wrap64 ((s : Int) + 1) = ((s + 1 : Nat) : Int) := by rw [wrap_id (by omega) (by omega)]; omega
    have w2 : wrap64 (d + 1) = d + 1 := wrap_id (by omega) (by omega)
    have ht1 := ht.1
    by_cases h29 : s + 1 ≤ 29
    · by_cases hT : rd T ((s + 1 : Nat) : Int) = d
      · have e : s + 1 = t := by
          rcases hs with ⟨rfl, rfl⟩ | ⟨h2, h3⟩
          · rw [T_one] at hT; omega
          · exact pl_unique (pl_next h3 h29 hT) ht
        obtain ⟨ds', g1, g2, g3⟩ := cont (s + 1) e
        refine ⟨ds', g1, g2, g3.step' 60 (fun k hk => ?_)⟩
        rw [valiseref21_table.l1, if_pos (by omega), w1, distof_at (s + 1) h29 k hk, Option.bind_some]
        show (if (0 : Int) = 0 then (if rd T ((s + 1 : Nat) : Int) = d then _ else _) else _) = _
        rw [if_pos rfl, if_pos hT, if_pos (by omega), if_pos (by omega), if_pos (by omega), if_pos (by omega), w2]
      · have e : s = t := by
          rcases hs with ⟨rfl, rfl⟩ | ⟨h2, h3⟩
          · exact pl_unique pl_first ht
          · exact pl_unique (pl_stay h3 hT) ht
        obtain ⟨ds', g1, g2, g3⟩ := cont s e
        refine ⟨ds', g1, g2, g3.step' 60 (fun k hk => ?_)⟩
        rw [valiseref21_table.l1, if_pos (by omega), w1, distof_at (s + 1) h29 k hk, Option.bind_some]
        show (if (0 : Int) = 0 then (if rd T ((s + 1 : Nat) : Int) = d then _ else _) else _) = _
        rw [if_pos rfl, if_neg hT, if_pos (by omega), if_pos (by omega), if_pos (by omega), if_pos (by omega), w2]
    · obtain rfl : s = 29 := by omega
      have e : 29 = t := by
        rcases hs with ⟨_, h2⟩ | ⟨h2, h3⟩
        · cases h2
        · exact pl_unique (pl_stay h3 (by rw [T_last]; omega)) ht
      obtain ⟨ds', g1, g2, g3⟩ := cont 29 e
      refine ⟨ds', g1, g2, g3.step (fun k => ?_)⟩
      rw [valiseref21_table.l1, if_pos (by omega), show wrap64 (((29 : Nat) : Int) + 1) = 30 from by unfold wrap64; omega, distof_no k, Option.bind_some]
      show (if (1 : Int) = 0 then _ else _) = _
      rw [if_neg (by decide), if_pos (by omega), if_pos (by omega), if_pos (by omega), if_pos (by omega), w2]
theorem table_run (lit dist : List Int) (most : Int) (hlit : lit.length = 286) (hdist : dist.length = 30) (hm : 0 ≤ most ∧ most ≤ 32768) : ∃ lens ds, lens.length = 259 ∧ ds.length = (most + 1).toNat ∧ (∀ j, 3 ≤ j → j ≤ 258 → rd lens j = rd lit (lenS j)) ∧ (∀ j, 1 ≤ j → j ≤ most → rd ds j = rd dist (distS j)) ∧ Lands (fun k => valiseref21_table.f k lit dist most) (lens, ds) := by
  obtain ⟨lens, a1, a2, a3⟩ := tl0 lit dist most hlit ⟨hm.1, by omega⟩ 256 3 (List.replicate 259 0) (by omega) (by omega) List.length_replicate (fun j j0 j1 => by omega)
  obtain ⟨ds, b1, b2, b3⟩ := tl1 dist lens most hdist hm most.toNat 1 0 (List.replicate (most + 1).toNat 0) (by omega) (by omega) List.length_replicate (.inl ⟨rfl, rfl⟩) (fun j j0 j1 => by omega)
  refine ⟨lens, ds, a1, b1, a2, b2, ?_⟩
  obtain ⟨K, hK⟩ := a3 _ b3
  refine ⟨K, fun k hk => ?_⟩
  show valiseref21_table.f k lit dist most = _
  unfold valiseref21_table.f
  rw [if_pos (by decide)]
  exact hK k hk
end Go.Proofs.YtpndhoefmepfdaaDoor.CheapRef
