/- valiselaw21.SqueezePriced: the program's Price and the document's are one for all tokens and prices. Plain law: no memory and no program. -/
import Derived.Test.YtpndhoefmepfdaaDoorSqSym
import Derived.Test.YtpndhoefmepfdaaDoorPSqx5
namespace Go.Proofs.YtpndhoefmepfdaaDoor.SqPriced
open Go.RowKit Go.Proofs.YtpndhoefmepfdaaDoor.PSq Go.Proofs.YtpndhoefmepfdaaDoor.TS Go.Proofs.YtpndhoefmepfdaaDoorW.PrintWords Go.Proofs.YtpndhoefmepfdaaDoorW.PrintLast Go.Proofs.YtpndhoefmepfdaaDoor.SqSym
theorem copy_whole {α : Type} (l y : List α) (h : y.length = l.length) : l.take (min l.length y.length) ++ y.drop (min l.length y.length) = l := by
  rw [h, Nat.min_self, List.take_length, ← h, List.drop_length, List.append_nil]
theorem ints_eq (l : List Int) (h : l.length * 8 ≤ 140737488351232) : valiselaw21_ints.f l = some l := by
  unfold valiselaw21_ints.f
  rw [if_pos (by omega), if_pos (by omega), Option.bind_some, copy_whole l _ (by rw [List.length_replicate]; omega)]
theorem list_eq (l : List S56) (h : l.length * 24 ≤ 140737488351232) : valiselaw21_list.f l = some l := by
  unfold valiselaw21_list.f
  rw [if_pos (by omega), if_pos (by omega), Option.bind_some, copy_whole l _ (by rw [List.length_replicate]; omega)]

theorem rd_at (pre : List Int) (c : Int) (t : List Int) : rd (pre ++ c :: t) (pre.length : Int) = c := by unfold rd; simp [List.getD]
theorem rdT_at (pre : List S56) (c : S56) (t : List S56) : rd_T56 (pre ++ c :: t) (pre.length : Int) = c := by unfold rd_T56; simp [List.getD]
theorem all_loop (n : Nat) : ∀ (suf pre : List Int) (k : Nat), (pre ++ suf).length = n → n ≤ 9223372036854775806 → suf.length < k →
    valiseref21_all.l0 k (pre ++ suf) (n : Int) (pre.length : Int) = some (squeeze_fair.ok suf) := by
  intro suf
  induction suf with
  | nil =>
    intro pre k hn _ hk
    obtain ⟨k, rfl⟩ : ∃ q, k = q + 1 := ⟨k - 1, by omega⟩
    rw [List.append_nil] at hn
    rw [valiseref21_all.l0, if_neg (by omega)]
    rfl
  | cons c t ih =>
    intro pre k hn hb hk
    obtain ⟨k, rfl⟩ : ∃ q, k = q + 1 := ⟨k - 1, by omega⟩
    have hl : (pre ++ c :: t).length = pre.length + (t.length + 1) := by simp
    rw [valiseref21_all.l0, if_pos (by omega), if_pos (by omega), if_pos (by omega), rd_at]
    have e7 : pre ++ c :: t = (pre ++ [c]) ++ t := by simp
    have e6 : wrap64 ((pre.length : Int) + 1) = ((pre ++ [c]).length : Int) := by rw [wrap_id (by omega) (by omega)]; simp
    have hok : squeeze_fair.ok (c :: t) = (decide (1 ≤ c) && decide (c ≤ 65536) && squeeze_fair.ok t) := rfl
    by_cases h1 : c < 1
    · rw [if_pos h1, hok, decide_eq_false (by omega)]; rfl
    · by_cases h2 : c > 65536
      · rw [if_neg h1, if_pos h2, hok, decide_eq_true (by omega : 1 ≤ c), decide_eq_false (by omega)]; rfl
      · rw [if_neg h1, if_neg h2, hok, decide_eq_true (by omega : 1 ≤ c), decide_eq_true (by omega : c ≤ 65536), e6, e7]
        exact ih (pre ++ [c]) k (by rw [← e7]; exact hn) hb (by simp at hk; omega)
theorem all_eq (l : List Int) (n : Nat) (hl : l.length ≤ 9223372036854775806) (k : Nat) (hk : l.length < k) : valiseref21_all.f k l (n : Int) = some (l.length == n && squeeze_fair.ok l) := by
  unfold valiseref21_all.f
  by_cases h : l.length = n
  · rw [if_pos (by omega), ← h]
    have := all_loop l.length l [] k rfl hl hk
    rw [List.nil_append] at this
    simpa using this
  · rw [if_neg (by omega), show (l.length == n) = false from beq_eq_false_iff_ne.2 h]; rfl

/-- One token: its cost, as the document tells it, and the program's round. -/
theorem token (t : S56) (l1 l2 : List Int) (h1 : l1.length = 286) (h2 : l2.length = 30) (hb : 0 ≤ t.f2 ∧ t.f2 ≤ 255) : ∃ c e : Int, (e = 0 ∨ e = 211) ∧ (∀ k, 200 ≤ k → valiseref21_cost.f (k + 1) t.f0 t.f1 t.f2 l1 l2 = some (c, e)) ∧
    (∀ (k : Nat) (s i : Int) (toks : List S56), 200 ≤ k → rd_T56 toks i = t → 0 ≤ i → i < (toks.length : Int) →
      squeeze_Price.l0 (k + 2) l1 l2 s toks (toks.length : Int) i = if e = 0 then squeeze_Price.l0 k l1 l2 (wrap64 (s + c)) toks (toks.length : Int) (wrap64 (i + 1)) else some (0, 211)) := by
  have hw : wrap64 t.f2 = t.f2 := wrap_id (by omega) (by omega)
  by_cases hA : t.f0 = 0 ∧ t.f1 = 0
  · obtain ⟨a0, a1⟩ := hA
    refine ⟨rd l1 t.f2, 0, .inl rfl, fun k hk => ?_, fun k s i toks hk ht hi0 hi => ?_⟩
    · unfold valiseref21_cost.f
      rw [if_pos a0, a1, show ((0 : Int) == 0) = true from rfl, valiseref21_cost.j0, if_pos rfl, hw, if_pos hb.1, if_pos (by omega)]
    · rw [squeeze_Price.l0, if_pos hi, if_pos hi0, if_pos hi, ht, if_pos a0, a1, show ((0 : Int) == 0) = true from rfl, squeeze_Price.j1, if_pos rfl, if_pos hb.1, if_pos (by omega), if_pos rfl]
  · have hne : (if t.f0 = 0 then (t.f1 == 0) else false) = false := by
      by_cases a0 : t.f0 = 0
      · rw [if_pos a0, beq_eq_false_iff_ne]
        exact fun a1 => hA ⟨a0, a1⟩
      · rw [if_neg a0]
    obtain ⟨s1, b1, x1, e1, hs1⟩ : ∃ s1 b1 x1 e1 : Int, ∀ k, 200 ≤ k → block_LengthSymbol.f k t.f0 = some (s1, b1, x1, e1) ∧ valiseref10_LengthSymbol.f k t.f0 = some (s1, b1, x1, e1) ∧ (e1 = 0 → 257 ≤ s1 ∧ s1 ≤ 285) := by
      by_cases h : 3 ≤ t.f0 ∧ t.f0 ≤ 258
      · obtain ⟨s, b, x, g1, g2, g3, g4⟩ := len_sym t.f0 h.1 h.2 200 (Nat.le_refl _)
        exact ⟨s, b, x, 0, fun k hk => ⟨at_rounds (block_LengthSymbol.mono _) hk g1, at_rounds (valiseref10_LengthSymbol.mono _) hk g2, fun _ => ⟨g3, g4⟩⟩⟩
      · refine ⟨0, 0, 0, 1, fun k hk => ?_⟩
        obtain ⟨k, rfl⟩ : ∃ q, k = q + 1 := ⟨k - 1, by omega⟩
        obtain ⟨g1, g2⟩ := len_no t.f0 (by omega) k
        exact ⟨g1, g2, fun h => absurd h (by decide)⟩
    obtain ⟨s2, b2, x2, e2, hs2⟩ : ∃ s2 b2 x2 e2 : Int, ∀ k, 200 ≤ k → block_DistSymbol.f k t.f1 = some (s2, b2, x2, e2) ∧ valiseref10_DistSymbol.f k t.f1 = some (s2, b2, x2, e2) ∧ (e2 = 0 → 0 ≤ s2 ∧ s2 ≤ 29) := by
      by_cases h : 1 ≤ t.f1 ∧ t.f1 ≤ 32768
      · obtain ⟨s, b, x, g1, g2, g3, g4⟩ := dist_sym t.f1 h.1 h.2 200 (Nat.le_refl _)
        exact ⟨s, b, x, 0, fun k hk => ⟨at_rounds (block_DistSymbol.mono _) hk g1, at_rounds (valiseref10_DistSymbol.mono _) hk g2, fun _ => ⟨g3, g4⟩⟩⟩
      · refine ⟨0, 0, 0, 1, fun k hk => ?_⟩
        obtain ⟨k, rfl⟩ : ∃ q, k = q + 1 := ⟨k - 1, by omega⟩
        obtain ⟨g1, g2⟩ := dist_no t.f1 (by omega) k
        exact ⟨g1, g2, fun h => absurd h (by decide)⟩
    have ref : ∀ k, 200 ≤ k → valiseref21_cost.f (k + 1) t.f0 t.f1 t.f2 l1 l2 = valiseref21_cost.j0 (k + 1) l1 l2 false t.f0 t.f1 t.f2 := by
      intro k _
      unfold valiseref21_cost.f
      by_cases a0 : t.f0 = 0
      · rw [if_pos a0] at hne ⊢
        rw [hne]
      · rw [if_neg a0]
    have prog : ∀ (k : Nat) (s i : Int) (toks : List S56), rd_T56 toks i = t → 0 ≤ i → i < (toks.length : Int) → squeeze_Price.l0 (k + 2) l1 l2 s toks (toks.length : Int) i = squeeze_Price.j1 (k + 1) l1 l2 s toks (toks.length : Int) i false t.f0 t.f1 t.f2 := by
      intro k s i toks ht hi0 hi
      rw [squeeze_Price.l0, if_pos hi, if_pos hi0, if_pos hi, ht]
      by_cases a0 : t.f0 = 0
      · rw [if_pos a0] at hne ⊢
        rw [hne]
      · rw [if_neg a0]
    by_cases z1 : e1 = 0
    · by_cases z2 : e2 = 0
      · by_cases z3 : t.f2 = 0
        · refine ⟨wrap64 (rd l1 s1 + rd l2 s2), 0, .inl rfl, fun k hk => ?_, fun k s i toks hk ht hi0 hi => ?_⟩
          · obtain ⟨_, g1, q1⟩ := hs1 k hk
            obtain ⟨_, g2, q2⟩ := hs2 k hk
            have q1 := q1 z1
            have q2 := q2 z2
            rw [ref k hk, valiseref21_cost.j0, if_neg (by decide), g1, Option.bind_some, g2, Option.bind_some]
            show (if e1 = 0 then (if e2 = 0 then _ else _) else _) = _
            rw [if_pos z1, if_pos z2, if_pos z3, if_pos (by omega), if_pos (by omega), if_pos (by omega), if_pos (by omega)]
          · obtain ⟨g1, _, q1⟩ := hs1 k hk
            obtain ⟨g2, _, q2⟩ := hs2 k hk
            have q1 := q1 z1
            have q2 := q2 z2
            rw [prog k s i toks ht hi0 hi, squeeze_Price.j1, if_neg (by decide), g1, Option.bind_some, g2, Option.bind_some]
            show (if e1 = 0 then (if e2 = 0 then _ else _) else _) = _
            rw [if_pos z1, if_pos z2, if_pos z3, if_pos (by omega), if_pos (by omega), if_pos (by omega), if_pos (by omega), if_pos rfl]
        · refine ⟨0, 211, .inr rfl, fun k hk => ?_, fun k s i toks hk ht hi0 hi => ?_⟩
          · rw [ref k hk, valiseref21_cost.j0, if_neg (by decide), (hs1 k hk).2.1, Option.bind_some, (hs2 k hk).2.1, Option.bind_some]
            show (if e1 = 0 then (if e2 = 0 then _ else _) else _) = _
            rw [if_pos z1, if_pos z2, if_neg z3]
          · rw [prog k s i toks ht hi0 hi, squeeze_Price.j1, if_neg (by decide), (hs1 k hk).1, Option.bind_some, (hs2 k hk).1, Option.bind_some, if_neg (show ¬ (211 : Int) = 0 by decide)]
            show (if e1 = 0 then (if e2 = 0 then _ else _) else _) = _
            rw [if_pos z1, if_pos z2, if_neg z3]
      · refine ⟨0, 211, .inr rfl, fun k hk => ?_, fun k s i toks hk ht hi0 hi => ?_⟩
        · rw [ref k hk, valiseref21_cost.j0, if_neg (by decide), (hs1 k hk).2.1, Option.bind_some, (hs2 k hk).2.1, Option.bind_some]
          show (if e1 = 0 then (if e2 = 0 then _ else _) else _) = _
          rw [if_pos z1, if_neg z2]
        · rw [prog k s i toks ht hi0 hi, squeeze_Price.j1, if_neg (by decide), (hs1 k hk).1, Option.bind_some, (hs2 k hk).1, Option.bind_some, if_neg (show ¬ (211 : Int) = 0 by decide)]
          show (if e1 = 0 then (if e2 = 0 then _ else _) else _) = _
          rw [if_pos z1, if_neg z2]
    · refine ⟨0, 211, .inr rfl, fun k hk => ?_, fun k s i toks hk ht hi0 hi => ?_⟩
      · rw [ref k hk, valiseref21_cost.j0, if_neg (by decide), (hs1 k hk).2.1, Option.bind_some, (hs2 k hk).2.1, Option.bind_some]
        show (if e1 = 0 then (if e2 = 0 then _ else _) else _) = _
        rw [if_neg z1]
      · rw [prog k s i toks ht hi0 hi, squeeze_Price.j1, if_neg (by decide), (hs1 k hk).1, Option.bind_some, (hs2 k hk).1, Option.bind_some, if_neg (show ¬ (211 : Int) = 0 by decide)]
        show (if e1 = 0 then (if e2 = 0 then _ else _) else _) = _
        rw [if_neg z1]

/-- Both loops, token by token. -/
theorem loops (l1 l2 : List Int) (h1 : l1.length = 286) (h2 : l2.length = 30) : ∀ (suf pre : List S56) (s : Int), (∀ t ∈ suf, 0 ≤ t.f2 ∧ t.f2 ≤ 255) → (pre ++ suf).length ≤ 16777216 → ∃ c e : Int,
    (∀ k, 200 + 2 * suf.length < k → squeeze_Price.l0 k l1 l2 s (pre ++ suf) ((pre ++ suf).length : Int) (pre.length : Int) = some (c, e)) ∧
    (∀ k, 202 + suf.length < k → valiseref21_Price.l0 k (pre ++ suf) l1 l2 s (pre.length : Int) = some (c, e)) := by
  intro suf
  induction suf with
  | nil =>
    intro pre s _ _
    refine ⟨s, 0, fun k hk => ?_, fun k hk => ?_⟩
    · obtain ⟨k, rfl⟩ : ∃ q, k = q + 1 := ⟨k - 1, by omega⟩
      rw [List.append_nil, squeeze_Price.l0, if_neg (by omega)]
    · obtain ⟨k, rfl⟩ : ∃ q, k = q + 1 := ⟨k - 1, by omega⟩
      rw [List.append_nil, valiseref21_Price.l0, if_neg (by omega)]
  | cons t r ih =>
    intro pre s hb hn
    have hl : (pre ++ t :: r).length = pre.length + (r.length + 1) := by simp
    obtain ⟨c, e, he, hr, hp⟩ := token t l1 l2 h1 h2 (hb t (by simp))
    have e7 : pre ++ t :: r = (pre ++ [t]) ++ r := by simp
    have e6 : wrap64 ((pre.length : Int) + 1) = ((pre ++ [t]).length : Int) := by rw [wrap_id (by omega) (by omega)]; simp
    rcases he with rfl | rfl
    · obtain ⟨c', e', g1, g2⟩ := ih (pre ++ [t]) (wrap64 (s + c)) (fun x hx => hb x (List.mem_cons_of_mem _ hx)) (by rw [← e7]; exact hn)
      refine ⟨c', e', fun k hk => ?_, fun k hk => ?_⟩
      · rw [List.length_cons] at hk
        obtain ⟨k, rfl⟩ : ∃ q, k = q + 2 := ⟨k - 2, by omega⟩
        rw [hp k s (pre.length : Int) (pre ++ t :: r) (by omega) (rdT_at pre t r) (by omega) (by omega), if_pos rfl, e6]
        have := g1 k (by omega)
        rw [← e7] at this
        exact this
      · rw [List.length_cons] at hk
        obtain ⟨k, rfl⟩ : ∃ q, k = q + 2 := ⟨k - 2, by omega⟩
        rw [valiseref21_Price.l0, if_pos (by omega), if_pos (by omega), rdT_at, hr k (by omega), Option.bind_some]
        show (if (0 : Int) = 0 then _ else _) = _
        rw [if_pos rfl, e6]
        have := g2 (k + 1) (by omega)
        rw [← e7] at this
        exact this
    · refine ⟨0, 211, fun k hk => ?_, fun k hk => ?_⟩
      · rw [List.length_cons] at hk
        obtain ⟨k, rfl⟩ : ∃ q, k = q + 2 := ⟨k - 2, by omega⟩
        rw [hp k s (pre.length : Int) (pre ++ t :: r) (by omega) (rdT_at pre t r) (by omega) (by omega), if_neg (by decide)]
      · rw [List.length_cons] at hk
        obtain ⟨k, rfl⟩ : ∃ q, k = q + 2 := ⟨k - 2, by omega⟩
        rw [valiseref21_Price.l0, if_pos (by omega), if_pos (by omega), rdT_at, hr k (by omega), Option.bind_some]
        show (if (211 : Int) = 0 then _ else some (0, 211)) = _
        rw [if_neg (by decide)]

theorem prices (l0 : List S56) (l1 l2 : List Int) (hb : ∀ t ∈ l0, 0 ≤ t.f2 ∧ t.f2 ≤ 255) (h1 : l1.length ≤ 9223372036854775806) (h2 : l2.length ≤ 9223372036854775806) : ∃ (K : Nat) (c e : Int), ∀ k, K ≤ k → squeeze_Price.f k l0 l1 l2 = some (c, e) ∧ valiseref21_Price.f k l0 l1 l2 = some (c, e) := by
  by_cases hn : (l0.length : Int) > 16777216
  · refine ⟨0, 0, 1, fun k _ => ?_⟩
    unfold squeeze_Price.f valiseref21_Price.f
    rw [if_pos hn, if_pos hn]
    exact ⟨rfl, rfl⟩
  · obtain ⟨b1, hb1⟩ : ∃ b : Bool, (l1.length == 286 && squeeze_fair.ok l1) = b := ⟨_, rfl⟩
    obtain ⟨b2, hb2⟩ : ∃ b : Bool, (l2.length == 30 && squeeze_fair.ok l2) = b := ⟨_, rfl⟩
    have ha : ∀ k, l1.length + l2.length < k → valiseref21_all.f k l1 286 = some b1 ∧ valiseref21_all.f k l2 30 = some b2 :=
      fun k hk => ⟨hb1 ▸ all_eq l1 286 h1 k (by omega), hb2 ▸ all_eq l2 30 h2 k (by omega)⟩
    have hf : squeeze_fair.g l1 l2 = (b1 && b2) := by
      rw [← hb1, ← hb2]
      unfold squeeze_fair.g
      cases (l1.length == 286) <;> cases (l2.length == 30) <;> cases squeeze_fair.ok l1 <;> rfl
    by_cases hg : b1 = true ∧ b2 = true
    · obtain ⟨rfl, rfl⟩ := hg
      have z1 : l1.length = 286 := by
        have := (Bool.and_eq_true_iff.1 hb1).1
        exact eq_of_beq this
      have z2 : l2.length = 30 := by
        have := (Bool.and_eq_true_iff.1 hb2).1
        exact eq_of_beq this
      obtain ⟨c, e, g1, g2⟩ := loops l1 l2 z1 z2 l0 [] 0 hb (by rw [List.nil_append]; omega)
      rw [List.nil_append] at g1 g2
      refine ⟨2000 + 2 * l0.length, c, e, fun k hk => ⟨?_, ?_⟩⟩
      · unfold squeeze_Price.f squeeze_fair.f
        rw [if_neg hn, hf, Option.bind_some]
        show (if (true && true) = true then _ else _) = _
        rw [if_pos (show (true && true) = true from rfl)]
        exact g1 k (by omega)
      · obtain ⟨k, rfl⟩ : ∃ q, k = q + 1 := ⟨k - 1, by omega⟩
        unfold valiseref21_Price.f
        rw [if_neg hn, (ha (k + 1) (by omega)).1, Option.bind_some, (ha (k + 1) (by omega)).2, Option.bind_some]
        show (if true = true then _ else _) = _
        rw [if_pos rfl, valiseref21_Price.j0]
        show (if (!true) = true then _ else _) = _
        rw [if_neg (by decide)]
        exact g2 k (by omega)
    · have hf' : (b1 && b2) = false := by
        cases b1 <;> cases b2 <;> first | rfl | exact absurd ⟨rfl, rfl⟩ hg
      refine ⟨l1.length + l2.length + 2, 0, 210, fun k hk => ⟨?_, ?_⟩⟩
      · unfold squeeze_Price.f squeeze_fair.f
        rw [if_neg hn, hf, hf', Option.bind_some]
        show (if false = true then _ else _) = _
        rw [if_neg (by decide)]
      · obtain ⟨k, rfl⟩ : ∃ q, k = q + 1 := ⟨k - 1, by omega⟩
        unfold valiseref21_Price.f
        rw [if_neg hn, (ha (k + 1) (by omega)).1, Option.bind_some, (ha (k + 1) (by omega)).2, Option.bind_some]
        cases b1 with
        | false =>
          show (if false = true then _ else _) = _
          rw [if_neg (by decide), valiseref21_Price.j0, if_pos rfl]
        | true =>
          cases b2 with
          | true => exact absurd hf' (by decide)
          | false =>
            show (if true = true then _ else _) = _
            rw [if_pos rfl, valiseref21_Price.j0]
            rfl

theorem alike_from (l : List S56) (hl : l.length ≤ 9223372036854775806) : ∀ (n i : Nat), i + n = l.length → ∀ k, n < k → valiselaw21_alike.l0 k l l (i : Int) = some true := by
  intro n
  induction n with
  | zero =>
    intro i hi k hk
    obtain ⟨k, rfl⟩ : ∃ q, k = q + 1 := ⟨k - 1, by omega⟩
    rw [valiselaw21_alike.l0, if_neg (by omega)]
  | succ n ih =>
    intro i hi k hk
    obtain ⟨k, rfl⟩ : ∃ q, k = q + 1 := ⟨k - 1, by omega⟩
    rw [valiselaw21_alike.l0, if_pos (by omega), if_pos (by omega), if_pos (by omega), if_neg (by simp), wrap_id (by omega) (by omega)]
    exact ih (i + 1) (by omega) k (by omega)
theorem alike_self (l : List S56) (hl : l.length ≤ 9223372036854775806) (k : Nat) (hk : l.length < k) : valiselaw21_alike.l0 k l l 0 = some true := alike_from l hl l.length 0 (by omega) k hk
theorem equal_from (l : List Int) (hl : l.length ≤ 9223372036854775806) : ∀ (n i : Nat), i + n = l.length → ∀ k, n < k → valiselaw21_equal.l0 k l l (i : Int) = some true := by
  intro n
  induction n with
  | zero =>
    intro i hi k hk
    obtain ⟨k, rfl⟩ : ∃ q, k = q + 1 := ⟨k - 1, by omega⟩
    rw [valiselaw21_equal.l0, if_neg (by omega)]
  | succ n ih =>
    intro i hi k hk
    obtain ⟨k, rfl⟩ : ∃ q, k = q + 1 := ⟨k - 1, by omega⟩
    rw [valiselaw21_equal.l0, if_pos (by omega), if_pos (by omega), if_pos (by omega), if_pos rfl, wrap_id (by omega) (by omega)]
    exact ih (i + 1) (by omega) k (by omega)

theorem equal_self (l : List Int) (hl : l.length ≤ 9223372036854775806) (k : Nat) (hk : l.length < k) : valiselaw21_equal.l0 k l l 0 = some true := equal_from l hl l.length 0 (by omega) k hk

/-- The row's plain law. -/
theorem law (l0 : List S56) (l1 l2 : List Int) (hb : ∀ t ∈ l0, 0 ≤ t.f2 ∧ t.f2 ≤ 255) (h0 : l0.length * 24 ≤ 140737488351232) (h1 : l1.length * 8 ≤ 140737488351232) (h2 : l2.length * 8 ≤ 140737488351232) : ∃ k, valiselaw21_SqueezePriced.f k l0 l1 l2 = some true := by
  obtain ⟨K, c, e, hk⟩ := prices l0 l1 l2 hb (by omega) (by omega)
  obtain ⟨p1, p2⟩ := hk (K + l0.length + l1.length + l2.length + 1) (by omega)
  refine ⟨K + l0.length + l1.length + l2.length + 1, ?_⟩
  unfold valiselaw21_SqueezePriced.f valiselaw21_num.f valiselaw21_alike.f valiselaw21_equal.f
  rw [list_eq l0 h0, Option.bind_some, ints_eq l1 h1, Option.bind_some, ints_eq l2 h2, Option.bind_some, p1, Option.bind_some, p2, Option.bind_some, Option.bind_some]
  show (if e = e then (if c = c then _ else _) else _) = _
  rw [if_pos rfl, if_pos rfl, if_pos rfl, alike_self l0 (by omega) _ (by omega), Option.bind_some, if_pos rfl, if_pos rfl,
    equal_self l1 (by omega) _ (by omega), Option.bind_some, if_pos rfl, if_pos rfl,
    equal_self l2 (by omega) _ (by omega), Option.bind_some]
end Go.Proofs.YtpndhoefmepfdaaDoor.SqPriced
