/- valiselaw21.SqueezeLast: the least price is at most a beginning's least price and a last token's, and just that for the row's own last token. Plain law: no memory and no program. -/
import Derived.Test.YtpndhoefmepfdaaDoorCheapMean
import Derived.Test.YtpndhoefmepfdaaDoorPSqgL
namespace Go.Proofs.YtpndhoefmepfdaaDoor.CheapLast
open Go.RowKit Go.Proofs.YtpndhoefmepfdaaDoor.PSq Go.Proofs.YtpndhoefmepfdaaDoor.CheapPure Go.Proofs.YtpndhoefmepfdaaDoor.CheapFair Go.Proofs.YtpndhoefmepfdaaDoor.CheapMean Go.Proofs.YtpndhoefmepfdaaDoorW.PrintWords Go.Proofs.YtpndhoefmepfdaaDoorW.PrintLast
open Go.Proofs.YtpndhoefmepfdaaDoor.SqSelf (equal_self alike_self ints_eq list_eq copy_whole clone_eq same_self)
set_option linter.unusedVariables false
theorem says_take {data : List Int} {e : Nat} (he : e ≤ data.length) {i k d : Int} (hi : 0 ≤ i) : Says (data.take e) i k d ↔ Says data i k d ∧ i + k ≤ (e : Int) := by
  have hl : (data.take e).length = e := by rw [List.length_take]; omega
  constructor
  · rintro ⟨a1, a2, a3, a4⟩
    rw [hl] at a3
    refine ⟨⟨a1, a2, by omega, fun j j0 j1 => ?_⟩, a3⟩
    have := a4 j j0 j1
    rwa [rd_take _ _ _ (by omega) (by omega), rd_take _ _ _ (by omega) (by omega)] at this
  · rintro ⟨⟨a1, a2, a3, a4⟩, a5⟩
    refine ⟨a1, a2, by rw [hl]; exact a5, fun j j0 j1 => ?_⟩
    rw [rd_take _ _ _ (by omega) (by omega), rd_take _ _ _ (by omega) (by omega)]
    exact a4 j j0 j1
theorem row_snoc {data : List Int} {e : Nat} (he : e ≤ data.length) (t : S56) (ht : SaysRow data (e : Int) [t]) : ∀ (l : List S56) (i : Int), 0 ≤ i → SaysRow (data.take e) i l → SaysRow data i (l ++ [t]) := by
  have hl : (data.take e).length = e := by rw [List.length_take]; omega
  intro l
  induction l with
  | nil =>
    intro i h0 h
    have : i = ((data.take e).length : Int) := h
    rw [hl] at this
    rw [this]
    exact ht
  | cons a r ih =>
    intro i h0 h
    rcases h with ⟨a1, a2, a3, a4, a5⟩ | ⟨a1, a2, a3, a4, a5, a6⟩
    · rw [hl] at a3
      rw [rd_take _ _ _ h0 a3] at a4
      exact .inl ⟨a1, a2, by omega, a4, ih _ (by omega) a5⟩
    · exact .inr ⟨a1, a2, a3, a4, ((says_take he h0).1 a5).1, ih _ (by omega) a6⟩
theorem row_split {data : List Int} (t : S56) : ∀ (l : List S56) (i : Int), 0 ≤ i → SaysRow data i (l ++ [t]) → ∃ e : Nat, e ≤ data.length ∧ i ≤ (e : Int) ∧ SaysRow (data.take e) i l ∧ SaysRow data (e : Int) [t] := by
  intro l
  induction l with
  | nil =>
    intro i h0 h
    have hle := says_length h
    simp at hle
    refine ⟨i.toNat, by omega, by omega, ?_, by rw [Int.toNat_of_nonneg h0]; exact h⟩
    show i = ((data.take i.toNat).length : Int)
    rw [List.length_take]
    omega
  | cons a r ih =>
    intro i h0 h
    rcases h with ⟨a1, a2, a3, a4, a5⟩ | ⟨a1, a2, a3, a4, a5, a6⟩
    · obtain ⟨e, e1, e2, e3, e4⟩ := ih _ (by omega) a5
      have hl : (data.take e).length = e := by rw [List.length_take]; omega
      exact ⟨e, e1, by omega, .inl ⟨a1, a2, by rw [hl]; omega, by rw [rd_take _ _ _ h0 (by omega)]; exact a4, e3⟩, e4⟩
    · obtain ⟨e, e1, e2, e3, e4⟩ := ih _ (by omega) a6
      exact ⟨e, e1, by omega, .inr ⟨a1, a2, a3, a4, (says_take e1 h0).2 ⟨a5, e2⟩, e3⟩, e4⟩
theorem sum_app (lit dist : List Int) (t : S56) : ∀ l, sumOf lit dist (l ++ [t]) = sumOf lit dist l + costOf lit dist t := by
  intro l
  induction l with
  | nil => simp [sumOf]
  | cons a r ih => show costOf lit dist a + sumOf lit dist (r ++ [t]) = costOf lit dist a + sumOf lit dist r + _; rw [ih]; omega
theorem win_app {W : Int} {t : S56} {l : List S56} (h : InWin W l) (ht : t.f1 ≤ W) : InWin W (l ++ [t]) := fun x hx => by
  rcases List.mem_append.1 hx with hx | hx
  · exact h x hx
  · rw [List.mem_singleton.1 hx]; exact ht
theorem sum_bound {lit dist data : List Int} (z1 : lit.length = 286) (z2 : dist.length = 30) (k1 : squeeze_fair.ok lit = true) (k2 : squeeze_fair.ok dist = true) (hb : ∀ x ∈ data, 0 ≤ x ∧ x ≤ 255) : ∀ (l : List S56) (i : Int), 0 ≤ i → SaysRow data i l → 0 ≤ sumOf lit dist l ∧ sumOf lit dist l ≤ 131072 * ((data.length : Int) - i) := by
  intro l
  induction l with
  | nil => intro i h0 h; have : i = (data.length : Int) := h; simp [sumOf]; omega
  | cons t r ih =>
    intro i h0 h
    rw [sumOf]
    unfold costOf
    rcases h with ⟨a1, a2, a3, a4, a5⟩ | ⟨a1, a2, a3, a4, a5, a6⟩
    · have := ih _ (by omega) a5
      have := bytes_rd hb i h0 a3
      have := ok_bound k1 t.f2 (by omega) (by omega)
      rw [if_pos a1]
      omega
    · have := ih _ (by omega) a6
      have := LL_bound z1 k1 t.f0 a1 a2
      have := PP_bound z2 k2 t.f1 a5.1 a3
      rw [if_neg (by omega)]
      omega
/-- What costs tells of one token at a place. -/
theorem costs_one (lit dist data : List Int) (W : Int) (hW : 0 ≤ W) (z1 : lit.length = 286) (z2 : dist.length = 30) (k1 : squeeze_fair.ok lit = true) (k2 : squeeze_fair.ok dist = true) (hb : ∀ x ∈ data, 0 ≤ x ∧ x ≤ 255) (hbig : data.length ≤ 65536) (t : S56) (e : Int) (he : 0 ≤ e) (ht : SaysRow data e [t]) (hw : t.f1 ≤ W) :
    Lands (fun k => valiselaw21_costs.f k [t] W lit dist) (costOf lit dist t, true) := by
  obtain ⟨c, b, g1, g2⟩ := costs_run lit dist data W z1 z2 k1 k2 hb hbig [t] [] 0 (says_bytes hb [t] e he ht) (by simp)
  obtain ⟨q1, q2⟩ := g2 e he ht (by omega) (by omega)
  have hbt := q1.2 (fun x hx => by rw [List.mem_singleton.1 hx]; exact .inr hw)
  subst hbt
  have hc := q2 rfl
  have : c = costOf lit dist t := by rw [hc]; simp [sumOf]
  subst this
  exact g1
/-- fits answers; where it says yes the copy says the last bytes. -/
theorem fits_any (data : List Int) (m d W : Int) (hbig : data.length ≤ 65536) (hW : W ≤ 32768) : ∃ v, Lands (fun k => valiselaw21_fits.f k data m d W) v ∧ (v = true → 3 ≤ m ∧ m ≤ 258 ∧ d ≤ W ∧ m ≤ (data.length : Int) ∧ Says data ((data.length : Int) - m) m d) := by
  have no : ∀ a : Bool, a = true → ∀ k, valiselaw21_fits.j0 (k + 1) data m d (data.length : Int) a = some false := fun a ha k => by rw [valiselaw21_fits.j0, if_pos ha]
  by_cases c1 : m < 3
  · exact ⟨false, Lands.const (fun k => by unfold valiselaw21_fits.f; rw [if_pos c1, no _ rfl]), (fun h => by cases h)⟩
  by_cases c2 : m > 258
  · exact ⟨false, Lands.const (fun k => by unfold valiselaw21_fits.f; rw [if_neg c1, if_pos c2, no _ rfl]), (fun h => by cases h)⟩
  by_cases c3 : d < 1
  · exact ⟨false, Lands.const (fun k => by unfold valiselaw21_fits.f; rw [if_neg c1, if_neg c2, if_pos c3, no _ rfl]), (fun h => by cases h)⟩
  by_cases c4 : d > W
  · exact ⟨false, Lands.const (fun k => by unfold valiselaw21_fits.f; rw [if_neg c1, if_neg c2, if_neg c3, if_pos c4, no _ rfl]), (fun h => by cases h)⟩
  by_cases c5 : m > (data.length : Int)
  · exact ⟨false, Lands.const (fun k => by unfold valiselaw21_fits.f; rw [if_neg c1, if_neg c2, if_neg c3, if_neg c4, if_pos c5, no _ rfl]), (fun h => by cases h)⟩
  have w1 : wrap64 ((data.length : Int) - m) = (data.length : Int) - m := wrap_id (by omega) (by omega)
  by_cases c6 : d > (data.length : Int) - m
  · exact ⟨false, Lands.const (fun k => by unfold valiselaw21_fits.f; rw [if_neg c1, if_neg c2, if_neg c3, if_neg c4, if_neg c5, w1, decide_eq_true c6, no _ rfl]), (fun h => by cases h)⟩
  have loop : ∀ (n : Nat) (i : Int), (data.length : Int) - m ≤ i → i + n = (data.length : Int) → (∀ j, (data.length : Int) - m ≤ j → j < i → rd data (j - d) = rd data j) → ∃ v, Lands (fun k => valiselaw21_fits.l0 k data d (data.length : Int) i) v ∧ (v = true → ∀ j, (data.length : Int) - m ≤ j → j < (data.length : Int) → rd data (j - d) = rd data j) := by
    intro n
    induction n with
    | zero =>
      intro i h0 h1 hj
      exact ⟨true, Lands.const (fun k => by rw [valiselaw21_fits.l0, if_neg (by omega)]), fun _ j j0 j1 => hj j j0 (by omega)⟩
    | succ n ih =>
      intro i h0 h1 hj
      have w2 : wrap64 (i - d) = i - d := wrap_id (by omega) (by omega)
      by_cases hx : rd data i = rd data (i - d)
      · obtain ⟨v, g1, g2⟩ := ih (i + 1) (by omega) (by omega) (fun j j0 j1 => by
          by_cases hji : j = i
          · rw [hji]; exact hx.symm
          · exact hj j j0 (by omega))
        refine ⟨v, g1.step (fun k => ?_), g2⟩
        rw [valiselaw21_fits.l0, if_pos (by omega), if_pos (by omega), if_pos (by omega), w2, if_pos (by omega), if_pos (by omega), if_pos hx, wrap_id (by omega) (by omega)]
      · refine ⟨false, Lands.const (fun k => ?_), (fun h => by cases h)⟩
        rw [valiselaw21_fits.l0, if_pos (by omega), if_pos (by omega), if_pos (by omega), w2, if_pos (by omega), if_pos (by omega), if_neg hx]
  obtain ⟨v, g1, g2⟩ := loop m.toNat ((data.length : Int) - m) (by omega) (by omega) (fun j j0 j1 => by omega)
  refine ⟨v, ?_, fun hv => ⟨by omega, by omega, by omega, by omega, ⟨by omega, by omega, by omega, fun j j0 j1 => ?_⟩⟩⟩
  · have h := g1.step (g := fun k => valiselaw21_fits.j0 k data m d (data.length : Int) false) (fun k => by rw [valiselaw21_fits.j0, if_neg (by decide), w1])
    obtain ⟨K, hK⟩ := h
    refine ⟨K, fun k hk => ?_⟩
    show valiselaw21_fits.f k data m d W = _
    unfold valiselaw21_fits.f
    rw [if_neg c1, if_neg c2, if_neg c3, if_neg c4, if_neg c5, w1, decide_eq_false (by omega)]
    exact hK k hk
  · have := g2 hv ((data.length : Int) - m + j) (by omega) (by omega)
    exact this
theorem span_eq (t : S56) : valiselaw21_span.f t.f0 t.f1 t.f2 = some (if t.f0 = 0 then 1 else t.f0) := by
  unfold valiselaw21_span.f
  split <;> rfl
theorem law (l0 : List Int) (a1 : Int) (l2 l3 : List Int) (a4 a5 : Int) (hb : ∀ x ∈ l0, 0 ≤ x ∧ x ≤ 255) (h0 : l0.length ≤ 140737488351232) (_ : -9223372036854775808 ≤ a1 ∧ a1 ≤ 9223372036854775807) (h2 : l2.length * 8 ≤ 140737488351232) (h3 : l3.length * 8 ≤ 140737488351232) (_ : -9223372036854775808 ≤ a4 ∧ a4 ≤ 9223372036854775807) (_ : -9223372036854775808 ≤ a5 ∧ a5 ≤ 9223372036854775807) :
    ∃ k, valiselaw21_SqueezeLast.f k l0 a1 l2 l3 a4 a5 = some true := by
  by_cases hA : 65536 < (l0.length : Int) ∨ a1 < 1 ∨ 32768 < a1
  · refine ⟨1, ?_⟩
    unfold valiselaw21_SqueezeLast.f
    rw [show valiselaw21_refused.f (l0.length : Int) a1 l2 l3 = some 1 by unfold valiselaw21_refused.f; rw [if_pos hA], Option.bind_some, if_neg (by decide)]
  · by_cases hg : squeeze_fair.g l2 l3 = true
    rotate_left
    · refine ⟨1, ?_⟩
      unfold valiselaw21_SqueezeLast.f
      rw [show valiselaw21_refused.f (l0.length : Int) a1 l2 l3 = some 210 by unfold valiselaw21_refused.f; rw [if_neg hA, if_neg hg], Option.bind_some, if_neg (by decide)]
    have hr : valiselaw21_refused.f (l0.length : Int) a1 l2 l3 = some 0 := by unfold valiselaw21_refused.f; rw [if_neg hA, if_pos hg]
    have hn : l0.length ≤ 65536 := by omega
    have hW : 1 ≤ a1 ∧ a1 ≤ 32768 := by omega
    obtain ⟨z1, z2, k1, k2⟩ := fair_parts hg
    have hbt : ∀ e : Nat, ∀ x ∈ l0.take e, 0 ≤ x ∧ x ≤ 255 := fun e x hx => hb x (List.mem_of_mem_take hx)
    have hnt : ∀ e : Nat, (l0.take e).length ≤ 65536 := fun e => by rw [List.length_take]; omega
    obtain ⟨r, c, f1, f2, f3, f4, f5, K1, hK1⟩ := cheapest_lands l0 l2 l3 a1 hb hn hW hg
    simp only at hK1
    have start : Lands (fun k => valiselaw21_SqueezeLast.j0 k l0 a1 l2 l3 a4 a5 (l0.length : Int) c r false) true → ∃ k, valiselaw21_SqueezeLast.f k l0 a1 l2 l3 a4 a5 = some true := by
      rintro ⟨K, hK⟩
      refine ⟨K + K1, ?_⟩
      unfold valiselaw21_SqueezeLast.f
      rw [hr, Option.bind_some, if_pos rfl, hK1 _ (by omega), Option.bind_some, clone_eq l0 h0, Option.bind_some, ints_eq l2 h2, Option.bind_some, ints_eq l3 h3, Option.bind_some, f1, Option.bind_some]
      exact hK (K + K1) (by omega)
    apply start
    by_cases hz : l0.length = 0
    · have hrl := says_length f2
      have hre : r = [] := List.eq_nil_of_length_eq_zero (by omega)
      subst hre
      have hc : c = 0 := by rw [← f4]; rfl
      exact Lands.const (fun k => by rw [valiselaw21_SqueezeLast.j0, if_neg (by decide), if_pos (by omega), if_pos hc]; rfl)
    rcases List.eq_nil_or_concat r with hre | ⟨r', t, hre⟩
    · subst hre
      have : (0 : Int) = (l0.length : Int) := f2
      omega
    rw [List.concat_eq_append] at hre
    subst hre
    obtain ⟨e, e1, e2, e3, e4⟩ := row_split t r' 0 (by omega) f2
    have htw : t.f1 ≤ a1 := f3 t (by simp)
    have hwin : InWin a1 r' := fun x hx => f3 x (by simp [hx])
    obtain ⟨sp, hsp⟩ : ∃ sp, (if t.f0 = 0 then 1 else t.f0) = sp := ⟨_, rfl⟩
    have hspn : 1 ≤ sp ∧ sp + (e : Int) = (l0.length : Int) := by
      rw [← hsp]
      rcases e4 with ⟨b1, b2, b3, b4, b5⟩ | ⟨b1, b2, b3, b4, b5, b6⟩
      · rw [if_pos b1]
        have : (e : Int) + 1 = (l0.length : Int) := b5
        omega
      · rw [if_neg (by omega)]
        have : (e : Int) + t.f0 = (l0.length : Int) := b6
        omega
    have hspan : valiselaw21_span.f t.f0 t.f1 t.f2 = some sp := by rw [span_eq, hsp]
    obtain ⟨K2, hK2⟩ := costs_one l2 l3 l0 a1 (by omega) z1 z2 k1 k2 hb hn t (e : Int) (by omega) e4 htw
    obtain ⟨rf, cf, g1, g2, g3, g4, g5, K3, hK3⟩ := cheapest_lands (l0.take e) l2 l3 a1 (hbt e) (hnt e) hW hg
    obtain ⟨rl, cl, q1, q2, q3, q4, q5, K4, hK4⟩ := cheapest_lands (l0.take (l0.length - 1)) l2 l3 a1 (hbt _) (hnt _) hW hg
    simp only at hK2 hK3 hK4
    have sb := sum_bound z1 z2 k1 k2 hb (r' ++ [t]) 0 (by omega) f2
    rw [f4] at sb
    have sbf := sum_bound z1 z2 k1 k2 (hbt e) rf 0 (by omega) g2
    rw [g4] at sbf
    have sbl := sum_bound z1 z2 k1 k2 (hbt (l0.length - 1)) rl 0 (by omega) q2
    rw [q4] at sbl
    have hle1 : (l0.take e).length = e := by rw [List.length_take]; omega
    have hle2 : (l0.take (l0.length - 1)).length = l0.length - 1 := by rw [List.length_take]; omega
    rw [hle1] at sbf
    rw [hle2] at sbl
    have heq : c = cf + costOf l2 l3 t := by
      have u1 := g5 r' e3 hwin
      have u2 := f5 (rf ++ [t]) (row_snoc e1 t e4 rf 0 (by omega) g2) (win_app g3 htw)
      have u3 := sum_app l2 l3 t r'
      have u4 := sum_app l2 l3 t rf
      rw [f4] at u3
      rw [g4] at u4
      omega
    have hlit : c ≤ cl + rd l2 (rd l0 ((l0.length : Int) - 1)) := by
      have hs : SaysRow l0 ((l0.length - 1 : Nat) : Int) [⟨0, 0, rd l0 ((l0.length - 1 : Nat) : Int)⟩] := .inl ⟨rfl, rfl, by omega, rfl, by show ((l0.length - 1 : Nat) : Int) + 1 = (l0.length : Int); omega⟩
      have u2 := f5 (rl ++ [⟨0, 0, rd l0 ((l0.length - 1 : Nat) : Int)⟩]) (row_snoc (by omega) _ hs rl 0 (by omega) q2) (win_app q3 (by show (0 : Int) ≤ a1; omega))
      rw [sum_app, q4] at u2
      unfold costOf at u2
      rw [if_pos rfl] at u2
      rw [show ((l0.length - 1 : Nat) : Int) = (l0.length : Int) - 1 by omega] at u2
      exact u2
    have hd1 := bytes_rd hb ((l0.length : Int) - 1) (by omega) (by omega)
    have hl1 := ok_bound k1 (rd l0 ((l0.length : Int) - 1)) hd1.1 (by omega)
    have wn1 : wrap64 ((l0.length : Int) - 1) = (l0.length : Int) - 1 := wrap_id (by omega) (by omega)
    have wrl : wrap64 (((r' ++ [t]).length : Int) - 1) = (r'.length : Int) := by
      have hrl := says_length f2
      rw [wrap_id (by omega) (by omega), List.length_append]
      simp
    have hlast : rd_T56 (r' ++ [t]) (r'.length : Int) = t := rdT_at r' t []
    -- the third part
    have third : Lands (fun k => valiselaw21_SqueezeLast.j3 k l0 a1 l2 l3 a4 a5 (l0.length : Int) c false) true := by
      obtain ⟨v, ⟨K5, hK5⟩, hv⟩ := fits_any l0 a4 a5 a1 hn hW.2
      simp only at hK5
      by_cases hvt : v = true
      · obtain ⟨m0, m1, m2, m3, m4⟩ := hv hvt
        obtain ⟨p, hp⟩ : ∃ p : Nat, (l0.length : Int) - a4 = (p : Int) := ⟨((l0.length : Int) - a4).toNat, by omega⟩
        rw [hp] at m4
        have hs : SaysRow l0 (p : Int) [⟨a4, a5, 0⟩] := .inr ⟨m0, m1, by show a5 ≤ 32768; omega, rfl, m4, by show (p : Int) + a4 = (l0.length : Int); omega⟩
        obtain ⟨K6, hK6⟩ := costs_one l2 l3 l0 a1 (by omega) z1 z2 k1 k2 hb hn ⟨a4, a5, 0⟩ (p : Int) (by omega) hs m2
        obtain ⟨rs, cs, s1, s2, s3, s4, s5, K7, hK7⟩ := cheapest_lands (l0.take p) l2 l3 a1 (hbt p) (hnt p) hW hg
        simp only at hK6 hK7
        have sbs := sum_bound z1 z2 k1 k2 (hbt p) rs 0 (by omega) s2
        rw [s4] at sbs
        have hle3 : (l0.take p).length = p := by rw [List.length_take]; omega
        rw [hle3] at sbs
        have hcp : 0 ≤ costOf l2 l3 ⟨a4, a5, 0⟩ ∧ costOf l2 l3 ⟨a4, a5, 0⟩ ≤ 131072 := by
          unfold costOf
          rw [if_neg (by show ¬ a4 = 0; omega)]
          have := LL_bound z1 k1 a4 m0 m1
          have := PP_bound z2 k2 a5 m4.1 (by omega)
          show 0 ≤ LL l2 a4 + PP l3 a5 ∧ LL l2 a4 + PP l3 a5 ≤ 131072
          omega
        have hle : c ≤ cs + costOf l2 l3 ⟨a4, a5, 0⟩ := by
          have u2 := f5 (rs ++ [⟨a4, a5, 0⟩]) (row_snoc (by omega) _ hs rs 0 (by omega) s2) (win_app s3 m2)
          rw [sum_app, s4] at u2
          exact u2
        refine ⟨K5 + K6 + K7 + 1, fun k hk => ?_⟩
        obtain ⟨k, rfl⟩ : ∃ q, k = q + 1 := ⟨k - 1, by omega⟩
        show valiselaw21_SqueezeLast.j3 (k + 1) l0 a1 l2 l3 a4 a5 (l0.length : Int) c false = _
        rw [valiselaw21_SqueezeLast.j3, if_neg (by decide), hK5 k (by omega), Option.bind_some, if_pos hvt, hK6 k (by omega), Option.bind_some, show wrap64 ((l0.length : Int) - a4) = (p : Int) by rw [wrap_id (by omega) (by omega), hp], if_pos (by omega), if_pos (by omega), Int.toNat_natCast, hK7 k (by omega), Option.bind_some]
        show (if true = true then (if true = true then some (decide (c ≤ wrap64 (cs + costOf l2 l3 ⟨a4, a5, 0⟩))) else _) else _) = _
        rw [if_pos rfl, if_pos rfl, wrap_id (by omega) (by omega), decide_eq_true hle]
      · refine ⟨K5 + 1, fun k hk => ?_⟩
        obtain ⟨k, rfl⟩ : ∃ q, k = q + 1 := ⟨k - 1, by omega⟩
        show valiselaw21_SqueezeLast.j3 (k + 1) l0 a1 l2 l3 a4 a5 (l0.length : Int) c false = _
        rw [valiselaw21_SqueezeLast.j3, if_neg (by decide), hK5 k (by omega), Option.bind_some, if_neg hvt]
    have second : Lands (fun k => valiselaw21_SqueezeLast.j2 k l0 a1 l2 l3 a4 a5 (l0.length : Int) c false) true := by
      refine third.step' K4 (fun k hk => ?_)
      rw [valiselaw21_SqueezeLast.j2, if_neg (by decide), wn1, if_pos (by omega), if_pos (by omega), show ((l0.length : Int) - 1).toNat = l0.length - 1 by omega, hK4 k hk, Option.bind_some]
      show (if true = true then _ else _) = _
      rw [if_pos rfl, if_pos (by omega), show wrap64 (rd l0 ((l0.length : Int) - 1)) = rd l0 ((l0.length : Int) - 1) from wrap_id (by omega) (by omega), if_pos hd1.1, if_pos (by omega)]
      show valiselaw21_SqueezeLast.j3 k l0 a1 l2 l3 a4 a5 (l0.length : Int) c (decide (c > wrap64 (cl + rd l2 (rd l0 ((l0.length : Int) - 1))))) = _
      rw [show wrap64 (cl + rd l2 (rd l0 ((l0.length : Int) - 1))) = cl + rd l2 (rd l0 ((l0.length : Int) - 1)) from wrap_id (by omega) (by omega), decide_eq_false (by omega)]
    have hct : 0 ≤ costOf l2 l3 t ∧ costOf l2 l3 t ≤ 131072 * 65536 := by
      have := sum_bound z1 z2 k1 k2 hb [t] (e : Int) (by omega) e4
      simp only [sumOf] at this
      omega
    have firstp : Lands (fun k => valiselaw21_SqueezeLast.j1 k l0 a1 l2 l3 a4 a5 (l0.length : Int) c false t.f0 t.f1 t.f2) true := by
      refine second.step' (K2 + K3) (fun k hk => ?_)
      rw [valiselaw21_SqueezeLast.j1, if_neg (by decide), hK2 k (by omega), Option.bind_some, hspan, Option.bind_some, show wrap64 ((l0.length : Int) - sp) = (e : Int) by rw [wrap_id (by omega) (by omega)]; omega, if_pos (by omega), if_pos (by omega), Int.toNat_natCast, hK3 k (by omega), Option.bind_some]
      show (if true = true then (if true = true then valiselaw21_SqueezeLast.j2 k l0 a1 l2 l3 a4 a5 (l0.length : Int) c (c != wrap64 (cf + costOf l2 l3 t)) else _) else _) = _
      rw [if_pos rfl, if_pos rfl, show wrap64 (cf + costOf l2 l3 t) = c by rw [wrap_id (by omega) (by omega), heq], show (c != c) = false by simp]
    refine firstp.step (fun k => ?_)
    rw [valiselaw21_SqueezeLast.j0, if_neg (by decide), if_neg (by omega), if_neg (by simp; omega), wrl, if_pos (by omega), if_pos (by simp; omega), hlast, hspan, Option.bind_some, if_neg (by omega), Option.bind_some, decide_eq_false (by omega)]
end Go.Proofs.YtpndhoefmepfdaaDoor.CheapLast
