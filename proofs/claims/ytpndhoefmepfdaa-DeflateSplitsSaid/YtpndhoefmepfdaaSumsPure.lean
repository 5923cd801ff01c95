/- valiselaw11.DeflateSums: the counts of Split have all tokens, none says too much. Plain law: no memory and no program. -/
import Derived.Test.YtpndhoefmepfdaaPSux2
namespace Go.Proofs.Ytpndhoefmepfdaa.SuSums
open Go.RowKit Go.Proofs.Ytpndhoefmepfdaa.PSu Go.Proofs.YtpndhoefmepfdaaW.PrintWords Go.Proofs.YtpndhoefmepfdaaW.PrintLast Go.Proofs.YtpndhoefmepfdaaW.PrintMore
set_option linter.unusedVariables false
set_option linter.unusedSimpArgs false
theorem wrap_id {x : Int} (h0 : -9223372036854775808 ≤ x) (h1 : x ≤ 9223372036854775807) : wrap64 x = x := by unfold wrap64; omega
theorem copy_whole {α : Type} (l y : List α) (h : y.length = l.length) : l.take (min l.length y.length) ++ y.drop (min l.length y.length) = l := by
  rw [h, Nat.min_self, List.take_length, ← h, List.drop_length, List.append_nil]
theorem rdT_at (pre : List S47) (c : S47) (t : List S47) : rd_T47 (pre ++ c :: t) (pre.length : Int) = c := by unfold rd_T47; simp [List.getD]
theorem rd_at (pre : List Int) (c : Int) (t : List Int) : rd (pre ++ c :: t) (pre.length : Int) = c := by unfold rd; simp [List.getD]
/-- What tokens say. -/
def sayN : List S47 → Int
  | [] => 0
  | t :: r => mx 1 t.f0 + sayN r
theorem sayN_append (a b : List S47) : sayN (a ++ b) = sayN a + sayN b := by
  induction a with
  | nil => simp [sayN]
  | cons t r ih => rw [List.cons_append, sayN, sayN, ih]; omega
theorem sound_says (t : S47) (h : soundT t = true) : 1 ≤ mx 1 t.f0 ∧ mx 1 t.f0 ≤ 258 := by
  have : t.f0 ≤ 258 := by
    unfold soundT deflate_sound.f at h
    by_cases h0 : t.f0 = 0
    · omega
    · rw [if_neg h0] at h
      by_cases h2 : t.f2 = 0
      · rw [if_pos h2] at h
        by_cases h3 : t.f0 ≥ 3
        · rw [if_pos h3] at h
          by_cases h4 : t.f0 ≤ 258
          · exact h4
          · rw [if_neg h4] at h; exact absurd h (by decide)
        · rw [if_neg h3] at h; exact absurd h (by decide)
      · rw [if_neg h2] at h; exact absurd h (by decide)
  unfold mx
  split <;> omega
theorem sayN_bound (l : List S47) (h : l.all soundT = true) : (l.length : Int) ≤ sayN l ∧ sayN l ≤ 258 * l.length := by
  induction l with
  | nil => exact ⟨by simp [sayN], by simp [sayN]⟩
  | cons t r ih =>
    rw [List.all_cons, Bool.and_eq_true] at h
    obtain ⟨h1, h2⟩ := sound_says t h.1
    obtain ⟨h3, h4⟩ := ih h.2
    rw [sayN, List.length_cons]
    omega
theorem fold_say (l : List S47) (h : l.all soundT = true) : ∀ s : Int, 0 ≤ s → s + 258 * l.length ≤ 9000000000000000000 → l.foldl sadd s = s + sayN l := by
  induction l with
  | nil => intro s _ _; simp [sayN]
  | cons t r ih =>
    intro s h0 h1
    rw [List.all_cons, Bool.and_eq_true] at h
    obtain ⟨g1, g2⟩ := sound_says t h.1
    rw [List.length_cons] at h1
    rw [List.foldl_cons, sadd, wrap_id (by omega) (by omega), ih h.2 _ (by omega) (by omega), sayN]
    omega
theorem said_say (l : List S47) (h : l.all soundT = true) (hl : l.length ≤ 16777216) : saidF l = sayN l := by
  unfold saidF
  rw [fold_say l h 0 (by omega) (by omega)]
  omega
theorem all_take {p : S47 → Bool} {l : List S47} (h : l.all p = true) (n : Nat) : (l.take n).all p = true := by
  rw [List.all_eq_true] at h ⊢
  exact fun x hx => h x (List.mem_of_mem_take hx)
theorem all_drop {p : S47 → Bool} {l : List S47} (h : l.all p = true) (n : Nat) : (l.drop n).all p = true := by
  rw [List.all_eq_true] at h ⊢
  exact fun x hx => h x (List.mem_of_mem_drop hx)

/-- What is asked of the counts. -/
def good (Z : Prop) : List Int → List S47 → Prop
  | [], rem => rem = []
  | n :: rest, rem => 0 ≤ n ∧ n ≤ 8192 ∧ n ≤ rem.length ∧ (n = 0 → Z) ∧ (rest ≠ [] → n % 128 = 0) ∧ sayN (rem.take n.toNat) ≤ 65535 ∧ good Z rest (rem.drop n.toNat)

theorem split_good (Z : Prop) : ∀ (k : Nat) (cs : List Int) (ah : Int → Int) (mid toks : List S47) (rr : List Int),
    splitGo k cs ah (mid.length : Int) (sayN mid) toks = some rr → (mid ++ toks).all soundT = true → (mid ++ toks).length ≤ 16777216 → mid.length ≤ 8192 → sayN mid ≤ 65535 → (toks ≠ [] → (mid.length : Int) % 128 = 0) → (toks = [] → mid.length = 0 → Z) →
    ∃ tail, rr = cs ++ tail ∧ good Z tail (mid ++ toks) := by
  intro k
  induction k with
  | zero => intro cs ah mid toks rr h; simp [splitGo] at h
  | succ k ih =>
    intro cs ah mid toks rr h hs hN hm hb hd hz
    rw [splitGo] at h
    have hst : toks.all soundT = true := by rw [List.all_append, Bool.and_eq_true] at hs; exact hs.2
    have hsm : mid.all soundT = true := by rw [List.all_append, Bool.and_eq_true] at hs; exact hs.1
    rw [List.length_append] at hN
    by_cases hp : 0 < (toks.length : Int)
    · rw [if_pos hp] at h
      have hne : toks ≠ [] := by rintro rfl; simp at hp
      have hnx := all_take hst 128
      obtain ⟨nx, ex⟩ : ∃ nx, toks.take 128 = nx := ⟨_, rfl⟩
      obtain ⟨rs, er⟩ : ∃ rs, toks.drop 128 = rs := ⟨_, rfl⟩
      have hnl : nx.length = min 128 toks.length := by rw [← ex, List.length_take]
      have hrl : rs.length = toks.length - 128 := by rw [← er, List.length_drop]
      have hcat : nx ++ rs = toks := by rw [← ex, ← er, List.take_append_drop]
      rw [ex] at hnx
      have hsay := sayN_bound nx hnx
      rw [ex, er, said_say nx hnx (by omega)] at h
      have hfull : rs ≠ [] → (nx.length : Int) % 128 = 0 := by
        intro hr
        have : 0 < rs.length := by
          rcases rs with _ | ⟨x, y⟩
          · exact absurd rfl hr
          · simp
        omega
      by_cases hc : closeF (mid.length : Int) (sayN mid) nx ah = true
      · rw [if_pos hc] at h
        have hn0 : 0 < (mid.length : Int) := by
          unfold closeF at hc
          by_cases h0 : 0 < (mid.length : Int)
          · exact h0
          · rw [if_neg h0] at hc; cases hc
        rw [Int.zero_add, Int.zero_add, wrap_id (by omega) (by omega), wrap_id (by omega) (by omega)] at h
        obtain ⟨tail, ht, hg⟩ := ih _ _ nx rs rr h (by rw [hcat]; exact hst) (by rw [hcat]; omega) (by omega) (by omega) hfull (fun _ h0 => by omega)
        refine ⟨(mid.length : Int) :: tail, by rw [ht]; simp, by omega, by omega, by rw [List.length_append]; omega, fun h0 => by omega, fun _ => hd hne, ?_, ?_⟩
        · rw [Int.toNat_natCast, List.take_left]; exact hb
        · rw [Int.toNat_natCast, List.drop_left, ← hcat]; exact hg
      · rw [if_neg hc] at h
        have hmb := sayN_bound mid hsm
        rw [wrap_id (by omega) (by omega), wrap_id (by omega) (by omega)] at h
        have e1 : (mid.length : Int) + (nx.length : Int) = ((mid ++ nx).length : Int) := by rw [List.length_append]; omega
        have e2 : sayN mid + sayN nx = sayN (mid ++ nx) := (sayN_append mid nx).symm
        rw [e1, e2] at h
        have hd' := hd hne
        have hbound : (mid ++ nx).length ≤ 8192 ∧ sayN (mid ++ nx) ≤ 65535 := by
          rw [← e2, List.length_append]
          by_cases h0 : 0 < (mid.length : Int)
          · unfold closeF at hc
            rw [if_pos h0] at hc
            by_cases h1 : 8192 ≤ (mid.length : Int)
            · rw [if_pos h1] at hc; exact absurd rfl hc
            · rw [if_neg h1, said_say nx hnx (by omega), wrap_id (by omega) (by omega)] at hc
              by_cases h2 : 65535 < sayN mid + sayN nx
              · rw [if_pos h2] at hc; exact absurd rfl hc
              · omega
          · have h00 : mid = [] := List.eq_nil_of_length_eq_zero (by omega)
            subst h00
            simp only [List.length_nil, sayN]
            omega
        have hass : (mid ++ nx) ++ rs = mid ++ toks := by rw [List.append_assoc, hcat]
        obtain ⟨tail, ht, hg⟩ := ih cs _ (mid ++ nx) rs rr h (by rw [hass]; exact hs) (by rw [hass, List.length_append]; omega) hbound.1 hbound.2
          (fun hr => by have := hfull hr; rw [List.length_append]; omega) (fun _ h0 => by rw [List.length_append] at h0; omega)
        rw [hass] at hg
        exact ⟨tail, ht, hg⟩
    · rw [if_neg hp] at h
      obtain rfl := Option.some.inj h
      have ht : toks = [] := List.eq_nil_of_length_eq_zero (by omega)
      subst ht
      refine ⟨[(mid.length : Int)], rfl, by omega, by omega, by simp, fun h0 => hz rfl (by omega), fun h0 => absurd rfl h0, ?_, ?_⟩
      · rw [Int.toNat_natCast, List.take_left]; exact hb
      · rw [Int.toNat_natCast, List.drop_left]; rfl
theorem split_some : ∀ (k : Nat) (cs : List Int) (ah : Int → Int) (n b : Int) (toks : List S47), toks.length < k → ∃ rr, splitGo k cs ah n b toks = some rr := by
  intro k
  induction k with
  | zero => intro cs ah n b toks h; exact absurd h (by omega)
  | succ k ih =>
    intro cs ah n b toks h
    rw [splitGo]
    by_cases hp : 0 < (toks.length : Int)
    · rw [if_pos hp]
      have : (toks.drop 128).length < k := by rw [List.length_drop]; omega
      by_cases hc : closeF n b (toks.take 128) ah = true
      · rw [if_pos hc]; exact ih _ _ _ _ _ this
      · rw [if_neg hc]; exact ih _ _ _ _ _ this
    · rw [if_neg hp]; exact ⟨_, rfl⟩

/-- One token of the law's first loop. -/
theorem tok_round (k : Nat) (l0 : List S47) (cs : List Int) (e i : Int) (h0 : 0 ≤ i) (h1 : i < (l0.length : Int)) :
    valiselaw11_DeflateSums.l0 (k + 1) l0 cs e i = if soundT (rd_T47 l0 i) = true then valiselaw11_DeflateSums.l0 k l0 cs e (wrap64 (i + 1)) else if e = 100 then some ((cs.length : Int) == 0) else some false := by
  rw [valiselaw11_DeflateSums.l0, if_pos h1, if_pos h0]
  obtain ⟨t, ht⟩ : ∃ t, rd_T47 l0 i = t := ⟨_, rfl⟩
  rw [ht]
  unfold soundT deflate_sound.f valiselaw11_num.f
  by_cases a0 : t.f0 = 0
  · rw [if_pos a0, if_pos a0, if_neg (show ¬ t.f0 ≥ 3 by omega)]
    by_cases a1 : t.f1 = 0
    · rw [if_pos a1, Option.getD_some, if_pos (by rw [a1]; rfl)]
    · rw [if_neg a1, Option.getD_some, if_neg (by simp [a1])]
      rfl
  · rw [if_neg a0, if_neg a0]
    by_cases b1 : t.f0 ≥ 3 <;> by_cases b2 : t.f0 ≤ 258 <;> by_cases b3 : t.f1 ≥ 1 <;> by_cases b4 : t.f1 ≤ 32768 <;> by_cases b5 : t.f2 = 0 <;> simp [b1, b2, b3, b4, b5]
theorem toks_ok (cs : List Int) (e : Int) (l0 : List S47) (hl : l0.length ≤ 16777216) : ∀ (suf pre : List S47), pre ++ suf = l0 → suf.all soundT = true → ∀ k, suf.length < k → ∃ q, k ≤ q + suf.length + 1 ∧
    valiselaw11_DeflateSums.l0 k l0 cs e (pre.length : Int) = valiselaw11_DeflateSums.l0 (q + 1) l0 cs e (l0.length : Int) := by
  intro suf
  induction suf with
  | nil =>
    intro pre hp _ k hk
    rw [List.append_nil] at hp
    subst hp
    exact ⟨k - 1, by omega, by rw [show k - 1 + 1 = k by omega]⟩
  | cons t r ih =>
    intro pre hp hs k hk
    rw [List.length_cons] at hk
    obtain ⟨k, rfl⟩ : ∃ q, k = q + 1 := ⟨k - 1, by omega⟩
    have hlen : l0.length = pre.length + (r.length + 1) := by rw [← hp]; simp
    rw [List.all_cons, Bool.and_eq_true] at hs
    have hrd : rd_T47 l0 (pre.length : Int) = t := by rw [← hp]; exact rdT_at pre t r
    rw [tok_round k l0 cs e _ (by omega) (by omega), hrd, if_pos hs.1]
    have e6 : wrap64 ((pre.length : Int) + 1) = ((pre ++ [t]).length : Int) := by rw [wrap_id (by omega) (by omega)]; simp
    rw [e6]
    obtain ⟨q, h1, h2⟩ := ih (pre ++ [t]) (by rw [List.append_assoc]; exact hp) hs.2 k (by omega)
    exact ⟨q, by rw [List.length_cons]; omega, h2⟩
theorem toks_bad (l0 : List S47) (hl : l0.length ≤ 16777216) : ∀ (suf pre : List S47), pre ++ suf = l0 → suf.all soundT = false → ∀ k, suf.length < k → valiselaw11_DeflateSums.l0 k l0 [] 100 (pre.length : Int) = some true := by
  intro suf
  induction suf with
  | nil => intro pre _ h; simp at h
  | cons t r ih =>
    intro pre hp hs k hk
    rw [List.length_cons] at hk
    obtain ⟨k, rfl⟩ : ∃ q, k = q + 1 := ⟨k - 1, by omega⟩
    have hlen : l0.length = pre.length + (r.length + 1) := by rw [← hp]; simp
    have hrd : rd_T47 l0 (pre.length : Int) = t := by rw [← hp]; exact rdT_at pre t r
    rw [tok_round k l0 [] 100 _ (by omega) (by omega), hrd]
    by_cases ht : soundT t = true
    · rw [if_pos ht]
      have e6 : wrap64 ((pre.length : Int) + 1) = ((pre ++ [t]).length : Int) := by rw [wrap_id (by omega) (by omega)]; simp
      rw [e6]
      rw [List.all_cons, ht, Bool.true_and] at hs
      exact ih (pre ++ [t]) (by rw [List.append_assoc]; exact hp) hs k (by omega)
    · rw [if_neg ht, if_pos rfl]
      rfl

/-- What a block says. -/
theorem says_loop (l0 : List S47) (cs : List Int) (a i n : Int) (hl : l0.length ≤ 16777216) (hs : l0.all soundT = true) (ha : 0 ≤ a) (hn : 0 ≤ n) (han : a + n ≤ l0.length) : ∀ (suf pre rest : List S47) (s : Int), pre ++ suf ++ rest = l0 → (pre.length : Int) + suf.length = a + n → 0 ≤ s → s + sayN suf ≤ 65535 → suf.all soundT = true → ∀ k, suf.length < k →
    ∃ q, k = q + suf.length + 1 ∧ valiselaw11_DeflateSums.l2 k l0 cs a i n s (pre.length : Int) = valiselaw11_DeflateSums.l1 q l0 cs (wrap64 (a + n)) (wrap64 (i + 1)) := by
  intro suf
  induction suf with
  | nil =>
    intro pre rest s hp hl2 h0 h1 _ k hk
    obtain ⟨k, rfl⟩ : ∃ q, k = q + 1 := ⟨k - 1, by omega⟩
    rw [sayN] at h1
    rw [List.length_nil] at hl2
    refine ⟨k, by simp, ?_⟩
    rw [valiselaw11_DeflateSums.l2, wrap_id (x := a + n) (by omega) (by omega), if_neg (by omega), if_neg (by omega)]
  | cons t r ih =>
    intro pre rest s hp hl2 h0 h1 hss k hk
    rw [List.length_cons] at hk hl2
    obtain ⟨k, rfl⟩ : ∃ q, k = q + 1 := ⟨k - 1, by omega⟩
    have hlen : l0.length = pre.length + (r.length + 1) + rest.length := by rw [← hp]; simp; omega
    rw [List.all_cons, Bool.and_eq_true] at hss
    obtain ⟨g1, g2⟩ := sound_says t hss.1
    have hr := sayN_bound r hss.2
    rw [sayN] at h1
    have hrd : rd_T47 l0 (pre.length : Int) = t := by rw [← hp, List.append_assoc]; exact rdT_at pre t (r ++ rest)
    rw [valiselaw11_DeflateSums.l2, wrap_id (x := a + n) (by omega) (by omega), if_pos (by omega), if_pos (by omega), if_pos (by omega), hrd, wrap_id (x := s + mx 1 t.f0) (by omega) (by omega)]
    have e6 : wrap64 ((pre.length : Int) + 1) = ((pre ++ [t]).length : Int) := by rw [wrap_id (by omega) (by omega)]; simp
    rw [e6]
    obtain ⟨q, h3, h4⟩ := ih (pre ++ [t]) rest (s + mx 1 t.f0) (by rw [← hp]; simp) (by rw [List.length_append]; simp; omega) (by omega) (by omega) hss.2 k (by omega)
    refine ⟨q, by rw [List.length_cons]; omega, ?_⟩
    rw [h4, wrap_id (x := a + n) (by omega) (by omega)]

theorem blocks_ok (l0 : List S47) (hl : l0.length ≤ 16777216) (hs : l0.all soundT = true) (cs : List Int) (hcl : cs.length ≤ 16777217) : ∀ (suf pre : List Int) (a : Nat), pre ++ suf = cs → a ≤ l0.length → good (l0.length = 0) suf (l0.drop a) → ∃ K, ∀ k, K ≤ k → valiselaw11_DeflateSums.l1 k l0 cs (a : Int) (pre.length : Int) = some true := by
  intro suf
  induction suf with
  | nil =>
    intro pre a hp ha hg
    rw [List.append_nil] at hp
    subst hp
    refine ⟨1, fun k hk => ?_⟩
    obtain ⟨k, rfl⟩ : ∃ q, k = q + 1 := ⟨k - 1, by omega⟩
    have hlen := congrArg List.length (show l0.drop a = [] from hg)
    rw [List.length_drop, List.length_nil] at hlen
    rw [valiselaw11_DeflateSums.l1, if_neg (by omega), show (a : Int) = (l0.length : Int) by omega]
    simp
  | cons n r ih =>
    intro pre a hp ha hg
    obtain ⟨g0, g1, g2, g3, g4, g5, g6⟩ := hg
    obtain ⟨m, rfl⟩ := Int.eq_ofNat_of_zero_le g0
    rw [Int.toNat_natCast] at g5 g6
    rw [List.length_drop] at g2
    have hlen : cs.length = pre.length + (r.length + 1) := by rw [← hp]; simp
    have e7 : pre ++ (m : Int) :: r = (pre ++ [(m : Int)]) ++ r := by simp
    have e6 : wrap64 ((pre.length : Int) + 1) = ((pre ++ [(m : Int)]).length : Int) := by rw [wrap_id (by omega) (by omega)]; simp
    obtain ⟨K, hK⟩ := ih (pre ++ [(m : Int)]) (a + m) (by rw [← e7]; exact hp) (by omega) (by rw [← List.drop_drop]; exact g6)
    refine ⟨K + m + 4, fun k hk => ?_⟩
    obtain ⟨k, rfl⟩ : ∃ q, k = q + 2 := ⟨k - 2, by omega⟩
    have hrd : rd cs (pre.length : Int) = (m : Int) := by rw [← hp]; exact rd_at pre _ r
    have j3 : valiselaw11_DeflateSums.j3 (k + 1) l0 cs (a : Int) (pre.length : Int) (m : Int) false = some true := by
      rw [valiselaw11_DeflateSums.j3, if_neg (by decide)]
      have hcat : l0.take a ++ (l0.drop a).take m ++ (l0.drop a).drop m = l0 := by rw [List.append_assoc, List.take_append_drop, List.take_append_drop]
      obtain ⟨q, h1, h2⟩ := says_loop l0 cs (a : Int) (pre.length : Int) (m : Int) hl hs (by omega) (by omega) (by omega) ((l0.drop a).take m) (l0.take a) ((l0.drop a).drop m) 0 hcat
        (by rw [List.length_take, List.length_take, List.length_drop]; omega) (by omega) (by omega) (all_take (all_drop hs a) m) k (by rw [List.length_take, List.length_drop]; omega)
      rw [show ((l0.take a).length : Int) = (a : Int) by rw [List.length_take]; omega] at h2
      rw [h2, e6, wrap_id (x := (a : Int) + (m : Int)) (by omega) (by omega), ← Int.natCast_add]
      rw [List.length_take, List.length_drop] at h1
      exact hK q (by omega)
    rw [valiselaw11_DeflateSums.l1, if_pos (by omega), if_pos (by omega), hrd, if_neg (by omega), if_neg (by omega), wrap_id (x := (l0.length : Int) - (a : Int)) (by omega) (by omega), if_neg (by omega)]
    have hmod : Int.tmod (m : Int) 128 = (m : Int) % 128 := Int.tmod_eq_emod_of_nonneg (by omega)
    rw [hmod]
    have last : (if (m : Int) % 128 = 0 then valiselaw11_DeflateSums.j3 (k + 1) l0 cs (a : Int) (pre.length : Int) (m : Int) false else valiselaw11_DeflateSums.j3 (k + 1) l0 cs (a : Int) (pre.length : Int) (m : Int) (decide ((pre.length : Int) < wrap64 ((cs.length : Int) - 1)))) = some true := by
      by_cases hm : (m : Int) % 128 = 0
      · rw [if_pos hm]; exact j3
      · rw [if_neg hm]
        have hr : r = [] := by
          rcases r with _ | ⟨x, y⟩
          · rfl
          · exact absurd (g4 (by simp)) hm
        subst hr
        rw [List.length_nil] at hlen
        rw [wrap_id (x := (cs.length : Int) - 1) (by omega) (by omega), decide_eq_false (by omega)]
        exact j3
    by_cases hm0 : (m : Int) = 0
    · rw [if_pos hm0, if_neg (by have := g3 hm0; omega)]
      exact last
    · rw [if_neg hm0]
      exact last

theorem split_len : ∀ (k : Nat) (cs : List Int) (ah : Int → Int) (n b : Int) (toks : List S47) (rr : List Int), splitGo k cs ah n b toks = some rr → cs.length < rr.length ∧ rr.length ≤ cs.length + toks.length + 1 := by
  intro k
  induction k with
  | zero => intro cs ah n b toks rr h; simp [splitGo] at h
  | succ k ih =>
    intro cs ah n b toks rr h
    rw [splitGo] at h
    by_cases hp : 0 < (toks.length : Int)
    · rw [if_pos hp] at h
      by_cases hc : closeF n b (toks.take 128) ah = true
      · rw [if_pos hc] at h
        have := ih _ _ _ _ _ _ h
        rw [List.length_append, List.length_drop, List.length_singleton] at this
        omega
      · rw [if_neg hc] at h
        have := ih _ _ _ _ _ _ h
        rw [List.length_drop] at this
        omega
    · rw [if_neg hp] at h
      obtain rfl := Option.some.inj h
      rw [List.length_append, List.length_singleton]
      omega
theorem list_eq (l : List S47) (h : l.length * 24 ≤ 140737488351232) : l.length ≤ 11728124029610 := by omega
/-- The row's plain law. -/
theorem law (l0 : List S47) (hb : ∀ t ∈ l0, 0 ≤ t.f2 ∧ t.f2 ≤ 255) (h0 : l0.length * 24 ≤ 140737488351232) : ∃ k, valiselaw11_DeflateSums.f k l0 = some true := by
  have hby : l0.all byteT = true := by
    rw [List.all_eq_true]
    intro t ht
    have := hb t ht
    unfold byteT
    simp [this.1, this.2]
  have hf : ∀ k, valiselaw11_DeflateSums.f k l0 = ((deflate_Split.f l0).bind fun bt110 => (if (l0.length : Int) > 16777216 then ((valiselaw11_num.f bt110.2).bind fun t114 => (if t114 = 1 then (some ((bt110.1.length : Int) == 0)) else (some false))) else (valiselaw11_DeflateSums.l0 k l0 bt110.1 bt110.2 0))) := by
    intro k
    unfold valiselaw11_DeflateSums.f
    rw [if_pos (by omega), if_pos (by omega), Option.bind_some, copy_whole l0 _ (by rw [List.length_replicate]; omega)]
  by_cases hN : (l0.length : Int) > 16777216
  · refine ⟨0, ?_⟩
    rw [hf]
    unfold deflate_Split.f valiselaw11_num.f
    rw [if_pos hby, if_pos hN, Option.bind_some, if_pos hN, Option.bind_some]
    rfl
  · by_cases hs : l0.all soundT = true
    · obtain ⟨rr, hrr⟩ := split_some (l0.length + 1) [] (fun _ => 0) 0 0 l0 (by omega)
      obtain ⟨tail, ht, hg⟩ := split_good (l0.length = 0) (l0.length + 1) [] (fun _ => 0) [] l0 rr hrr (by simpa using hs) (by simp; omega) (by simp) (by simp [sayN]) (fun _ => by simp) (fun h _ => by rw [h]; rfl)
      rw [List.nil_append] at ht hg
      subst ht
      have hne : 0 < rr.length ∧ rr.length ≤ 16777217 := by
        have := split_len (l0.length + 1) [] (fun _ => 0) 0 0 l0 rr hrr
        rw [List.length_nil] at this
        omega
      obtain ⟨K, hK⟩ := blocks_ok l0 (by omega) hs rr hne.2 rr [] 0 rfl (by omega) (by rw [List.drop_zero]; exact hg)
      obtain ⟨q, h1, h2⟩ := toks_ok rr 0 l0 (by omega) l0 [] rfl hs (K + l0.length + 5) (by omega)
      refine ⟨K + l0.length + 5, ?_⟩
      rw [hf]
      unfold deflate_Split.f
      rw [if_pos hby, if_neg hN, if_pos hs, hrr, Option.map_some, Option.bind_some, if_neg hN]
      rw [List.length_nil] at h2
      refine h2.trans ?_
      obtain ⟨q, rfl⟩ : ∃ z, q = z + 1 := ⟨q - 1, by omega⟩
      unfold valiselaw11_DeflateSums.l0 valiselaw11_num.f
      rw [if_neg (by omega), Option.bind_some, if_pos rfl, valiselaw11_DeflateSums.j1, if_neg (by simp; intro hh; rw [hh] at hne; exact absurd hne.1 (by simp))]
      exact hK q (by omega)
    · have hs' : l0.all soundT = false := by simpa using hs
      refine ⟨l0.length + 1, ?_⟩
      rw [hf]
      unfold deflate_Split.f
      rw [if_pos hby, if_neg hN, if_neg hs, Option.bind_some, if_neg hN]
      exact toks_bad l0 (by omega) l0 [] rfl hs' (l0.length + 1) (by omega)
end Go.Proofs.Ytpndhoefmepfdaa.SuSums
