/- deflate.Split and the document's Split are one for all tokens. Plain law: no memory and no program. -/
import Derived.Test.YtpndhoefmepfdaaSumsPure
import Derived.Test.YtpndhoefmepfdaaPSux4
namespace Go.Proofs.Ytpndhoefmepfdaa.SuSplits
open Go.RowKit Go.Proofs.Ytpndhoefmepfdaa.PSu Go.Proofs.YtpndhoefmepfdaaW.PrintWords Go.Proofs.YtpndhoefmepfdaaW.PrintLast Go.Proofs.YtpndhoefmepfdaaW.PrintMore Go.Proofs.Ytpndhoefmepfdaa.SuSums
set_option linter.unusedVariables false
set_option linter.unusedSimpArgs false
/-- How many tokens are of a class. -/
def cnt (j : Int) : List S47 → Int
  | [] => 0
  | t :: r => (if cls t = j then 1 else 0) + cnt j r
theorem cnt_append (j : Int) (a b : List S47) : cnt j (a ++ b) = cnt j a + cnt j b := by
  induction a with
  | nil => simp [cnt]
  | cons t r ih => rw [List.cons_append, cnt, cnt, ih]; omega
theorem cnt_bound (j : Int) (l : List S47) : 0 ≤ cnt j l ∧ cnt j l ≤ l.length := by
  induction l with
  | nil => simp [cnt]
  | cons t r ih => rw [cnt, List.length_cons]; split <;> omega
theorem fold_cnt (l : List S47) : ∀ (f : Int → Int) (j : Int), (∀ j, 0 ≤ f j ∧ f j + l.length ≤ 9000000000000000000) → l.foldl sstep f j = f j + cnt j l := by
  induction l with
  | nil => intro f j _; simp [cnt]
  | cons t r ih =>
    intro f j h
    rw [List.foldl_cons, ih]
    · unfold sstep upd
      rw [cnt]
      have := h (cls t)
      rw [List.length_cons] at this
      by_cases hj : j = cls t
      · subst hj
        rw [if_pos rfl, if_pos rfl, wrap_id (by omega) (by omega)]
        omega
      · rw [if_neg hj, if_neg (fun e => hj e.symm)]
        omega
    · intro q
      have h1 := h q
      have h2 := h (cls t)
      rw [List.length_cons] at h1 h2
      unfold sstep upd
      by_cases hq : q = cls t
      · rw [if_pos hq, wrap_id (by omega) (by omega)]
        omega
      · rw [if_neg hq]
        omega
theorem shares_cnt (l : List S47) (hl : l.length ≤ 16777216) (j : Int) : sharesF l j = cnt j l := by
  unfold sharesF
  rw [fold_cnt l _ j (fun _ => by omega)]
  omega
theorem add_at (a o : Int → Int) : ∀ (n : Nat) (j : Int), 0 ≤ j → addF a o n j = if j < n then wrap64 (a j + o j) else a j := by
  intro n
  induction n with
  | zero => intro j h0; rw [addF, if_neg (by omega)]
  | succ n ih =>
    intro j h0
    rw [addF]
    unfold upd
    by_cases hj : j = (n : Int)
    · rw [if_pos hj, if_pos (by omega), ih _ (by omega), if_neg (by omega), hj]
    · rw [if_neg hj, ih j h0]
      by_cases h1 : j < (n : Int)
      · rw [if_pos h1, if_pos (by omega)]
      · rw [if_neg h1, if_neg (by omega)]
theorem class_eq (t : S47) (h : 0 ≤ t.f2 ∧ t.f2 ≤ 255) : valiseref11_class.f t.f0 t.f1 t.f2 = some (cls t) := by
  rw [← (cls_some t h).1]
  unfold valiseref11_class.f deflate_class.f
  rw [wrap_id (x := t.f2) (by omega) (by omega), Int.tdiv_eq_ediv_of_nonneg h.1]
theorem number_loop (j : Int) (l : List S47) (hl : l.length ≤ 16777216) : ∀ (suf pre : List S47) (s : Int), pre ++ suf = l → (∀ t ∈ suf, 0 ≤ t.f2 ∧ t.f2 ≤ 255) → 0 ≤ s → s ≤ pre.length → ∀ k, suf.length < k → valiseref11_number.l0 k l j s (pre.length : Int) = some (s + cnt j suf) := by
  intro suf
  induction suf with
  | nil =>
    intro pre s hp _ _ _ k hk
    obtain ⟨k, rfl⟩ : ∃ q, k = q + 1 := ⟨k - 1, by omega⟩
    rw [List.append_nil] at hp
    subst hp
    rw [valiseref11_number.l0, if_neg (by omega)]
    simp [cnt]
  | cons t r ih =>
    intro pre s hp hb h0 h1 k hk
    rw [List.length_cons] at hk
    obtain ⟨k, rfl⟩ : ∃ q, k = q + 1 := ⟨k - 1, by omega⟩
    have hlen : l.length = pre.length + (r.length + 1) := by rw [← hp]; simp
    have hrd : rd_T47 l (pre.length : Int) = t := by rw [← hp]; exact rdT_at pre t r
    rw [valiseref11_number.l0, if_pos (by omega), if_pos (by omega), hrd, class_eq t (hb t (by simp)), Option.bind_some]
    have e6 : wrap64 ((pre.length : Int) + 1) = ((pre ++ [t]).length : Int) := by rw [wrap_id (by omega) (by omega)]; simp
    rw [e6, cnt]
    by_cases hc : cls t = j
    · rw [if_pos hc, if_pos hc, wrap_id (x := s + 1) (by omega) (by omega), ih (pre ++ [t]) (s + 1) (by rw [List.append_assoc]; exact hp) (fun x hx => hb x (List.mem_cons_of_mem _ hx)) (by omega) (by rw [List.length_append]; simp; omega) k (by omega)]
      congr 1
      omega
    · rw [if_neg hc, if_neg hc, ih (pre ++ [t]) s (by rw [List.append_assoc]; exact hp) (fun x hx => hb x (List.mem_cons_of_mem _ hx)) (by omega) (by rw [List.length_append]; simp; omega) k (by omega)]
      congr 1
      omega
theorem number_eq (j : Int) (l : List S47) (hl : l.length ≤ 16777216) (hb : ∀ t ∈ l, 0 ≤ t.f2 ∧ t.f2 ≤ 255) (k : Nat) (hk : l.length < k) : valiseref11_number.f k l j = some (cnt j l) := by
  have := number_loop j l hl l [] 0 rfl hb (by omega) (by simp) k hk
  unfold valiseref11_number.f
  rw [List.length_nil] at this
  rw [show ((0 : Nat) : Int) = 0 from rfl] at this
  rw [this]
  congr 1
  omega
theorem bytes_loop (l : List S47) (hl : l.length ≤ 16777216) : ∀ (suf pre : List S47) (s : Int), pre ++ suf = l → suf.all soundT = true → 0 ≤ s → s ≤ 258 * pre.length → ∀ k, suf.length < k → valiseref11_bytes.l0 k l s (pre.length : Int) = some (s + sayN suf) := by
  intro suf
  induction suf with
  | nil =>
    intro pre s hp _ _ _ k hk
    obtain ⟨k, rfl⟩ : ∃ q, k = q + 1 := ⟨k - 1, by omega⟩
    rw [List.append_nil] at hp
    subst hp
    rw [valiseref11_bytes.l0, if_neg (by omega)]
    simp [sayN]
  | cons t r ih =>
    intro pre s hp hs h0 h1 k hk
    rw [List.length_cons] at hk
    obtain ⟨k, rfl⟩ : ∃ q, k = q + 1 := ⟨k - 1, by omega⟩
    have hlen : l.length = pre.length + (r.length + 1) := by rw [← hp]; simp
    have hrd : rd_T47 l (pre.length : Int) = t := by rw [← hp]; exact rdT_at pre t r
    rw [List.all_cons, Bool.and_eq_true] at hs
    obtain ⟨g1, g2⟩ := sound_says t hs.1
    have hsay : valiseref11_says.f t.f0 t.f1 t.f2 = some (mx 1 t.f0) := by
      unfold valiseref11_says.f
      have hpos : t.f0 = 0 ∨ 3 ≤ t.f0 := by
        have h := hs.1
        unfold soundT deflate_sound.f at h
        by_cases a0 : t.f0 = 0
        · exact .inl a0
        · rw [if_neg a0] at h
          by_cases a2 : t.f2 = 0
          · rw [if_pos a2] at h
            by_cases a3 : t.f0 ≥ 3
            · exact .inr a3
            · rw [if_neg a3] at h; exact absurd h (by decide)
          · rw [if_neg a2] at h; exact absurd h (by decide)
      unfold mx
      rcases hpos with h | h
      · rw [if_pos h, if_neg (by omega)]
      · rw [if_neg (by omega), if_pos (by omega)]
    rw [valiseref11_bytes.l0, if_pos (by omega), if_pos (by omega), hrd, hsay, Option.bind_some]
    have e6 : wrap64 ((pre.length : Int) + 1) = ((pre ++ [t]).length : Int) := by rw [wrap_id (by omega) (by omega)]; simp
    rw [e6, wrap_id (x := s + mx 1 t.f0) (by omega) (by omega), ih (pre ++ [t]) (s + mx 1 t.f0) (by rw [List.append_assoc]; exact hp) hs.2 (by omega) (by rw [List.length_append]; simp; omega) k (by omega), sayN]
    congr 1
    omega
theorem bytes_eq (l : List S47) (hl : l.length ≤ 16777216) (hs : l.all soundT = true) (k : Nat) (hk : l.length < k) : valiseref11_bytes.f k l = some (sayN l) := by
  have := bytes_loop l hl l [] 0 rfl hs (by omega) (by simp) k hk
  unfold valiseref11_bytes.f
  rw [List.length_nil] at this
  rw [show ((0 : Nat) : Int) = 0 from rfl] at this
  rw [this]
  congr 1
  omega
theorem changes_loop (a b : List S47) (ha : a.length ≤ 16777216) (hb : b.length ≤ 16777216) (ba : ∀ t ∈ a, 0 ≤ t.f2 ∧ t.f2 ≤ 255) (bb : ∀ t ∈ b, 0 ≤ t.f2 ∧ t.f2 ≤ 255) (f g : Int → Int) (hf : ∀ j, 0 ≤ j → j < 8 → f j = cnt j a) (hg : ∀ j, 0 ≤ j → j < 8 → g j = cnt j b) :
    ∀ (n j : Nat), j + n = 8 → ∀ k, a.length + b.length + 1 + n < k → valiseref11_changes.l0 k a b (chS f g (a.length : Int) j) (j : Int) = some (chF f g (a.length : Int)) := by
  intro n
  induction n with
  | zero =>
    intro j hj k hk
    obtain rfl : j = 8 := by omega
    obtain ⟨k, rfl⟩ : ∃ q, k = q + 1 := ⟨k - 1, by omega⟩
    obtain ⟨c, hc⟩ : ∃ c, chS f g (a.length : Int) 8 = c := ⟨_, rfl⟩
    unfold chF
    rw [hc, valiseref11_changes.l0, if_neg (show ¬ (((8 : Nat) : Int) < 8) by decide)]
  | succ n ih =>
    intro j hj k hk
    obtain ⟨k, rfl⟩ : ∃ q, k = q + 1 := ⟨k - 1, by omega⟩
    have ihj := ih (j + 1) (by omega) k (by omega)
    have e6 : wrap64 ((j : Int) + 1) = ((j + 1 : Nat) : Int) := by rw [wrap_id (by omega) (by omega)]; rfl
    rw [valiseref11_changes.l0, if_pos (by omega), number_eq _ a ha ba k (by omega), Option.bind_some, number_eq _ b hb bb k (by omega), Option.bind_some]
    have c1 := cnt_bound (j : Int) a
    have c2 := cnt_bound (j : Int) b
    have p1 : 0 ≤ (a.length : Int) * cnt (j : Int) b := Int.mul_nonneg (by omega) c2.1
    have p2 : (a.length : Int) * cnt (j : Int) b ≤ 16777216 * 16777216 := Int.mul_le_mul (by omega) (by omega) c2.1 (by omega)
    obtain ⟨y, hy⟩ : ∃ y, (a.length : Int) * cnt (j : Int) b = y := ⟨_, rfl⟩
    obtain ⟨x, hx⟩ : ∃ x, cnt (j : Int) a = x := ⟨_, rfl⟩
    have hd : chD f g (a.length : Int) (j : Int) = if 128 * x - y < 0 then -(128 * x - y) else 128 * x - y := by
      unfold chD mx
      rw [hf _ (by omega) (by omega), hg _ (by omega) (by omega), hy, hx]
      rw [hy] at p1 p2
      rw [hx] at c1
      rw [wrap_id (x := 128 * x) (by omega) (by omega), wrap_id (x := y) (by omega) (by omega), wrap_id (x := 128 * x - y) (by omega) (by omega), wrap_id (x := y - 128 * x) (by omega) (by omega)]
      split <;> split <;> omega
    rw [chS, hd] at ihj
    clear hd
    rw [hy] at p1 p2
    rw [hx] at c1
    rw [hy, hx, wrap_id (x := 128 * x) (by omega) (by omega), wrap_id (x := y) (by omega) (by omega), wrap_id (x := 128 * x - y) (by omega) (by omega), e6]
    by_cases hneg : 128 * x - y < 0
    · rw [if_pos hneg] at ihj ⊢
      rw [wrap_id (x := -(128 * x - y)) (by omega) (by omega)]
      exact ihj
    · rw [if_neg hneg] at ihj ⊢
      exact ihj
theorem closed_eq (mid nx : List S47) (ah : Int → Int) (hm : mid.length ≤ 16777216) (hx : nx.length ≤ 128) (hp : 0 < mid.length) (bm : ∀ t ∈ mid, 0 ≤ t.f2 ∧ t.f2 ≤ 255) (bx : ∀ t ∈ nx, 0 ≤ t.f2 ∧ t.f2 ≤ 255) (sm : mid.all soundT = true) (sx : nx.all soundT = true)
    (hf : ∀ j, 0 ≤ j → j < 8 → ah j = cnt j mid) (k : Nat) (hk : mid.length + nx.length + 9 < k) : valiseref11_closed.f k mid nx = some (closeF (mid.length : Int) (sayN mid) nx ah) := by
  unfold valiseref11_closed.f closeF
  rw [if_pos (show (0 : Int) < (mid.length : Int) by omega)]
  by_cases h1 : (mid.length : Int) ≥ 8192
  · rw [if_pos h1, if_pos (show 8192 ≤ (mid.length : Int) by omega)]
  · rw [if_neg h1, if_neg (show ¬ 8192 ≤ (mid.length : Int) by omega), bytes_eq mid hm sm k (by omega), Option.bind_some, bytes_eq nx (by omega) sx k (by omega), Option.bind_some, said_say nx sx (by omega)]
    by_cases h2 : wrap64 (sayN mid + sayN nx) > 65535
    · rw [if_pos h2, if_pos (show 65535 < wrap64 (sayN mid + sayN nx) by omega)]
    · rw [if_neg h2, if_neg (show ¬ 65535 < wrap64 (sayN mid + sayN nx) by omega)]
      by_cases h3 : (nx.length : Int) = 128
      · rw [if_pos h3, if_pos h3]
        unfold valiseref11_changes.f
        have := changes_loop mid nx hm (by omega) bm bx ah (sharesF nx) hf (fun j _ _ => shares_cnt nx (by omega) j) 8 0 rfl k (by omega)
        rw [chS] at this
        rw [show ((0 : Nat) : Int) = 0 from rfl] at this
        rw [this, Option.bind_some]
      · rw [if_neg h3, if_neg h3]
theorem take_mid {α : Type} (pre mid toks : List α) : (((pre ++ mid ++ toks).take (pre.length + mid.length)).drop pre.length) = mid := by
  rw [← List.length_append, List.take_left, List.drop_left]
theorem split_ref (l0 : List S47) (hl : l0.length ≤ 16777216) (hb : ∀ t ∈ l0, 0 ≤ t.f2 ∧ t.f2 ≤ 255) (hs : l0.all soundT = true) : ∀ (k : Nat) (cs : List Int) (ah : Int → Int) (pre mid toks : List S47) (rr : List Int),
    pre ++ mid ++ toks = l0 → 0 < mid.length → cs.length ≤ pre.length → (∀ j, 0 ≤ j → j < 8 → ah j = cnt j mid) → splitGo k cs ah (mid.length : Int) (sayN mid) toks = some rr →
    ∃ K, ∀ q, K ≤ q → valiseref11_Split.l1 q l0 cs (pre.length : Int) ((pre.length : Int) + (mid.length : Int)) = some (rr, 0) := by
  intro k
  induction k with
  | zero => intro cs ah pre mid toks rr _ _ _ _ h; simp [splitGo] at h
  | succ k ih =>
    intro cs ah pre mid toks rr hcat hm hcs hah h
    rw [splitGo] at h
    have hlen : l0.length = pre.length + mid.length + toks.length := by rw [← hcat, List.length_append, List.length_append]
    have hst : toks.all soundT = true := by rw [← hcat, List.all_append, Bool.and_eq_true] at hs; exact hs.2
    have hsm : mid.all soundT = true := by rw [← hcat, List.all_append, List.all_append, Bool.and_eq_true, Bool.and_eq_true] at hs; exact hs.1.2
    have hbm : ∀ t ∈ mid, 0 ≤ t.f2 ∧ t.f2 ≤ 255 := fun t ht => hb t (by rw [← hcat]; simp [ht])
    have hbt : ∀ t ∈ toks, 0 ≤ t.f2 ∧ t.f2 ≤ 255 := fun t ht => hb t (by rw [← hcat]; simp [ht])
    by_cases hp : 0 < (toks.length : Int)
    · rw [if_pos hp] at h
      have hnx := all_take hst 128
      have hbx : ∀ t ∈ toks.take 128, 0 ≤ t.f2 ∧ t.f2 ≤ 255 := fun t ht => hbt t (List.mem_of_mem_take ht)
      obtain ⟨nx, ex⟩ : ∃ nx, toks.take 128 = nx := ⟨_, rfl⟩
      obtain ⟨rs, er⟩ : ∃ rs, toks.drop 128 = rs := ⟨_, rfl⟩
      have hnl : nx.length = min 128 toks.length := by rw [← ex, List.length_take]
      have hrs : nx ++ rs = toks := by rw [← ex, ← er, List.take_append_drop]
      rw [ex] at hnx hbx
      rw [ex, er] at h
      have hsx := sayN_bound nx hnx
      have hsmb := sayN_bound mid hsm
      rw [said_say nx hnx (by omega)] at h
      have hclosed := fun q hq => closed_eq mid nx ah (by omega) (by omega) hm hbm hbx hsm hnx hah q hq
      have hto : mn (wrap64 ((pre.length : Int) + (mid.length : Int) + 128)) (l0.length : Int) = (((pre ++ mid ++ nx).length : Nat) : Int) := by
        unfold mn
        rw [wrap_id (by omega) (by omega), List.length_append, List.length_append]
        split <;> omega
      have hunit : ((l0.take ((((pre ++ mid ++ nx).length : Nat) : Int)).toNat).drop ((pre.length : Int) + (mid.length : Int)).toNat) = nx := by
        rw [Int.toNat_natCast, show ((pre.length : Int) + (mid.length : Int)).toNat = (pre ++ mid).length by rw [List.length_append]; omega, ← hcat, ← hrs, ← List.append_assoc, List.take_left, List.drop_left]
      have hblock : ((l0.take ((pre.length : Int) + (mid.length : Int)).toNat).drop ((pre.length : Int)).toNat) = mid := by
        rw [Int.toNat_natCast, show ((pre.length : Int) + (mid.length : Int)).toNat = pre.length + mid.length by omega, ← hcat]
        exact take_mid pre mid toks
      have hpl : (pre ++ mid ++ nx).length = pre.length + mid.length + nx.length := by rw [List.length_append, List.length_append]
      have ref : ∀ q, mid.length + nx.length + 9 < q → valiseref11_Split.l1 (q + 1) l0 cs (pre.length : Int) ((pre.length : Int) + (mid.length : Int)) =
          if closeF (mid.length : Int) (sayN mid) nx ah = true then valiseref11_Split.l1 q l0 (cs ++ [(mid.length : Int)]) ((pre.length : Int) + (mid.length : Int)) (((pre ++ mid ++ nx).length : Nat) : Int) else valiseref11_Split.l1 q l0 cs (pre.length : Int) (((pre ++ mid ++ nx).length : Nat) : Int) := by
        intro q hq
        rw [valiseref11_Split.l1, hto, if_pos (by omega), if_pos (by omega), if_pos (by omega), if_pos (by omega), if_pos (by omega), if_pos (by omega), if_pos (by omega), hunit, hblock, hclosed q hq, Option.bind_some, if_pos (show cs.length < 17592186044416 by omega),
          show (pre.length : Int) + (mid.length : Int) - (pre.length : Int) = (mid.length : Int) by omega, wrap_id (x := (mid.length : Int)) (by omega) (by omega)]
      by_cases hc : closeF (mid.length : Int) (sayN mid) nx ah = true
      · rw [if_pos hc] at h
        rw [Int.zero_add, Int.zero_add, wrap_id (by omega) (by omega), wrap_id (by omega) (by omega)] at h
        obtain ⟨K, hK⟩ := ih (cs ++ [(mid.length : Int)]) _ (pre ++ mid) nx rs rr (by rw [List.append_assoc, hrs]; exact hcat) (by omega) (by rw [List.length_append, List.length_append]; simp; omega)
          (fun j h0 h8 => by
            have hcb := cnt_bound j nx
            rw [add_at _ _ 8 j h0, if_pos (by omega), shares_cnt nx (by omega), Int.zero_add, wrap_id (by omega) (by omega)]) h
        refine ⟨K + mid.length + nx.length + 11, fun q hq => ?_⟩
        obtain ⟨q, rfl⟩ : ∃ z, q = z + 1 := ⟨q - 1, by omega⟩
        rw [ref q (by omega), if_pos hc]
        have := hK q (by omega)
        rw [List.length_append] at this
        rw [hpl]
        rw [show (((pre.length + mid.length : Nat) : Int)) = (pre.length : Int) + (mid.length : Int) by omega] at this
        rw [show (((pre.length + mid.length + nx.length : Nat) : Int)) = (pre.length : Int) + (mid.length : Int) + (nx.length : Int) by omega]
        exact this
      · rw [if_neg hc] at h
        rw [wrap_id (by omega) (by omega), wrap_id (by omega) (by omega)] at h
        have e1 : (mid.length : Int) + (nx.length : Int) = ((mid ++ nx).length : Int) := by rw [List.length_append]; omega
        rw [e1, ← sayN_append mid nx] at h
        obtain ⟨K, hK⟩ := ih cs _ pre (mid ++ nx) rs rr (by rw [← hcat, ← hrs]; simp) (by rw [List.length_append]; omega) hcs
          (fun j h0 h8 => by
            have hcb := cnt_bound j nx
            have hcm := cnt_bound j mid
            rw [add_at _ _ 8 j h0, if_pos (by omega), shares_cnt nx (by omega), hah j h0 h8, cnt_append, wrap_id (by omega) (by omega)]) h
        refine ⟨K + mid.length + nx.length + 11, fun q hq => ?_⟩
        obtain ⟨q, rfl⟩ : ∃ z, q = z + 1 := ⟨q - 1, by omega⟩
        rw [ref q (by omega), if_neg hc]
        have := hK q (by omega)
        rw [List.length_append] at this
        rw [hpl]
        rw [show (((pre.length + mid.length + nx.length : Nat) : Int)) = (pre.length : Int) + (((mid.length + nx.length : Nat)) : Int) by omega]
        exact this
    · rw [if_neg hp] at h
      obtain rfl := Option.some.inj h
      refine ⟨1, fun q hq => ?_⟩
      obtain ⟨q, rfl⟩ : ∃ z, q = z + 1 := ⟨q - 1, by omega⟩
      rw [valiseref11_Split.l1, if_neg (by omega), if_pos (by omega), show (pre.length : Int) + (mid.length : Int) - (pre.length : Int) = (mid.length : Int) by omega, wrap_id (x := (mid.length : Int)) (by omega) (by omega)]
theorem ref_sound (t : S47) : valiseref11_sound.f t.f0 t.f1 t.f2 = some (soundT t) := by
  rw [← sound_some t]
  rfl
theorem ref_toks (l0 : List S47) (hl : l0.length ≤ 16777216) : ∀ (suf pre : List S47), pre ++ suf = l0 → ∀ k, suf.length < k → ∃ q, k = q + suf.length + 1 ∧
    valiseref11_Split.l0 k l0 (pre.length : Int) = if suf.all soundT = true then valiseref11_Split.l1 q l0 [] 0 (mn 128 (l0.length : Int)) else some ([], 100) := by
  intro suf
  induction suf with
  | nil =>
    intro pre hp k hk
    obtain ⟨k, rfl⟩ : ∃ q, k = q + 1 := ⟨k - 1, by omega⟩
    rw [List.append_nil] at hp
    subst hp
    exact ⟨k, rfl, by rw [valiseref11_Split.l0, if_neg (by omega)]; rfl⟩
  | cons t r ih =>
    intro pre hp k hk
    rw [List.length_cons] at hk
    obtain ⟨k, rfl⟩ : ∃ q, k = q + 1 := ⟨k - 1, by omega⟩
    have hlen : l0.length = pre.length + (r.length + 1) := by rw [← hp]; simp
    have hrd : rd_T47 l0 (pre.length : Int) = t := by rw [← hp]; exact rdT_at pre t r
    have e6 : wrap64 ((pre.length : Int) + 1) = ((pre ++ [t]).length : Int) := by rw [wrap_id (by omega) (by omega)]; simp
    obtain ⟨q, h1, h2⟩ := ih (pre ++ [t]) (by rw [List.append_assoc]; exact hp) k (by omega)
    refine ⟨q, by rw [List.length_cons]; omega, ?_⟩
    rw [valiseref11_Split.l0, if_pos (by omega), if_pos (by omega), hrd, ref_sound, Option.bind_some, e6, List.all_cons]
    cases soundT t with
    | true => rw [if_pos rfl, Bool.true_and]; exact h2
    | false => rfl
/-- The two answers. -/
theorem splits (l0 : List S47) (hb : ∀ t ∈ l0, 0 ≤ t.f2 ∧ t.f2 ≤ 255) : ∃ (K : Nat) (rr : List Int) (e : Int), deflate_Split.f l0 = some (rr, e) ∧ (∀ k, K ≤ k → valiseref11_Split.f k l0 = some (rr, e)) ∧ rr.length ≤ 16777217 ∧ (e = 0 ∨ rr = []) := by
  have hby : l0.all byteT = true := by
    rw [List.all_eq_true]
    intro t ht
    have := hb t ht
    unfold byteT
    simp [this.1, this.2]
  unfold deflate_Split.f
  rw [if_pos hby]
  by_cases hN : (l0.length : Int) > 16777216
  · refine ⟨0, [], 1, by rw [if_pos hN], fun k _ => ?_, by simp, .inr rfl⟩
    unfold valiseref11_Split.f
    rw [if_pos hN]
  · rw [if_neg hN]
    by_cases hs : l0.all soundT = true
    · obtain ⟨rr, hrr⟩ := split_some (l0.length + 1) [] (fun _ => 0) 0 0 l0 (by omega)
      have hlen := split_len (l0.length + 1) [] (fun _ => 0) 0 0 l0 rr hrr
      rw [List.length_nil] at hlen
      rw [if_pos hs, hrr, Option.map_some]
      obtain ⟨K, hK⟩ : ∃ K, ∀ q, K ≤ q → valiseref11_Split.l1 q l0 [] 0 (mn 128 (l0.length : Int)) = some (rr, 0) := by
        rw [splitGo] at hrr
        by_cases hp : 0 < (l0.length : Int)
        · rw [if_pos hp] at hrr
          have hnc : ¬ closeF 0 0 (l0.take 128) (fun _ => 0) = true := by
            unfold closeF
            rw [if_neg (by omega)]
            decide
          rw [if_neg hnc] at hrr
          have hnx := all_take hs 128
          have hsx := sayN_bound _ hnx
          have hnl : (l0.take 128).length = min 128 l0.length := List.length_take
          rw [said_say _ hnx (by omega), Int.zero_add, Int.zero_add, wrap_id (by omega) (by omega), wrap_id (by omega) (by omega)] at hrr
          obtain ⟨K, hK⟩ := split_ref l0 (by omega) hb hs l0.length [] _ [] (l0.take 128) (l0.drop 128) rr (by simp) (by omega) (by simp) (fun j h0 h8 => by
            have hcb := cnt_bound j (l0.take 128)
            rw [add_at _ _ 8 j h0, if_pos (by omega), shares_cnt _ (by omega), Int.zero_add, wrap_id (by omega) (by omega)]) hrr
          refine ⟨K, fun q hq => ?_⟩
          have := hK q hq
          rw [List.length_nil] at this
          rw [show mn 128 (l0.length : Int) = ((0 : Nat) : Int) + ((l0.take 128).length : Int) by unfold mn; rw [hnl]; split <;> omega]
          exact this
        · rw [if_neg hp] at hrr
          obtain rfl := Option.some.inj hrr
          refine ⟨1, fun q hq => ?_⟩
          obtain ⟨q, rfl⟩ : ∃ z, q = z + 1 := ⟨q - 1, by omega⟩
          have h0 : (l0.length : Int) = 0 := by omega
          rw [valiseref11_Split.l1, h0, if_neg (by unfold mn; omega), if_pos (by simp), show mn 128 0 = 0 from rfl, show wrap64 (0 - 0) = 0 by unfold wrap64; omega]
      refine ⟨K + l0.length + 2, rr, 0, rfl, fun k hk => ?_, by omega, .inl rfl⟩
      unfold valiseref11_Split.f
      rw [if_neg hN]
      obtain ⟨q, h1, h2⟩ := ref_toks l0 (by omega) l0 [] rfl k (by omega)
      rw [if_pos hs] at h2
      exact h2.trans (hK q (by omega))
    · rw [if_neg hs]
      refine ⟨l0.length + 1, [], 100, rfl, fun k hk => ?_, by simp, .inr rfl⟩
      unfold valiseref11_Split.f
      rw [if_neg hN]
      obtain ⟨q, h1, h2⟩ := ref_toks l0 (by omega) l0 [] rfl k (by omega)
      rw [if_neg hs] at h2
      exact h2
end Go.Proofs.Ytpndhoefmepfdaa.SuSplits
