/- valiselaw23.WrapSums: for every three lists of bytes (together at most 16777216) Adler is the two sums modulo 65521, and JoinAdler of the parts' sums is the whole's. The condition is the row's own: each list is a slice of bytes that can be read. -/
import Derived.Test.YtpndhoefmepfdaaPWrapSumsx1
namespace Go.Proofs.Ytpndhoefmepfdaa.Pure
open Go.RowKit Go.Proofs.Ytpndhoefmepfdaa.PWrapSums Go.Proofs.YtpndhoefmepfdaaW.PrintWords Go.Proofs.YtpndhoefmepfdaaW.PrintLast

/-- The weighted sum: each byte as often as there are bytes from it on. -/
def wt : List Int → Int
  | [] => 0
  | c :: t => c * ((t.length : Int) + 1) + wt t
def sm : List Int → Int
  | [] => 0
  | c :: t => c + sm t
def Bytes (l : List Int) : Prop := ∀ x ∈ l, 0 ≤ x ∧ x ≤ 255

theorem sm_append (x y : List Int) : sm (x ++ y) = sm x + sm y := by
  induction x with
  | nil => simp [sm]
  | cons c t ih => simp only [List.cons_append, sm, ih]; omega
theorem wt_append (x y : List Int) : wt (x ++ y) = wt x + (y.length : Int) * sm x + wt y := by
  induction x with
  | nil => simp [sm, wt]
  | cons c t ih =>
    simp only [List.cons_append, sm, wt, ih, List.length_append, Int.natCast_add]
    have h1 : c * ((t.length : Int) + (y.length : Int) + 1) = c * ((t.length : Int) + 1) + (y.length : Int) * c := by
      rw [Int.mul_add, Int.mul_add, Int.mul_add, Int.mul_comm (y.length : Int) c]; omega
    have h2 : (y.length : Int) * (c + sm t) = (y.length : Int) * c + (y.length : Int) * sm t := Int.mul_add ..
    rw [h1, h2]; omega
theorem rd_at (pre : List Int) (c : Int) (t : List Int) : rd (pre ++ c :: t) (pre.length : Int) = c := by
  unfold rd
  simp [List.getD]
theorem wrap_id {x : Int} (h0 : -9223372036854775808 ≤ x) (h1 : x ≤ 9223372036854775807) : wrap64 x = x := by unfold wrap64; omega

theorem or_join (b a : Int) (hb0 : 0 ≤ b) (hb : b < 65536) (ha0 : 0 ≤ a) (ha : a < 65536) :
    Go.bits .or .u32 (((b % 4294967296) * 65536) % 4294967296) (a % 4294967296) = b * 65536 + a := by
  have h1 : ((b % 4294967296) * 65536) % 4294967296 = b * 65536 := by omega
  have h2 : a % 4294967296 = a := by omega
  rw [h1, h2]
  exact bits_join .u32 32 (by decide) (fun n h0 h1 => by rw [IntKind.wrap_u32]; omega) 16 (b * 65536) a (by omega) (by omega) (by omega) ha0 (by omega) (by omega)

theorem adler_step (a b c n T : Int) : ((b + (a + c) % 65521) % 65521 + n * ((a + c) % 65521) + T) % 65521 = (b + (n + 1) * a + (c * (n + 1) + T)) % 65521 := by
  have h1 : (n + 1) * a = n * a + a := by rw [Int.add_mul]; omega
  have h2 : c * (n + 1) = n * c + c := by rw [Int.mul_add, Int.mul_comm]; omega
  have h3 : (n * ((a + c) % 65521)) % 65521 = (n * a + n * c) % 65521 := by
    rw [Int.mul_emod, Int.emod_emod_of_dvd _ (by decide), ← Int.mul_emod, Int.mul_add]
  rw [h1, h2]
  generalize n * ((a + c) % 65521) = X at *
  generalize n * a = Y at *
  generalize n * c = Z at *
  omega

theorem adler_loop : ∀ (suf pre : List Int) (a b : Int) (k : Nat), Bytes suf → 0 ≤ a → a < 65521 → 0 ≤ b → b < 65521 → (pre ++ suf).length ≤ 140737488351232 → suf.length < k →
    wrap_Adler.l0 k a b (pre ++ suf) ((pre ++ suf).length : Int) (pre.length : Int) = some (((b + (suf.length : Int) * a + wt suf) % 65521) * 65536 + (a + sm suf) % 65521) := by
  intro suf
  induction suf with
  | nil =>
    intro pre a b k _ ha0 ha hb0 hb _ hk
    obtain ⟨k, rfl⟩ : ∃ m, k = m + 1 := ⟨k - 1, by omega⟩
    simp only [wrap_Adler.l0, List.append_nil]
    rw [if_neg (by omega), or_join b a hb0 (by omega) ha0 (by omega)]
    simp only [wt, sm, List.length_nil]
    have e1 : (b + ((0 : Nat) : Int) * a + 0) % 65521 = b := by rw [Int.ofNat_zero, Int.zero_mul]; omega
    have e2 : (a + 0) % 65521 = a := by omega
    rw [e1, e2]
  | cons c t ih =>
    intro pre a b k hB ha0 ha hb0 hb hn hk
    obtain ⟨k, rfl⟩ : ∃ m, k = m + 1 := ⟨k - 1, by omega⟩
    have hc := hB c (by simp)
    have hl : ((pre ++ c :: t).length : Int) = (pre.length : Int) + (t.length : Int) + 1 := by simp; omega
    have hl' := hn
    rw [List.length_append, List.length_cons] at hl'
    simp only [wrap_Adler.l0]
    rw [if_pos (by rw [hl]; omega), if_pos (by omega), if_pos (by rw [hl]; omega), rd_at]
    have e1 : wrap64 c = c := wrap_id (by omega) (by omega)
    have e2 : wrap64 (a + c) = a + c := wrap_id (by omega) (by omega)
    have e3 : Int.tmod (a + c) 65521 = (a + c) % 65521 := Int.tmod_eq_emod_of_nonneg (by omega)
    have e4 : wrap64 (b + (a + c) % 65521) = b + (a + c) % 65521 := wrap_id (by omega) (by omega)
    have e5 : Int.tmod (b + (a + c) % 65521) 65521 = (b + (a + c) % 65521) % 65521 := Int.tmod_eq_emod_of_nonneg (by omega)
    have e6 : wrap64 ((pre.length : Int) + 1) = ((pre ++ [c]).length : Int) := by rw [wrap_id (by omega) (by omega)]; simp
    have e7 : pre ++ c :: t = (pre ++ [c]) ++ t := by simp
    rw [e1, e2, e3, e4, e5, e6, e7]
    rw [ih (pre ++ [c]) _ _ k (fun x hx => hB x (List.mem_cons_of_mem _ hx)) (by omega) (by omega) (by omega) (by omega) (by rw [← e7]; exact hn) (by simp at hk; omega)]
    rw [adler_step a b c (t.length : Int) (wt t)]
    have e9 : (((c :: t).length : Nat) : Int) = (t.length : Int) + 1 := by simp
    rw [e9]
    simp only [wt, sm]
    have e8 : ((a + c) % 65521 + sm t) % 65521 = (a + (c + sm t)) % 65521 := by omega
    rw [e8]

/-- Adler of a list. -/
def adl (l : List Int) : Int := (((l.length : Int) + wt l) % 65521) * 65536 + (1 + sm l) % 65521
theorem adler_eq (l : List Int) (hB : Bytes l) (hn : l.length ≤ 140737488351232) (k : Nat) (hk : l.length < k) : wrap_Adler.f k l = some (adl l) := by
  unfold wrap_Adler.f adl
  have h := adler_loop l [] 1 0 k hB (by omega) (by omega) (by omega) (by omega) (by simpa using hn) hk
  simp only [List.nil_append, List.length_nil] at h
  have e : (0 + (l.length : Int) * 1 + wt l) = (l.length : Int) + wt l := by rw [Int.mul_one]; omega
  rw [e] at h
  exact h

theorem copied_loop : ∀ (suf pre : List Int) (k : Nat), (pre ++ suf).length ≤ 140737488351232 → suf.length < k →
    valiselaw23_copied.l0 k (pre ++ suf) pre (pre.length : Int) = some (pre ++ suf) := by
  intro suf
  induction suf with
  | nil =>
    intro pre k _ hk
    obtain ⟨k, rfl⟩ : ∃ m, k = m + 1 := ⟨k - 1, by omega⟩
    simp only [valiselaw23_copied.l0, List.append_nil]
    rw [if_neg (by omega)]
  | cons c t ih =>
    intro pre k hn hk
    obtain ⟨k, rfl⟩ : ∃ m, k = m + 1 := ⟨k - 1, by omega⟩
    have hl' := hn
    rw [List.length_append, List.length_cons] at hl'
    simp only [valiselaw23_copied.l0]
    rw [if_pos (by rw [List.length_append, List.length_cons]; omega), if_pos (by omega), if_pos (by omega), rd_at]
    have e6 : wrap64 ((pre.length : Int) + 1) = ((pre ++ [c]).length : Int) := by rw [wrap_id (by omega) (by omega)]; simp
    have e7 : pre ++ c :: t = (pre ++ [c]) ++ t := by simp
    rw [e6, e7]
    exact ih (pre ++ [c]) k (by rw [← e7]; exact hn) (by simp at hk; omega)
theorem copied_eq (l : List Int) (hn : l.length ≤ 140737488351232) (k : Nat) (hk : l.length < k) : valiselaw23_copied.f k l = some l := by
  unfold valiselaw23_copied.f
  exact copied_loop l [] k (by simpa using hn) hk

theorem joined_loop : ∀ (suf pre x : List Int) (k : Nat), (x ++ pre ++ suf).length ≤ 140737488351232 → suf.length < k →
    valiselaw23_joined.l0 k (pre ++ suf) (x ++ pre) (pre.length : Int) = some (x ++ (pre ++ suf)) := by
  intro suf
  induction suf with
  | nil =>
    intro pre x k _ hk
    obtain ⟨k, rfl⟩ : ∃ m, k = m + 1 := ⟨k - 1, by omega⟩
    simp only [valiselaw23_joined.l0, List.append_nil]
    rw [if_neg (by omega)]
  | cons c t ih =>
    intro pre x k hn hk
    obtain ⟨k, rfl⟩ : ∃ m, k = m + 1 := ⟨k - 1, by omega⟩
    have hl' := hn
    rw [List.length_append, List.length_cons] at hl'
    have hl2 : (x ++ pre).length = x.length + pre.length := List.length_append ..
    simp only [valiselaw23_joined.l0]
    rw [if_pos (by rw [List.length_append, List.length_cons]; omega), if_pos (by omega), if_pos (by omega), rd_at]
    have e6 : wrap64 ((pre.length : Int) + 1) = ((pre ++ [c]).length : Int) := by rw [wrap_id (by omega) (by omega)]; simp
    have e7 : pre ++ c :: t = (pre ++ [c]) ++ t := by simp
    have e8 : x ++ pre ++ [c] = x ++ (pre ++ [c]) := by simp
    rw [e6, e7, e8]
    exact ih (pre ++ [c]) x k (by simp at hn ⊢; omega) (by simp at hk; omega)
theorem joined_eq (x y : List Int) (hn : x.length + y.length ≤ 140737488351232) (k : Nat) (hx : x.length < k) (hk : y.length < k) : valiselaw23_joined.f k x y = some (x ++ y) := by
  unfold valiselaw23_joined.f
  rw [copied_eq x (by omega) k hx]
  simp only [Option.bind_some]
  have h := joined_loop y [] x k (by simp; omega) hk
  simpa using h

/-- What the law's own loop comes to. -/
theorem sums_loop (x0 x1 x2 : List Int) : ∀ (suf pre : List Int) (a b : Int) (k : Nat), Bytes suf → 0 ≤ a → a < 65521 → 0 ≤ b → b < 65521 → (pre ++ suf).length ≤ 16777216 → suf.length < k →
    ∃ k', k' + suf.length = k ∧ valiselaw23_WrapSums.l0 k x0 x1 x2 (pre ++ suf) a b (pre.length : Int) = valiselaw23_WrapSums.l0 k' x0 x1 x2 (pre ++ suf) ((a + sm suf) % 65521) ((b + wt suf) % 65521) ((pre ++ suf).length : Int) := by
  intro suf
  induction suf with
  | nil =>
    intro pre a b k _ ha0 ha hb0 hb _ hk
    refine ⟨k, by simp, ?_⟩
    simp only [sm, wt, List.append_nil]
    have e1 : (b + 0) % 65521 = b := by omega
    have e2 : (a + 0) % 65521 = a := by omega
    rw [e1, e2]
  | cons c t ih =>
    intro pre a b k hB ha0 ha hb0 hb hn hk
    obtain ⟨k, rfl⟩ : ∃ m, k = m + 1 := ⟨k - 1, by omega⟩
    have hc := hB c (by simp)
    have hl : ((pre ++ c :: t).length : Int) = (pre.length : Int) + (t.length : Int) + 1 := by simp; omega
    have hl' := hn
    rw [List.length_append, List.length_cons] at hl'
    have hm : 0 ≤ c * ((t.length : Int) + 1) ∧ c * ((t.length : Int) + 1) ≤ 255 * 16777217 := by
      constructor
      · exact Int.mul_nonneg hc.1 (by omega)
      · exact Int.mul_le_mul hc.2 (by omega) (by omega) (by omega)
    have e7 : pre ++ c :: t = (pre ++ [c]) ++ t := by simp
    obtain ⟨k', hk', h⟩ := ih (pre ++ [c]) ((a + c) % 65521) ((b + c * ((t.length : Int) + 1)) % 65521) k (fun x hx => hB x (List.mem_cons_of_mem _ hx)) (by omega) (by omega) (by omega) (by omega) (by rw [← e7]; exact hn) (by simp at hk; omega)
    refine ⟨k', by simp; omega, ?_⟩
    rw [valiselaw23_WrapSums.l0]
    rw [if_pos (by rw [hl]; omega), if_pos (by omega), rd_at, hl]
    have e1 : wrap64 c = c := wrap_id (by omega) (by omega)
    have e2 : wrap64 (a + c) = a + c := wrap_id (by omega) (by omega)
    have e3 : Int.tmod (a + c) 65521 = (a + c) % 65521 := Int.tmod_eq_emod_of_nonneg (by omega)
    have e0 : wrap64 ((pre.length : Int) + (t.length : Int) + 1 - (pre.length : Int)) = (t.length : Int) + 1 := by rw [wrap_id (by omega) (by omega)]; omega
    have e4 : wrap64 (c * ((t.length : Int) + 1)) = c * ((t.length : Int) + 1) := wrap_id (by omega) (by omega)
    have e5 : wrap64 (b + c * ((t.length : Int) + 1)) = b + c * ((t.length : Int) + 1) := wrap_id (by omega) (by omega)
    have e5' : Int.tmod (b + c * ((t.length : Int) + 1)) 65521 = (b + c * ((t.length : Int) + 1)) % 65521 := Int.tmod_eq_emod_of_nonneg (by omega)
    have e6 : wrap64 ((pre.length : Int) + 1) = ((pre ++ [c]).length : Int) := by rw [wrap_id (by omega) (by omega)]; simp
    rw [e1, e2, e3, e0, e4, e5, e5', e6, ← hl, e7, h]
    simp only [sm, wt]
    have e8 : ((a + c) % 65521 + sm t) % 65521 = (a + (c + sm t)) % 65521 := by omega
    have e9 : ((b + c * ((t.length : Int) + 1)) % 65521 + wt t) % 65521 = (b + (c * ((t.length : Int) + 1) + wt t)) % 65521 := by omega
    rw [e8, e9]

theorem and_low (a : Int) (h0 : 0 ≤ a) (h : a < 4294967296) : Go.bits .and .u32 a 65535 = a % 65536 :=
  bits_mask .u32 32 (by decide) (fun n h0 h1 => by rw [IntKind.wrap_u32]; omega) 16 (by decide) a h0 (by omega)

theorem adl_range (l : List Int) : 0 ≤ adl l ∧ adl l < 4294967296 := by unfold adl; omega
theorem adl_low (l : List Int) : adl l % 65536 = (1 + sm l) % 65521 := by unfold adl; omega
theorem adl_high (l : List Int) : adl l / 65536 = ((l.length : Int) + wt l) % 65521 := by unfold adl; omega

/-- JoinAdler of two parts' sums is the whole's. -/
theorem join_eq (x y : List Int) (hn : y.length ≤ 16777216) : wrap_JoinAdler.f (adl x) (adl y) (y.length : Int) = some (adl (x ++ y), 0) := by
  have rx := adl_range x
  have ry := adl_range y
  have lx := adl_low x
  have ly := adl_low y
  have hx := adl_high x
  have hy := adl_high y
  unfold wrap_JoinAdler.f
  rw [if_neg (by omega), if_neg (by omega), and_low _ rx.1 rx.2, and_low _ ry.1 ry.2, lx, ly, hx, hy]
  generalize hA1 : (1 + sm x) % 65521 = A1
  generalize hA2 : (1 + sm y) % 65521 = A2
  generalize hB1 : ((x.length : Int) + wt x) % 65521 = B1
  generalize hB2 : ((y.length : Int) + wt y) % 65521 = B2
  have b1 : 0 ≤ A1 ∧ A1 < 65521 := by omega
  have b2 : 0 ≤ A2 ∧ A2 < 65521 := by omega
  have b3 : 0 ≤ B1 ∧ B1 < 65521 := by omega
  have b4 : 0 ≤ B2 ∧ B2 < 65521 := by omega
  have w1 : wrap64 A1 = A1 := wrap_id (by omega) (by omega)
  have w2 : wrap64 A2 = A2 := wrap_id (by omega) (by omega)
  have w3 : wrap64 B1 = B1 := wrap_id (by omega) (by omega)
  have w4 : wrap64 B2 = B2 := wrap_id (by omega) (by omega)
  have w5 : wrap64 (A1 + A2) = A1 + A2 := wrap_id (by omega) (by omega)
  have w6 : wrap64 (A1 + A2 + 65521) = A1 + A2 + 65521 := wrap_id (by omega) (by omega)
  have w7 : wrap64 (A1 + A2 + 65521 - 1) = A1 + A2 + 65521 - 1 := wrap_id (by omega) (by omega)
  have w8 : wrap64 (A1 + 65521) = A1 + 65521 := wrap_id (by omega) (by omega)
  have w9 : wrap64 (A1 + 65521 - 1) = A1 + 65521 - 1 := wrap_id (by omega) (by omega)
  have w10 : wrap64 (B1 + B2) = B1 + B2 := wrap_id (by omega) (by omega)
  have hp : 0 ≤ (y.length : Int) * (A1 + 65521 - 1) ∧ (y.length : Int) * (A1 + 65521 - 1) ≤ 16777216 * 131042 := by
    constructor
    · exact Int.mul_nonneg (by omega) (by omega)
    · exact Int.mul_le_mul (by omega) (by omega) (by omega) (by omega)
  have w11 : wrap64 ((y.length : Int) * (A1 + 65521 - 1)) = (y.length : Int) * (A1 + 65521 - 1) := wrap_id (by omega) (by omega)
  have w12 : wrap64 (B1 + B2 + (y.length : Int) * (A1 + 65521 - 1)) = B1 + B2 + (y.length : Int) * (A1 + 65521 - 1) := wrap_id (by omega) (by omega)
  rw [w1, w2, w3, w4, w5, w6, w7, w8, w9, w10, w11, w12]
  rw [Int.tmod_eq_emod_of_nonneg (by omega), Int.tmod_eq_emod_of_nonneg (by omega)]
  rw [or_join _ _ (by omega) (by omega) (by omega) (by omega)]
  have eA : (A1 + A2 + 65521 - 1) % 65521 = (1 + sm (x ++ y)) % 65521 := by rw [sm_append]; omega
  have eP : ((y.length : Int) * (A1 + 65521 - 1)) % 65521 = ((y.length : Int) * sm x) % 65521 := by
    rw [Int.mul_emod, Int.mul_emod (y.length : Int) (sm x)]
    have : (A1 + 65521 - 1) % 65521 = sm x % 65521 := by omega
    rw [this]
  have eB : (B1 + B2 + (y.length : Int) * (A1 + 65521 - 1)) % 65521 = (((x ++ y).length : Int) + wt (x ++ y)) % 65521 := by
    rw [wt_append, List.length_append, Int.natCast_add]
    generalize (y.length : Int) * (A1 + 65521 - 1) = X at *
    generalize (y.length : Int) * sm x = Y at *
    omega
  rw [eA, eB]
  rfl

theorem bytes_of (l : List Int) (h : ∀ x ∈ l, (Lit.int .u8 x).wf = true) : Bytes l := by
  intro c hc
  have := h c hc
  simp [Lit.wf, IntKind.min, IntKind.max, IntKind.signed, IntKind.bits] at this
  omega
/-- The law's last part. -/
theorem sums_end (x y z : List Int) (bx : Bytes x) (bY : Bytes y) (bz : Bytes z) (hn : x.length + y.length + z.length ≤ 16777216) (m : Nat) (hm : x.length + y.length + z.length < m) (A B : Int)
    (rA : 0 ≤ A ∧ A < 65521) (rB : 0 ≤ B ∧ B < 65521) (hw : adl (x ++ y ++ z) = B * 65536 + A) :
    valiselaw23_WrapSums.l0 (m + 1) x y z (x ++ y ++ z) A B ((x ++ y ++ z).length : Int) = some true := by
  have bw : Bytes (x ++ y ++ z) := by
    intro c hc
    simp only [List.mem_append] at hc
    rcases hc with (h | h) | h
    · exact bx c h
    · exact bY c h
    · exact bz c h
  have hlen : (x ++ y ++ z).length = x.length + y.length + z.length := by simp [Nat.add_assoc]
  rw [valiselaw23_WrapSums.l0]
  rw [if_neg (by omega), adler_eq _ bw (by omega) m (by omega), Option.bind_some]
  have w3 : wrap64 (B * 65536) = B * 65536 := wrap_id (by omega) (by omega)
  have w4 : wrap64 (B * 65536 + A) = B * 65536 + A := wrap_id (by omega) (by omega)
  have w5 : wrap64 (adl (x ++ y ++ z)) = adl (x ++ y ++ z) := wrap_id (by rw [hw]; omega) (by rw [hw]; omega)
  rw [w3, w4, w5, if_pos hw]
  rw [adler_eq x bx (by omega) m (by omega), Option.bind_some, adler_eq y bY (by omega) m (by omega), Option.bind_some, join_eq x y (by omega), Option.bind_some,
    adler_eq z bz (by omega) m (by omega), Option.bind_some]
  show ((wrap_JoinAdler.f (adl (x ++ y)) (adl z) (z.length : Int)).bind _) = _
  rw [join_eq (x ++ y) z (by omega), Option.bind_some, Option.bind_some, Option.bind_some, join_eq y z (by omega), Option.bind_some, Option.bind_some]
  have w6 : wrap64 ((y.length : Int) + (z.length : Int)) = ((y ++ z).length : Int) := by rw [wrap_id (by omega) (by omega)]; simp
  have l6 : (y ++ z).length ≤ 16777216 := by rw [List.length_append]; omega
  rw [w6, join_eq x (y ++ z) l6, Option.bind_some, if_pos rfl, if_pos rfl, if_pos rfl, if_pos rfl, if_pos rfl]
  show some (adl (x ++ (y ++ z)) == adl (x ++ y ++ z)) = some true
  rw [List.append_assoc, beq_self_eq_true]
theorem sums_all (x y z : List Int) (bx : Bytes x) (bY : Bytes y) (bz : Bytes z) (hn : x.length + y.length + z.length ≤ 16777216) (k : Nat) (hk : k = 2 * (x.length + y.length + z.length) + 4) :
    ((valiselaw23_joined.f k x y).bind fun t113 => ((valiselaw23_joined.f k t113 z).bind fun t116 => (valiselaw23_WrapSums.l0 k x y z t116 1 ((t116.length : Int) % 65521) 0))) = some true := by
  have l1 : (x ++ y).length = x.length + y.length := List.length_append
  rw [joined_eq x y (by omega) k (by omega) (by omega)]
  rw [Option.bind_some]
  rw [joined_eq (x ++ y) z (by omega) k (by omega) (by omega)]
  rw [Option.bind_some]
  have bw : Bytes (x ++ y ++ z) := by
    intro c hc
    simp only [List.mem_append] at hc
    rcases hc with (h | h) | h
    · exact bx c h
    · exact bY c h
    · exact bz c h
  have hlen : (x ++ y ++ z).length = x.length + y.length + z.length := by simp [Nat.add_assoc]
  obtain ⟨k', hk', h⟩ := sums_loop x y z (x ++ y ++ z) [] 1 (((x ++ y ++ z).length : Int) % 65521) k bw (by omega) (by omega) (by omega) (by omega) (by rw [List.nil_append]; omega) (by omega)
  rw [List.nil_append] at h
  have e0 : (([] : List Int).length : Int) = 0 := rfl
  rw [e0] at h
  rw [h]
  rw [hlen] at hk'
  obtain ⟨m, rfl⟩ : ∃ m, k' = m + 1 := ⟨k' - 1, by omega⟩
  have hw : adl (x ++ y ++ z) = ((((x ++ y ++ z).length : Int) % 65521 + wt (x ++ y ++ z)) % 65521) * 65536 + (1 + sm (x ++ y ++ z)) % 65521 := by
    unfold adl
    have : ((((x ++ y ++ z).length : Int) + wt (x ++ y ++ z)) % 65521) = ((((x ++ y ++ z).length : Int) % 65521 + wt (x ++ y ++ z)) % 65521) := by omega
    rw [this]
  exact sums_end x y z bx bY bz hn m (by omega) _ _ (by omega) (by omega) hw

theorem WrapSums : valiselaw23_WrapSums.Pure := by
  intro x y z _ hx0 hx _ hy0 hy _ hz0 hz
  have w1 : wrap64 ((x.length : Int) + (y.length : Int)) = (x.length : Int) + (y.length : Int) := wrap_id (by omega) (by omega)
  have w2 : wrap64 ((x.length : Int) + (y.length : Int) + (z.length : Int)) = (x.length : Int) + (y.length : Int) + (z.length : Int) := wrap_id (by omega) (by omega)
  by_cases hbig : (x.length : Int) + (y.length : Int) + (z.length : Int) > 16777216
  · exact ⟨0, by unfold valiselaw23_WrapSums.f; rw [w1, w2, if_pos hbig]⟩
  refine ⟨2 * (x.length + y.length + z.length) + 4, ?_⟩
  unfold valiselaw23_WrapSums.f
  rw [w1, w2, if_neg hbig]
  exact sums_all x y z (bytes_of x hx) (bytes_of y hy) (bytes_of z hz) (by omega) _ rfl

end Go.Proofs.Ytpndhoefmepfdaa.Pure
