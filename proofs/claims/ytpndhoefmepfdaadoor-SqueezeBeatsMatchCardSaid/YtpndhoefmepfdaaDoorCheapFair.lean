/- squeeze.Cheapest where the prices may be: its table is the cheapest from each place on, its row stands. Plain law: no memory and no program. -/
import Derived.Test.YtpndhoefmepfdaaDoorCheapWalk
namespace Go.Proofs.YtpndhoefmepfdaaDoor.CheapFair
open Go.RowKit Go.Proofs.YtpndhoefmepfdaaDoor.PSq Go.Proofs.YtpndhoefmepfdaaDoor.CheapPure Go.Proofs.YtpndhoefmepfdaaDoor.TS Go.Proofs.YtpndhoefmepfdaaDoorW.PrintWords Go.Proofs.YtpndhoefmepfdaaDoorW.PrintLast
open Go.Proofs.YtpndhoefmepfdaaDoor.SqSym (len_sym0 dist_sym0 T mono_at low_at place_of prog_loop T_ends)
set_option linter.unusedVariables false
theorem lenS_in (m : Int) (h0 : 3 ≤ m) (h1 : m ≤ 258) : 257 ≤ lenS m ∧ lenS m ≤ 285 := by
  obtain ⟨s, b, x, g1, g3, g4⟩ := len_sym0 m h0 h1 200 (Nat.le_refl _)
  have e : lenS m = s := by unfold lenS; rw [g1]; rfl
  omega
theorem step_ok {lit data : List Int} {L P : Int → Int} {W : Int} {R : List Int} {T : List S56} (h : Sol lit data L P W 0 R T) (j : Int) (h0 : 0 ≤ j) (h1 : j < (data.length : Int)) :
    ((rd_T56 T j).f0 = 0 ∨ 3 ≤ (rd_T56 T j).f0) ∧ j + mx 1 (rd_T56 T j).f0 ≤ (data.length : Int) ∧ 1 ≤ mx 1 (rd_T56 T j).f0 := by
  rcases h.opt j h0 h1 with ⟨o1, _, _⟩ | ⟨m, d, o1, o2, _⟩
  · rw [o1]
    refine ⟨.inl rfl, ?_, ?_⟩ <;> (unfold mx; simp; try omega)
  · rw [o1]
    have h3 := o2.1
    have h4 := o2.2.2.2.2.2.1
    refine ⟨.inr h3, ?_, ?_⟩ <;> (unfold mx; rw [if_pos (by simp only; omega)]; simp only; omega)
theorem row_some {lit data : List Int} {L P : Int → Int} {W : Int} {R : List Int} {T : List S56} (h : Sol lit data L P W 0 R T) (hT : T.length = data.length) (hbig : data.length ≤ 65536) : ∀ (n : Nat) (i : Int) (l : List S56), 0 ≤ i → i ≤ (data.length : Int) → (data.length : Int) - i < n → ∃ r, rowF T n i l = some r := by
  intro n
  induction n with
  | zero => intro i l h0 h1 h2; omega
  | succ n ih =>
    intro i l h0 h1 h2
    rw [rowF, hT]
    by_cases c : i < (data.length : Int)
    · have := step_ok h i h0 c
      rw [if_pos c, if_pos h0, wrap_id (by omega) (by omega)]
      exact ih _ _ (by omega) (by omega) (by omega)
    · rw [if_neg c]
      exact ⟨l, rfl⟩
theorem strict_all : ((List.range 30).all fun i => decide (rd T (i : Int) < rd T ((i + 1 : Nat) : Int))) = true := by decide +kernel
theorem strict_at (s : Nat) (hs : s ≤ 29) : rd T (s : Int) < rd T ((s + 1 : Nat) : Int) := by simpa using List.all_eq_true.1 strict_all s (by rw [List.mem_range]; omega)
theorem T_one : rd T ((0 + 1 : Nat) : Int) = 2 := by decide +kernel
theorem T_last : rd T ((29 + 1 : Nat) : Int) = 32769 := by decide +kernel
theorem T_zero : rd T ((0 : Nat) : Int) = 1 := by decide +kernel
def Pl (s : Nat) (d : Int) : Prop := s ≤ 29 ∧ rd T (s : Int) ≤ d ∧ d < rd T ((s + 1 : Nat) : Int)
theorem pl_first : Pl 0 1 := ⟨by omega, by rw [T_zero]; decide, by rw [T_one]; decide⟩
theorem pl_next {s : Nat} {d : Int} (h : Pl s (d - 1)) (hs : s + 1 ≤ 29) (hT : rd T ((s + 1 : Nat) : Int) = d) : Pl (s + 1) d := ⟨hs, by rw [hT]; exact Int.le_refl _, by have := strict_at (s + 1) hs; rw [hT] at this; exact this⟩
theorem pl_stay {s : Nat} {d : Int} (h : Pl s (d - 1)) (hT : rd T ((s + 1 : Nat) : Int) ≠ d) : Pl s d := ⟨h.1, by have := h.2.1; omega, by have := h.2.2; omega⟩
theorem pl_unique {s t : Nat} {d : Int} (h : Pl s d) (h' : Pl t d) : s = t := by
  obtain ⟨a1, a2, a3⟩ := h
  obtain ⟨b1, b2, b3⟩ := h'
  rcases Nat.lt_trichotomy s t with h | h | h
  · have := mono_at (s + 1) t h (by omega); omega
  · exact h
  · have := mono_at (t + 1) s h (by omega); omega
theorem distS_pl (d : Int) (h0 : 1 ≤ d) (h1 : d ≤ 32768) : ∃ s : Nat, Pl s d ∧ distS d = (s : Int) := by
  obtain ⟨i, hi, g1, g2⟩ := place_of d (by rw [T_ends.1]; exact h0) 30 (by rw [T_ends.2]; omega)
  refine ⟨i, ⟨by omega, g1, g2⟩, ?_⟩
  have : block_DistSymbol.f 200 d = some ((i : Int), rd tab5 (i : Int), wrap64 (d - rd tab4 (i : Int)), 0) := by
    unfold block_DistSymbol.f
    rw [if_neg (by omega), decide_eq_false (by omega), block_DistSymbol.j0, if_neg (by decide)]
    have h := prog_loop d i g1 g2 (29 - i) (by omega) 199 (by omega)
    have e : ((i + (29 - i) : Nat) : Int) = 29 := by omega
    rw [e] at h
    exact h
  unfold distS
  rw [this]
  rfl
theorem ok_bound {l : List Int} (h : squeeze_fair.ok l = true) (q : Int) (h0 : 0 ≤ q) (h1 : q < (l.length : Int)) : 1 ≤ rd l q ∧ rd l q ≤ 65536 := by
  unfold squeeze_fair.ok at h
  rw [List.all_eq_true] at h
  have hj : q.toNat < l.length := by omega
  have := h _ (List.getElem_mem hj)
  unfold rd
  rw [List.getD_eq_getElem?_getD, List.getElem?_eq_getElem hj]
  simpa using this
theorem winF_spec (n : Nat) (a : Int) (h : 1 ≤ a) : 0 ≤ winF n a ∧ winF n a ≤ a ∧ (1 ≤ n → winF n a ≤ (n : Int) - 1) ∧ ∀ d, 1 ≤ d → d ≤ a → d ≤ (n : Int) - 1 → d ≤ winF n a := by
  unfold winF
  refine ⟨?_, ?_, fun _ => ?_, fun d _ _ _ => ?_⟩ <;> (split <;> split <;> omega)
theorem sset_win {data : List Int} {W W' : Int} (h : ∀ d, 1 ≤ d → d ≤ (data.length : Int) - 1 → (d ≤ W ↔ d ≤ W')) (j : Int) (hj : j < (data.length : Int)) (m d : Int) : Sset data W j m d ↔ Sset data W' j m d := by
  constructor
  · rintro ⟨a1, a2, a3, a4⟩
    exact ⟨a1, a2, (h d a4.1 (by have := a4.2.1; omega)).1 a3, a4⟩
  · rintro ⟨a1, a2, a3, a4⟩
    exact ⟨a1, a2, (h d a4.1 (by have := a4.2.1; omega)).2 a3, a4⟩
theorem sol_win {lit data : List Int} {L P : Int → Int} {W W' : Int} {R : List Int} {T : List S56} (hs : Sol lit data L P W 0 R T) (h : ∀ d, 1 ≤ d → d ≤ (data.length : Int) - 1 → (d ≤ W ↔ d ≤ W')) : Sol lit data L P W' 0 R T :=
  ⟨hs.rl, hs.tl, hs.last, hs.bd, fun j h0 h1 => opt_congr (fun m d => sset_win h j h1 m d) (fun _ _ _ => rfl) (hs.opt j h0 h1)⟩
/-- The prices of a length and of a distance. -/
def LL (lit : List Int) : Int → Int := Lf lit 259
def PP (dist : List Int) : Int → Int := fun d => rd dist (distS d)
theorem distS_in (d : Int) (h0 : 1 ≤ d) (h1 : d ≤ 32768) : 0 ≤ distS d ∧ distS d ≤ 29 := by
  obtain ⟨s, hs, e⟩ := distS_pl d h0 h1
  rw [e]
  exact ⟨by omega, by have := hs.1; omega⟩
theorem bytes_all {l : List Int} (h : ∀ x ∈ l, 0 ≤ x ∧ x ≤ 255) : l.all (fun x => decide (0 ≤ x) && decide (x ≤ 255)) = true := by
  rw [List.all_eq_true]
  intro x hx
  have := h x hx
  simp [this.1, this.2]
theorem bytes_rd {l : List Int} (h : ∀ x ∈ l, 0 ≤ x ∧ x ≤ 255) (q : Int) (h0 : 0 ≤ q) (h1 : q < (l.length : Int)) : 0 ≤ rd l q ∧ rd l q ≤ 255 := by
  have hj : q.toNat < l.length := by omega
  have := h _ (List.getElem_mem hj)
  unfold rd
  rw [List.getD_eq_getElem?_getD, List.getElem?_eq_getElem hj]
  exact this
/-- What the program's Cheapest answers where the prices may be. -/
theorem cheapest_fair (l0 l1 l2 : List Int) (a1 : Int) (hb : ∀ x ∈ l0, 0 ≤ x ∧ x ≤ 255) (hn : l0.length ≤ 65536) (ha : 1 ≤ a1 ∧ a1 ≤ 32768) (hg : squeeze_fair.g l1 l2 = true) :
    ∃ R T r, squeeze_Cheapest.f l0 a1 l1 l2 = some (r, 0) ∧ Sol l1 l0 (LL l1) (PP l2) a1 0 R T ∧ T.length = l0.length ∧ rowF T (l0.length + 1) 0 [] = some r := by
  obtain ⟨z1, z2, k1, k2⟩ : l1.length = 286 ∧ l2.length = 30 ∧ squeeze_fair.ok l1 = true ∧ squeeze_fair.ok l2 = true := by
    unfold squeeze_fair.g at hg
    simp only [Bool.and_eq_true, beq_iff_eq] at hg
    exact ⟨hg.1.1.1, hg.1.1.2, hg.1.2, hg.2⟩
  obtain ⟨w1, w2, w3, w4⟩ := winF_spec l0.length a1 ha.1
  obtain ⟨U, R, T, e1, e2, e3⟩ := all_run l1 l0 (Dl l2 (winF l0.length a1)) (LL l1) (PP l2) (winF l0.length a1) w1 hn (fun q h0 h1 => by have := ok_bound k1 q h0 (by omega); omega) (bytes_rd hb)
    (fun m h0 h1 => by
      unfold LL Lf
      rw [if_pos ⟨h0, by omega⟩]
      have := lenS_in m h0 h1
      have := ok_bound k1 (lenS m) (by omega) (by omega)
      omega)
    (fun d h0 h1 => by
      have := distS_in d h0 (by omega)
      have := ok_bound k2 (distS d) (by omega) (by omega)
      refine ⟨?_, by unfold PP; omega, by unfold PP; omega⟩
      rw [Dl_rd l2 _ d (by omega) h1]
      unfold dlF PP
      rw [if_pos h0])
  have e4 := sol_win (W' := a1) e3 (fun d h0 h1 => ⟨fun h => by omega, fun h => w4 d h0 h h1⟩)
  obtain ⟨r, hr⟩ := row_some e4 e2 hn (l0.length + 1) 0 [] (by omega) (by omega) (by omega)
  refine ⟨R, T, r, ?_, e4, e2, hr⟩
  unfold squeeze_Cheapest.f
  rw [if_neg (by omega), if_pos hg, if_pos (bytes_all hb), show (winF l0.length a1 + 1).toNat = (winF l0.length a1).toNat + 1 by omega]
  show (placesF l1 l0 (Dl l2 (winF l0.length a1)) (LL l1) l0.length _ _ _).bind _ = _
  rw [e1, Option.bind_some]
  show (rowF T (l0.length + 1) 0 []).map _ = _
  rw [hr]
  rfl
end Go.Proofs.YtpndhoefmepfdaaDoor.CheapFair
