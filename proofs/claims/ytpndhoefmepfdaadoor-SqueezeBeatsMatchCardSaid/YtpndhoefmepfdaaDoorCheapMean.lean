/- What rows of tokens say and cost: match.Expand and the law's costs, over any row; the cheapest row's cost is the least. Plain law: no memory and no program. -/
import Derived.Test.YtpndhoefmepfdaaDoorCheapFair
import Derived.Test.YtpndhoefmepfdaaDoorSqSelf
import Derived.Test.YtpndhoefmepfdaaDoorPSqgF
namespace Go.Proofs.YtpndhoefmepfdaaDoor.CheapMean
open Go.RowKit Go.Proofs.YtpndhoefmepfdaaDoor.PSq Go.Proofs.YtpndhoefmepfdaaDoor.CheapPure Go.Proofs.YtpndhoefmepfdaaDoor.CheapFair Go.Proofs.YtpndhoefmepfdaaDoor.TS Go.Proofs.YtpndhoefmepfdaaDoorW.PrintWords Go.Proofs.YtpndhoefmepfdaaDoorW.PrintLast
open Go.Proofs.YtpndhoefmepfdaaDoor.SqSym (len_sym0 dist_sym0 len_no0 dist_no0)
open Go.Proofs.YtpndhoefmepfdaaDoor.SqSelf (equal_self alike_self ints_eq list_eq copy_whole clone_eq same_self)
set_option linter.unusedVariables false
/-- With rounds enough the answer is r. -/
def Lands {α : Type} (g : Nat → Option α) (r : α) : Prop := ∃ K, ∀ k, K ≤ k → g k = some r
theorem Lands.step' {α : Type} {g g' : Nat → Option α} {r : α} (K0 : Nat) (h : Lands g' r) (hs : ∀ k, K0 ≤ k → g (k + 1) = g' k) : Lands g r := by
  obtain ⟨K, hK⟩ := h
  refine ⟨K + K0 + 1, fun k hk => ?_⟩
  obtain ⟨k, rfl⟩ : ∃ q, k = q + 1 := ⟨k - 1, by omega⟩
  rw [hs k (by omega)]
  exact hK k (by omega)
theorem Lands.step {α : Type} {g g' : Nat → Option α} {r : α} (h : Lands g' r) (hs : ∀ k, g (k + 1) = g' k) : Lands g r := h.step' 0 (fun k _ => hs k)
theorem Lands.const' {α : Type} {g : Nat → Option α} {r : α} (K0 : Nat) (hs : ∀ k, K0 ≤ k → g (k + 1) = some r) : Lands g r := ⟨K0 + 1, fun k hk => by obtain ⟨k, rfl⟩ : ∃ q, k = q + 1 := ⟨k - 1, by omega⟩; exact hs k (by omega)⟩
theorem Lands.const {α : Type} {g : Nat → Option α} {r : α} (hs : ∀ k, g (k + 1) = some r) : Lands g r := Lands.const' 0 (fun k _ => hs k)
theorem Lands.bind {α β : Type} {g : Nat → Option α} {f : Nat → α → Option β} {a : α} {r : β} (h : Lands g a) (hf : Lands (fun k => f k a) r) : Lands (fun k => (g k).bind (f k)) r := by
  obtain ⟨K1, h1⟩ := h
  obtain ⟨K2, h2⟩ := hf
  exact ⟨K1 + K2, fun k hk => by simp only; rw [h1 k (by omega), Option.bind_some]; exact h2 k (by omega)⟩
theorem Lands.same {α : Type} {g : Nat → Option α} {r : α} (o : Option α) (ho : o = some r) (hg : ∀ k, g k = o) : Lands g r := ⟨0, fun k _ => by rw [hg k, ho]⟩
/-- What a row says: data from a place on. -/
def SaysRow (data : List Int) : Int → List S56 → Prop
  | i, [] => i = (data.length : Int)
  | i, t :: l => (t.f0 = 0 ∧ t.f1 = 0 ∧ i < (data.length : Int) ∧ t.f2 = rd data i ∧ SaysRow data (i + 1) l) ∨ (3 ≤ t.f0 ∧ t.f0 ≤ 258 ∧ t.f1 ≤ 32768 ∧ t.f2 = 0 ∧ Says data i t.f0 t.f1 ∧ SaysRow data (i + t.f0) l)
def costOf (lit dist : List Int) (t : S56) : Int := if t.f0 = 0 then rd lit t.f2 else LL lit t.f0 + PP dist t.f1
def sumOf (lit dist : List Int) : List S56 → Int
  | [] => 0
  | t :: l => costOf lit dist t + sumOf lit dist l
def InWin (W : Int) (l : List S56) : Prop := ∀ t ∈ l, t.f1 ≤ W
theorem says_length {data : List Int} : ∀ {l : List S56} {i : Int}, SaysRow data i l → i + (l.length : Int) ≤ (data.length : Int) := by
  intro l
  induction l with
  | nil => intro i h; have : i = (data.length : Int) := h; simp; omega
  | cons t l ih =>
    intro i h
    rcases h with ⟨_, _, _, _, h⟩ | ⟨h3, _, _, _, _, h⟩ <;> (have := ih h; simp; omega)
/-- No row costs less. -/
theorem row_least {lit dist data : List Int} {W : Int} {R : List Int} {T : List S56} (h : Sol lit data (LL lit) (PP dist) W 0 R T) : ∀ (l : List S56) (i : Int), 0 ≤ i → SaysRow data i l → InWin W l → rd R i ≤ sumOf lit dist l := by
  intro l
  induction l with
  | nil =>
    intro i h0 hs _
    have : i = (data.length : Int) := hs
    rw [this, h.last]
    exact Int.le_refl _
  | cons t l ih =>
    intro i h0 hs hw
    have hw' : InWin W l := fun x hx => hw x (List.mem_cons_of_mem _ hx)
    rw [sumOf]
    rcases hs with ⟨a1, a2, a3, a4, a5⟩ | ⟨a1, a2, a3, a4, a5, a6⟩
    · have := ih (i + 1) (by omega) a5 hw'
      have := (opt_le (h.opt i h0 a3)).1
      unfold costOf
      rw [if_pos a1, a4]
      omega
    · have := ih (i + t.f0) (by omega) a6 hw'
      have hlt : i < (data.length : Int) := by have := a5.2.2.1; omega
      have := (opt_le (h.opt i h0 hlt)).2 t.f0 t.f1 ⟨a1, a2, hw t (by simp), a5⟩
      unfold Cst at this
      unfold costOf
      rw [if_neg (by omega)]
      omega
/-- The row of the table says data and costs just that. -/
theorem row_own {lit dist data : List Int} {W : Int} {R : List Int} {T : List S56} (hW0 : 0 ≤ W) (hW : W ≤ 32768) (h : Sol lit data (LL lit) (PP dist) W 0 R T) (hT : T.length = data.length) (hbig : data.length ≤ 65536) : ∀ (n : Nat) (i : Int) (acc r : List S56), 0 ≤ i → i ≤ (data.length : Int) → rowF T n i acc = some r →
    ∃ l, r = acc ++ l ∧ SaysRow data i l ∧ InWin W l ∧ sumOf lit dist l = rd R i := by
  intro n
  induction n with
  | zero => intro i acc r _ _ h; cases h
  | succ n ih =>
    intro i acc r h0 h1 hr
    rw [rowF, hT] at hr
    by_cases c : i < (data.length : Int)
    · have hs := step_ok h i h0 c
      rw [if_pos c, if_pos h0, wrap_id (by omega) (by omega)] at hr
      obtain ⟨l, e1, e2, e3, e4⟩ := ih _ _ _ (by omega) (by omega) hr
      refine ⟨rd_T56 T i :: l, by rw [e1, List.append_assoc]; rfl, ?_, ?_, ?_⟩
      · rcases h.opt i h0 c with ⟨o1, o2, _⟩ | ⟨m, d, o1, o2, o3, _⟩
        · refine .inl ?_
          rw [o1] at e2 ⊢
          exact ⟨rfl, rfl, c, rfl, e2⟩
        · refine .inr ?_
          rw [o1] at e2 ⊢
          have hm : mx 1 m = m := by unfold mx; have := o2.1; rw [if_pos (by omega)]
          simp only [hm] at e2
          exact ⟨o2.1, o2.2.1, by have := o2.2.2.1; simp only; omega, rfl, o2.2.2.2, e2⟩
      · intro t ht
        rcases List.mem_cons.1 ht with rfl | ht
        · rcases h.opt i h0 c with ⟨o1, o2, _⟩ | ⟨m, d, o1, o2, o3, _⟩
          · rw [o1]
            exact hW0
          · rw [o1]; exact o2.2.2.1
        · exact e3 t ht
      · rw [sumOf, e4]
        rcases h.opt i h0 c with ⟨o1, o2, _⟩ | ⟨m, d, o1, o2, o3, _⟩
        · rw [o2, o1]
          show costOf lit dist ⟨0, 0, rd data i⟩ + rd R (i + mx 1 0) = _
          unfold costOf
          rw [if_pos rfl, show mx 1 0 = 1 from rfl]
        · have hm : mx 1 m = m := by unfold mx; have := o2.1; rw [if_pos (by omega)]
          rw [o3, o1]
          show costOf lit dist ⟨m, d, 0⟩ + rd R (i + mx 1 m) = _
          unfold costOf Cst
          rw [if_neg (by show ¬ m = 0; have := o2.1; omega), hm]
    · rw [if_neg c] at hr
      obtain rfl := Option.some.inj hr
      have hi : i = (data.length : Int) := by omega
      exact ⟨[], by simp, hi, (fun t ht => by cases ht), by rw [hi, h.last]; rfl⟩
/-! ### costs -/
theorem rdT_at (pre : List S56) (c : S56) (t : List S56) : rd_T56 (pre ++ c :: t) (pre.length : Int) = c := by unfold rd_T56; simp [List.getD]
theorem LL_of (lit : List Int) (m : Int) (h0 : 3 ≤ m) (h1 : m ≤ 258) : LL lit m = rd lit (lenS m) := by unfold LL Lf; rw [if_pos ⟨h0, by omega⟩]
theorem lenS_at (m : Int) (h0 : 3 ≤ m) (h1 : m ≤ 258) (k : Nat) (hk : 200 ≤ k) : ∃ b x, block_LengthSymbol.f k m = some (lenS m, b, x, 0) := by
  obtain ⟨s, b, x, g1, g3, g4⟩ := len_sym0 m h0 h1 200 (Nat.le_refl _)
  have e : lenS m = s := by unfold lenS; rw [g1]; rfl
  exact ⟨b, x, by rw [e]; exact at_rounds (block_LengthSymbol.mono m) hk g1⟩
theorem distS_at (d : Int) (h0 : 1 ≤ d) (h1 : d ≤ 32768) (k : Nat) (hk : 200 ≤ k) : ∃ b x, block_DistSymbol.f k d = some (distS d, b, x, 0) := by
  obtain ⟨s, b, x, g1, g3, g4⟩ := dist_sym0 d h0 h1 200 (Nat.le_refl _)
  have e : distS d = s := by unfold distS; rw [g1]; rfl
  exact ⟨b, x, by rw [e]; exact at_rounds (block_DistSymbol.mono d) hk g1⟩
/-- What both symbols tell of any token. -/
theorem syms (m d : Int) : ∃ s b x e s2 b2 x2 e2 : Int, (∀ k, 200 ≤ k → block_LengthSymbol.f (k + 1) m = some (s, b, x, e) ∧ block_DistSymbol.f (k + 1) d = some (s2, b2, x2, e2)) ∧ (3 ≤ m ∧ m ≤ 258 → s = lenS m ∧ e = 0) ∧ (1 ≤ d ∧ d ≤ 32768 → s2 = distS d ∧ e2 = 0) ∧ (e = 0 → 3 ≤ m ∧ m ≤ 258) ∧ (e2 = 0 → 1 ≤ d ∧ d ≤ 32768) := by
  have a : ∃ s b x e : Int, (∀ k, 200 ≤ k → block_LengthSymbol.f (k + 1) m = some (s, b, x, e)) ∧ (3 ≤ m ∧ m ≤ 258 → s = lenS m ∧ e = 0) ∧ (e = 0 → 3 ≤ m ∧ m ≤ 258) := by
    by_cases h : 3 ≤ m ∧ m ≤ 258
    · obtain ⟨b, x, g⟩ := lenS_at m h.1 h.2 200 (Nat.le_refl _)
      exact ⟨lenS m, b, x, 0, fun k hk => at_rounds (block_LengthSymbol.mono m) (by omega) g, fun _ => ⟨rfl, rfl⟩, fun _ => h⟩
    · exact ⟨0, 0, 0, 1, fun k hk => len_no0 m (by omega) k, fun h' => absurd h' h, fun h' => absurd h' (by decide)⟩
  have b : ∃ s b x e : Int, (∀ k, 200 ≤ k → block_DistSymbol.f (k + 1) d = some (s, b, x, e)) ∧ (1 ≤ d ∧ d ≤ 32768 → s = distS d ∧ e = 0) ∧ (e = 0 → 1 ≤ d ∧ d ≤ 32768) := by
    by_cases h : 1 ≤ d ∧ d ≤ 32768
    · obtain ⟨b, x, g⟩ := distS_at d h.1 h.2 200 (Nat.le_refl _)
      exact ⟨distS d, b, x, 0, fun k hk => at_rounds (block_DistSymbol.mono d) (by omega) g, fun _ => ⟨rfl, rfl⟩, fun _ => h⟩
    · exact ⟨0, 0, 0, 1, fun k hk => dist_no0 d (by omega) k, fun h' => absurd h' h, fun h' => absurd h' (by decide)⟩
  obtain ⟨s, b1, x, e, a1, a2, a3⟩ := a
  obtain ⟨s2, b2, x2, e2, c1, c2, c3⟩ := b
  exact ⟨s, b1, x, e, s2, b2, x2, e2, fun k hk => ⟨a1 k hk, c1 k hk⟩, a2, c2, a3, c3⟩
theorem PP_bound {dist : List Int} (hd : dist.length = 30) (hk : squeeze_fair.ok dist = true) (d : Int) (h0 : 1 ≤ d) (h1 : d ≤ 32768) : 1 ≤ PP dist d ∧ PP dist d ≤ 65536 := by
  have := distS_in d h0 h1
  exact ok_bound hk (distS d) (by omega) (by omega)
theorem LL_bound {lit : List Int} (hl : lit.length = 286) (hk : squeeze_fair.ok lit = true) (m : Int) (h0 : 3 ≤ m) (h1 : m ≤ 258) : 1 ≤ LL lit m ∧ LL lit m ≤ 65536 := by
  have := lenS_in m h0 h1
  rw [LL_of lit m h0 h1]
  exact ok_bound hk (lenS m) (by omega) (by omega)
/-- costs answers for any tokens; of a row that says data: whether it keeps within the window, and its sum. -/
theorem costs_run (lit dist data : List Int) (W : Int) (z1 : lit.length = 286) (z2 : dist.length = 30) (k1 : squeeze_fair.ok lit = true) (k2 : squeeze_fair.ok dist = true) (hb : ∀ x ∈ data, 0 ≤ x ∧ x ≤ 255) (hbig : data.length ≤ 65536) : ∀ (suf pre : List S56) (s : Int), (∀ t ∈ suf, 0 ≤ t.f2 ∧ t.f2 ≤ 255) → (pre ++ suf).length ≤ 9223372036854775806 →
    ∃ c b, Lands (fun k => valiselaw21_costs.l0 k (pre ++ suf) W lit dist s (pre.length : Int)) (c, b) ∧ ∀ i : Int, 0 ≤ i → SaysRow data i suf → 0 ≤ s → s ≤ 131072 * i → (b = true ↔ (∀ t ∈ suf, t.f0 = 0 ∨ t.f1 ≤ W)) ∧ (b = true → c = s + sumOf lit dist suf) := by
  intro suf
  induction suf with
  | nil =>
    intro pre s _ _
    refine ⟨s, true, Lands.const (fun k => by rw [List.append_nil, valiselaw21_costs.l0, if_neg (by omega)]), fun i _ _ _ _ => ⟨⟨(fun _ t ht => by cases ht), fun _ => rfl⟩, fun _ => by simp [sumOf]⟩⟩
  | cons t r ih =>
    intro pre s ht hn
    have hl : (pre ++ t :: r).length = pre.length + (r.length + 1) := by simp
    have e7 : pre ++ t :: r = (pre ++ [t]) ++ r := by simp
    have e6 : wrap64 ((pre.length : Int) + 1) = ((pre ++ [t]).length : Int) := by rw [wrap_id (by omega) (by omega)]; simp
    have htb := ht t (by simp)
    have hw : wrap64 t.f2 = t.f2 := wrap_id (by omega) (by omega)
    have first : ∀ k, valiselaw21_costs.l0 (k + 1) (pre ++ t :: r) W lit dist s (pre.length : Int) = valiselaw21_costs.j1 k (pre ++ t :: r) W lit dist s (pre.length : Int) (decide (t.f0 = 0 ∧ t.f1 = 0)) t.f0 t.f1 t.f2 := by
      intro k
      rw [valiselaw21_costs.l0, if_pos (by omega), if_pos (by omega), rdT_at]
      by_cases a0 : t.f0 = 0
      · rw [if_pos a0]
        by_cases a1 : t.f1 = 0
        · rw [decide_eq_true ⟨a0, a1⟩, show (t.f1 == 0) = true from beq_iff_eq.2 a1]
        · rw [decide_eq_false (fun h => a1 h.2), show (t.f1 == 0) = false from beq_eq_false_iff_ne.2 a1]
      · rw [if_neg a0, decide_eq_false (fun h => a0 h.1)]
    by_cases hA : t.f0 = 0 ∧ t.f1 = 0
    · obtain ⟨c, b, g1, g2⟩ := ih (pre ++ [t]) (wrap64 (s + rd lit t.f2)) (fun x hx => ht x (List.mem_cons_of_mem _ hx)) (by rw [← e7]; exact hn)
      rw [← e7, ← e6] at g1
      refine ⟨c, b, (g1.step (g := fun k => valiselaw21_costs.j1 k (pre ++ t :: r) W lit dist s (pre.length : Int) true t.f0 t.f1 t.f2) (fun k => ?_)).step (fun k => ?_), fun i h0 hs hs0 hs1 => ?_⟩
      · rw [valiselaw21_costs.j1, if_pos rfl, hw, if_pos htb.1, if_pos (by omega)]
      · rw [first k, decide_eq_true hA]
      · rcases hs with ⟨a1, a2, a3, a4, a5⟩ | ⟨a1, _⟩
        · have hq := ok_bound k1 t.f2 htb.1 (by omega)
          have hws : wrap64 (s + rd lit t.f2) = s + rd lit t.f2 := wrap_id (by omega) (by omega)
          rw [hws] at g2
          obtain ⟨q1, q2⟩ := g2 (i + 1) (by omega) a5 (by omega) (by omega)
          refine ⟨q1.trans ⟨fun h x hx => ?_, fun h x hx => h x (List.mem_cons_of_mem _ hx)⟩, fun hbt => ?_⟩
          · rcases List.mem_cons.1 hx with rfl | hx
            · exact .inl a1
            · exact h x hx
          · rw [q2 hbt, sumOf]
            unfold costOf
            rw [if_pos a1]
            omega
        · omega
    · obtain ⟨sl, bl, xl, el, sd, bd, xd, ed, hsy, p1, p2, p3, p4⟩ := syms t.f0 t.f1
      have second : ∀ k, 200 ≤ k → valiselaw21_costs.j1 (k + 1 + 1) (pre ++ t :: r) W lit dist s (pre.length : Int) false t.f0 t.f1 t.f2 = (if el = 0 then (if ed = 0 then (if t.f2 = 0 then (if t.f1 > W then (some (0, false)) else (if sl < 257 then (some (0, false)) else (if sl > 285 then (some (0, false)) else (if sd < 0 then (some (0, false)) else (if sd > 29 then (some (0, false)) else (if 0 ≤ sl then (if sl < (lit.length : Int) then (if 0 ≤ sd then (if sd < (dist.length : Int) then (valiselaw21_costs.l0 (k + 1) (pre ++ t :: r) W lit dist (wrap64 ((wrap64 (s + (rd lit sl))) + (rd dist sd))) (wrap64 ((pre.length : Int) + 1))) else (none)) else (none)) else (none)) else (none))))))) else (some (0, false))) else (some (0, false))) else (some (0, false))) := by
        intro k hk
        rw [valiselaw21_costs.j1, if_neg (by decide), (hsy k hk).1, Option.bind_some, (hsy k hk).2, Option.bind_some]
      have no : (el ≠ 0 ∨ ed ≠ 0 ∨ t.f2 ≠ 0 ∨ W < t.f1) → Lands (fun k => valiselaw21_costs.l0 k (pre ++ t :: r) W lit dist s (pre.length : Int)) (0, false) := by
        intro hno
        refine ⟨204, fun k hk => ?_⟩
        obtain ⟨k, rfl⟩ : ∃ q, k = q + 1 + 1 + 1 := ⟨k - 3, by omega⟩
        simp only
        rw [first, decide_eq_false hA, second k (by omega)]
        by_cases c1 : el = 0
        · rw [if_pos c1]
          by_cases c2 : ed = 0
          · rw [if_pos c2]
            by_cases c3 : t.f2 = 0
            · rw [if_pos c3, if_pos (by omega)]
            · rw [if_neg c3]
          · rw [if_neg c2]
        · rw [if_neg c1]
      by_cases hgood : el = 0 ∧ ed = 0 ∧ t.f2 = 0 ∧ t.f1 ≤ W
      · obtain ⟨c1, c2, c3, c4⟩ := hgood
        obtain ⟨m0, m1⟩ := p3 c1
        obtain ⟨d0, d1⟩ := p4 c2
        have hsl := (p1 ⟨m0, m1⟩).1
        have hsd := (p2 ⟨d0, d1⟩).1
        have i1 := lenS_in t.f0 m0 m1
        have i2 := distS_in t.f1 d0 d1
        obtain ⟨c, b, g1, g2⟩ := ih (pre ++ [t]) (wrap64 (wrap64 (s + rd lit sl) + rd dist sd)) (fun x hx => ht x (List.mem_cons_of_mem _ hx)) (by rw [← e7]; exact hn)
        rw [← e7, ← e6] at g1
        refine ⟨c, b, ?_, fun i h0 hs hs0 hs1 => ?_⟩
        · obtain ⟨K, hK⟩ := g1
          refine ⟨K + 204, fun k hk => ?_⟩
          obtain ⟨k, rfl⟩ : ∃ q, k = q + 1 + 1 + 1 := ⟨k - 3, by omega⟩
          simp only
          rw [first, decide_eq_false hA, second k (by omega), if_pos c1, if_pos c2, if_pos c3, if_neg (by omega), if_neg (by omega), if_neg (by omega), if_neg (by omega), if_neg (by omega), if_pos (by omega), if_pos (by omega), if_pos (by omega), if_pos (by omega)]
          exact hK (k + 1) (by omega)
        · rcases hs with ⟨a1, a2, _⟩ | ⟨a1, a2, a3, a4, a5, a6⟩
          · exact absurd ⟨a1, a2⟩ hA
          · have hq1 := LL_bound z1 k1 t.f0 m0 m1
            have hq2 := PP_bound z2 k2 t.f1 d0 d1
            have e1 : rd lit sl = LL lit t.f0 := by rw [LL_of lit t.f0 m0 m1, hsl]
            have e2 : rd dist sd = PP dist t.f1 := by unfold PP; rw [hsd]
            have him := a5.2.2.1
            have hws : wrap64 (wrap64 (s + rd lit sl) + rd dist sd) = s + LL lit t.f0 + PP dist t.f1 := by
              rw [e1, e2, show wrap64 (s + LL lit t.f0) = s + LL lit t.f0 from wrap_id (by omega) (by omega)]
              exact wrap_id (by omega) (by omega)
            rw [hws] at g2
            obtain ⟨q1, q2⟩ := g2 (i + t.f0) (by omega) a6 (by omega) (by omega)
            refine ⟨q1.trans ⟨fun h x hx => ?_, fun h x hx => h x (List.mem_cons_of_mem _ hx)⟩, fun hbt => ?_⟩
            · rcases List.mem_cons.1 hx with rfl | hx
              · exact .inr c4
              · exact h x hx
            · rw [q2 hbt, sumOf]
              unfold costOf
              rw [if_neg (by omega)]
              omega
      · refine ⟨0, false, no (by omega), fun i h0 hs hs0 hs1 => ?_⟩
        rcases hs with ⟨a1, a2, _⟩ | ⟨a1, a2, a3, a4, a5, a6⟩
        · exact absurd ⟨a1, a2⟩ hA
        · have hel := (p1 ⟨a1, a2⟩).2
          have hed := (p2 ⟨a5.1, a3⟩).2
          refine ⟨⟨(fun h => by cases h), fun h => ?_⟩, (fun h => by cases h)⟩
          have := h t (by simp)
          omega
/-! ### Expand -/
def copyN (d : Int) : Nat → List Int → List Int
  | 0, out => out
  | n + 1, out => copyN d n (out ++ [rd out ((out.length : Int) - d)])
theorem copyN_len (d : Int) : ∀ (n : Nat) (out : List Int), (copyN d n out).length = out.length + n := by
  intro n
  induction n with
  | zero => intro out; rfl
  | succ n ih => intro out; rw [copyN, ih, List.length_append]; simp; omega
theorem copyN_pre (d : Int) : ∀ (n : Nat) (out : List Int), ∃ e, copyN d n out = out ++ e := by
  intro n
  induction n with
  | zero => intro out; exact ⟨[], by simp [copyN]⟩
  | succ n ih =>
    intro out
    obtain ⟨e, he⟩ := ih (out ++ [rd out ((out.length : Int) - d)])
    exact ⟨rd out ((out.length : Int) - d) :: e, by rw [copyN, he, List.append_assoc]; rfl⟩
theorem rd_app (a b : List Int) (j : Int) (h0 : 0 ≤ j) (h1 : j < (a.length : Int)) : rd (a ++ b) j = rd a j := by
  unfold rd
  rw [List.getD_eq_getElem?_getD, List.getElem?_append_left (by omega), List.getD_eq_getElem?_getD]
theorem rd_last (a : List Int) (x : Int) (b : List Int) : rd (a ++ x :: b) (a.length : Int) = x := by unfold rd; simp [List.getD]
theorem copyN_eq (d : Int) (hd : 1 ≤ d) : ∀ (n : Nat) (out : List Int), d ≤ (out.length : Int) → ∀ j : Int, (out.length : Int) ≤ j → j < (out.length : Int) + n → rd (copyN d n out) j = rd (copyN d n out) (j - d) := by
  intro n
  induction n with
  | zero => intro out _ j h0 h1; omega
  | succ n ih =>
    intro out hdo j h0 h1
    rw [copyN]
    by_cases hj : j = (out.length : Int)
    · obtain ⟨e, he⟩ := copyN_pre d n (out ++ [rd out ((out.length : Int) - d)])
      rw [he, hj, List.append_assoc]
      show rd (out ++ rd out ((out.length : Int) - d) :: e) _ = rd (out ++ rd out ((out.length : Int) - d) :: e) _
      rw [rd_last, rd_app _ _ _ (by omega) (by omega)]
    · exact ih _ (by rw [List.length_append]; simp; omega) j (by rw [List.length_append]; simp; omega) (by rw [List.length_append]; simp; omega)
theorem rd_take (l : List Int) (n : Nat) (j : Int) (h0 : 0 ≤ j) (h1 : j < (n : Int)) : rd (l.take n) j = rd l j := by
  unfold rd
  rw [List.getD_eq_getElem?_getD, List.getElem?_take, if_pos (by omega), List.getD_eq_getElem?_getD]
theorem take_snoc (l : List Int) (n : Nat) (h : n < l.length) : l.take (n + 1) = l.take n ++ [rd l (n : Int)] := by
  rw [List.take_add_one, List.getElem?_eq_getElem h]
  unfold rd
  simp [List.getD, List.getElem?_eq_getElem h]
theorem copyN_says (data : List Int) (d : Int) : ∀ (n : Nat) (i : Nat), Says data (i : Int) (n : Int) d → copyN d n (data.take i) = data.take (i + n) := by
  intro n
  induction n with
  | zero => intro i _; rfl
  | succ n ih =>
    intro i h
    have him := h.2.2.1
    have hil : (data.take i).length = i := by rw [List.length_take]; omega
    have h1 := (says_step data (i : Int) ((n + 1 : Nat) : Int) d h.1 (by omega) (by omega) (by omega)).1 h
    rw [copyN, hil, rd_take _ _ _ (by have := h.2.1; omega) (by have := h.1; omega), h1.2.1, ← take_snoc data i (by omega)]
    by_cases hn : n = 0
    · subst hn; rfl
    · rcases h1.2.2 with h2 | h2
      · omega
      · rw [show i + (n + 1) = (i + 1) + n by omega]
        exact ih (i + 1) (by rw [show ((i + 1 : Nat) : Int) = (i : Int) + 1 by omega, show (n : Int) = ((n + 1 : Nat) : Int) - 1 by omega]; exact h2)
theorem copy_loop (x1 : Int) (toks : List S56) (len idx m d f2 : Int) (hd : 1 ≤ d) (hm : m ≤ 258) : ∀ (n : Nat) (out : List Int) (j : Int), 0 ≤ j → j + n = m → d ≤ (out.length : Int) → out.length + n ≤ 65536 → ∀ a, Lands (fun k => match_Expand.l0 k x1 (copyN d n out) toks len (wrap64 (idx + 1))) a →
    Lands (fun k => match_Expand.l1 k x1 out toks len idx m j m d f2) a := by
  intro n
  induction n with
  | zero =>
    intro out j h0 hj hdo hb a ha
    exact ha.step (fun k => by rw [match_Expand.l1, if_neg (by omega)]; rfl)
  | succ n ih =>
    intro out j h0 hj hdo hb a ha
    rw [copyN] at ha
    refine (ih _ (j + 1) (by omega) (by omega) (by rw [List.length_append]; simp; omega) (by rw [List.length_append]; simp; omega) a ha).step (fun k => ?_)
    have w1 : wrap64 ((out.length : Int) - d) = (out.length : Int) - d := wrap_id (by omega) (by omega)
    rw [match_Expand.l1, if_pos (by omega), w1, if_pos (by omega), if_pos (by omega), if_pos (by omega), wrap_id (by omega) (by omega)]
def soundT (t : S56) : Prop := (t.f0 = 0 ∧ t.f1 = 0) ∨ (3 ≤ t.f0 ∧ t.f0 ≤ 258 ∧ 1 ≤ t.f1 ∧ t.f1 ≤ 32768 ∧ t.f2 = 0)
theorem sound_eq (t : S56) : ∃ b, match_sound.f t.f0 t.f1 t.f2 = some b ∧ (b = true ↔ soundT t) := by
  unfold match_sound.f soundT
  by_cases h0 : t.f0 = 0
  · rw [if_pos h0]
    refine ⟨_, rfl, ?_⟩
    rw [beq_iff_eq]
    omega
  · rw [if_neg h0]
    by_cases h1 : t.f0 ≥ 3
    · rw [if_pos h1]
      by_cases h2 : t.f0 ≤ 258
      · rw [if_pos h2]
        by_cases h3 : t.f1 ≥ 1
        · rw [if_pos h3]
          by_cases h4 : t.f1 ≤ 32768
          · rw [if_pos h4]
            refine ⟨_, rfl, ?_⟩
            rw [beq_iff_eq]
            omega
          · rw [if_neg h4]
            exact ⟨_, rfl, ⟨(fun h => by cases h), (fun h => by omega)⟩⟩
        · rw [if_neg h3]
          exact ⟨_, rfl, ⟨(fun h => by cases h), (fun h => by omega)⟩⟩
      · rw [if_neg h2]
        exact ⟨_, rfl, ⟨(fun h => by cases h), (fun h => by omega)⟩⟩
    · rw [if_neg h1]
      exact ⟨_, rfl, ⟨(fun h => by cases h), (fun h => by omega)⟩⟩
theorem take_all (data out : List Int) (h : out = data.take out.length) : out.length ≤ data.length := by
  have := congrArg List.length h
  rw [List.length_take] at this
  omega
/-- Expand answers for any tokens; it answers data for just the rows that say data. -/
theorem expand_run (data : List Int) (hbig : data.length ≤ 65536) : ∀ (suf pre : List S56) (out : List Int), out.length ≤ data.length → (pre ++ suf).length ≤ 9223372036854775806 →
    ∃ text e, Lands (fun k => match_Expand.l0 k (data.length : Int) out (pre ++ suf) ((pre ++ suf).length : Int) (pre.length : Int)) (text, e) ∧ (e = 0 → ∃ s, text = out ++ s) ∧ (e = 0 → text = data → SaysRow data (out.length : Int) suf) ∧ (out = data.take out.length → SaysRow data (out.length : Int) suf → e = 0 ∧ text = data) := by
  intro suf
  induction suf with
  | nil =>
    intro pre out ho _
    refine ⟨out, 0, Lands.const (fun k => by rw [List.append_nil, match_Expand.l0, if_neg (by omega)]), fun _ => ⟨[], by simp⟩, fun _ h => by show (out.length : Int) = _; rw [h], fun h1 h2 => ⟨rfl, ?_⟩⟩
    have h3 : (out.length : Int) = (data.length : Int) := h2
    rw [h1, show out.length = data.length by omega, List.take_length]
  | cons t r ih =>
    intro pre out ho hn
    have hl : (pre ++ t :: r).length = pre.length + (r.length + 1) := by simp
    have e7 : pre ++ t :: r = (pre ++ [t]) ++ r := by simp
    have e6 : wrap64 ((pre.length : Int) + 1) = ((pre ++ [t]).length : Int) := by rw [wrap_id (by omega) (by omega)]; simp
    obtain ⟨b, hb, hbs⟩ := sound_eq t
    have w1 : wrap64 ((data.length : Int) - (out.length : Int)) = (data.length : Int) - (out.length : Int) := wrap_id (by omega) (by omega)
    have first : ∀ k, match_Expand.l0 (k + 1) (data.length : Int) out (pre ++ t :: r) ((pre ++ t :: r).length : Int) (pre.length : Int) = (if b = true then (if t.f1 > (out.length : Int) then (some (([] : List Int), 91)) else (if (mx 1 t.f0) > (data.length : Int) - (out.length : Int) then (some (([] : List Int), 92)) else (if t.f0 = 0 then (if out.length < 140737488355328 then (match_Expand.j2 k (data.length : Int) (out ++ [t.f2]) (pre ++ t :: r) ((pre ++ t :: r).length : Int) (pre.length : Int) t.f0 t.f1 t.f2) else (none)) else (match_Expand.j2 k (data.length : Int) out (pre ++ t :: r) ((pre ++ t :: r).length : Int) (pre.length : Int) t.f0 t.f1 t.f2)))) else (some (([] : List Int), 90))) := by
      intro k
      rw [match_Expand.l0, if_pos (by omega), if_pos (by omega), if_pos (by omega), rdT_at, hb, Option.bind_some, w1]
    by_cases hs : b = true
    rotate_left
    · refine ⟨[], 90, Lands.const (fun k => by rw [first k, if_neg hs]), (fun h => by cases h), (fun h => by cases h), fun h1 h2 => ?_⟩
      exfalso
      apply hs
      rw [hbs]
      rcases h2 with ⟨a1, a2, _⟩ | ⟨a1, a2, a3, a4, a5, _⟩
      · exact .inl ⟨a1, a2⟩
      · exact .inr ⟨a1, a2, a5.1, a3, a4⟩
    have hsd := hbs.1 hs
    by_cases c1 : t.f1 > (out.length : Int)
    · refine ⟨[], 91, Lands.const (fun k => by rw [first k, if_pos hs, if_pos c1]), (fun h => by cases h), (fun h => by cases h), fun h1 h2 => ?_⟩
      exfalso
      rcases h2 with ⟨a1, a2, _⟩ | ⟨a1, a2, a3, a4, a5, _⟩
      · omega
      · have := a5.2.1; omega
    by_cases c2 : mx 1 t.f0 > (data.length : Int) - (out.length : Int)
    · refine ⟨[], 92, Lands.const (fun k => by rw [first k, if_pos hs, if_neg c1, if_pos c2]), (fun h => by cases h), (fun h => by cases h), fun h1 h2 => ?_⟩
      exfalso
      unfold mx at c2
      rcases h2 with ⟨a1, a2, a3, _⟩ | ⟨a1, a2, a3, a4, a5, _⟩
      · rw [a1, if_neg (by decide)] at c2; omega
      · rw [if_pos (by omega)] at c2
        have := a5.2.2.1; omega
    rcases hsd with ⟨s0, s1⟩ | ⟨s0, s1, s2, s3, s4⟩
    · have hone : mx 1 t.f0 = 1 := by rw [s0]; rfl
      obtain ⟨text, e, g1, g2, g3, g4⟩ := ih (pre ++ [t]) (out ++ [t.f2]) (by rw [List.length_append]; simp; omega) (by rw [← e7]; exact hn)
      rw [← e7, ← e6] at g1
      have hlen : ((out ++ [t.f2]).length : Int) = (out.length : Int) + 1 := by simp
      refine ⟨text, e, ?_, fun he => ?_, fun he ht => ?_, fun h1 h2 => ?_⟩
      · refine ((g1.step (g := fun k => match_Expand.l1 k (data.length : Int) (out ++ [t.f2]) (pre ++ t :: r) ((pre ++ t :: r).length : Int) (pre.length : Int) t.f0 0 t.f0 t.f1 t.f2) (fun k => ?_)).step (g := fun k => match_Expand.j2 k (data.length : Int) (out ++ [t.f2]) (pre ++ t :: r) ((pre ++ t :: r).length : Int) (pre.length : Int) t.f0 t.f1 t.f2) (fun k => ?_)).step (fun k => ?_)
        · rw [match_Expand.l1, if_neg (by omega)]
        · rw [match_Expand.j2]
        · rw [first k, if_pos hs, if_neg c1, if_neg c2, if_pos s0, if_pos (by omega)]
      · obtain ⟨s, hs⟩ := g2 he
        exact ⟨t.f2 :: s, by rw [hs]; simp⟩
      · have h3 := g3 he ht
        obtain ⟨s, hs⟩ := g2 he
        rw [hlen] at h3
        refine .inl ⟨s0, s1, by omega, ?_, h3⟩
        rw [← ht, hs, List.append_assoc]
        exact (rd_last out t.f2 s).symm
      · rcases h2 with ⟨a1, a2, a3, a4, a5⟩ | ⟨a1, _⟩
        · refine g4 ?_ (by rw [hlen]; exact a5)
          rw [List.length_append, List.length_singleton, take_snoc data out.length (by omega), ← h1, a4]
        · omega
    · have hmx : mx 1 t.f0 = t.f0 := by unfold mx; rw [if_pos (by omega)]
      rw [hmx] at c2
      obtain ⟨n, hnn⟩ : ∃ n : Nat, t.f0 = (n : Int) := ⟨t.f0.toNat, by omega⟩
      obtain ⟨text, e, g1, g2, g3, g4⟩ := ih (pre ++ [t]) (copyN t.f1 n out) (by rw [copyN_len]; omega) (by rw [← e7]; exact hn)
      rw [← e7, ← e6] at g1
      have hlen : ((copyN t.f1 n out).length : Int) = (out.length : Int) + t.f0 := by rw [copyN_len]; omega
      obtain ⟨ex, hex⟩ := copyN_pre t.f1 n out
      refine ⟨text, e, ?_, fun he => ?_, fun he ht => ?_, fun h1 h2 => ?_⟩
      · refine ((copy_loop (data.length : Int) (pre ++ t :: r) ((pre ++ t :: r).length : Int) (pre.length : Int) t.f0 t.f1 t.f2 s2 s1 n out 0 (by omega) (by omega) (by omega) (by omega) _ g1).step (g := fun k => match_Expand.j2 k (data.length : Int) out (pre ++ t :: r) ((pre ++ t :: r).length : Int) (pre.length : Int) t.f0 t.f1 t.f2) (fun k => ?_)).step (fun k => ?_)
        · rw [match_Expand.j2]
        · rw [first k, if_pos hs, if_neg c1, hmx, if_neg c2, if_neg (by omega)]
      · obtain ⟨s, hs⟩ := g2 he
        exact ⟨ex ++ s, by rw [hs, hex, List.append_assoc]⟩
      · have h3 := g3 he ht
        obtain ⟨s, hs⟩ := g2 he
        rw [hlen] at h3
        refine .inr ⟨s0, s1, s3, s4, ⟨s2, by omega, by omega, fun j j0 j1 => ?_⟩, h3⟩
        have q := copyN_eq t.f1 s2 n out (by omega) ((out.length : Int) + j) (by omega) (by omega)
        have hcl := copyN_len t.f1 n out
        rw [← ht, hs, rd_app _ _ _ (by omega) (by omega), rd_app _ _ _ (by omega) (by omega)]
        exact q.symm
      · rcases h2 with ⟨a1, _⟩ | ⟨a1, a2, a3, a4, a5, a6⟩
        · omega
        · refine g4 ?_ (by rw [hlen]; exact a6)
          have h5 := copyN_says data t.f1 n out.length (by rw [← hnn]; exact a5)
          rw [← h1] at h5
          rw [copyN_len]
          exact h5
theorem expand_whole (data : List Int) (hbig : data.length ≤ 65536) (l : List S56) (hl : l.length ≤ 9223372036854775806) : ∃ text e, Lands (fun k => match_Expand.f k l (data.length : Int)) (text, e) ∧ (e = 0 → text = data → SaysRow data 0 l) ∧ (SaysRow data 0 l → e = 0 ∧ text = data) := by
  obtain ⟨text, e, g1, g2, g3, g4⟩ := expand_run data hbig l [] [] (by simp) (by simpa using hl)
  refine ⟨text, e, ?_, g3, fun h => g4 (by simp) h⟩
  have h := g1.step (g := fun k => match_Expand.j0 k l (data.length : Int) false) (fun k => by rw [match_Expand.j0, if_neg (by decide)]; rfl)
  obtain ⟨K, hK⟩ := h
  refine ⟨K, fun k hk => ?_⟩
  show match_Expand.f k l (data.length : Int) = _
  unfold match_Expand.f
  rw [if_neg (by omega), decide_eq_false (by omega)]
  exact hK k hk
/-! ### cheapest -/
theorem costs_whole (lit dist data : List Int) (W : Int) (hW : 0 ≤ W) (z1 : lit.length = 286) (z2 : dist.length = 30) (k1 : squeeze_fair.ok lit = true) (k2 : squeeze_fair.ok dist = true) (hb : ∀ x ∈ data, 0 ≤ x ∧ x ≤ 255) (hbig : data.length ≤ 65536) (l : List S56) (hl : l.length ≤ 9223372036854775806) (hlb : ∀ t ∈ l, 0 ≤ t.f2 ∧ t.f2 ≤ 255) :
    ∃ c b, Lands (fun k => valiselaw21_costs.f k l W lit dist) (c, b) ∧ (SaysRow data 0 l → (b = true ↔ InWin W l) ∧ (b = true → c = sumOf lit dist l)) := by
  obtain ⟨c, b, g1, g2⟩ := costs_run lit dist data W z1 z2 k1 k2 hb hbig l [] 0 hlb (by simpa using hl)
  refine ⟨c, b, g1, fun h => ?_⟩
  obtain ⟨q1, q2⟩ := g2 0 (by omega) h (by omega) (by omega)
  have says0 : ∀ (l : List S56) (i : Int), SaysRow data i l → ∀ t ∈ l, t.f0 = 0 → t.f1 = 0 := by
    intro l
    induction l with
    | nil => intro i _ t ht; cases ht
    | cons a r ih =>
      intro i hs t ht h0
      rcases hs with ⟨a1, a2, a3, a4, a5⟩ | ⟨a1, a2, a3, a4, a5, a6⟩
      · rcases List.mem_cons.1 ht with rfl | ht
        · exact a2
        · exact ih _ a5 t ht h0
      · rcases List.mem_cons.1 ht with rfl | ht
        · omega
        · exact ih _ a6 t ht h0
  refine ⟨q1.trans ⟨fun hh t ht => ?_, fun hh t ht => .inr (hh t ht)⟩, fun hh => by rw [q2 hh]; omega⟩
  rcases hh t ht with h0 | h1
  · rw [says0 l 0 h t ht h0]; exact hW
  · exact h1
theorem says_bytes {data : List Int} (hb : ∀ x ∈ data, 0 ≤ x ∧ x ≤ 255) : ∀ (l : List S56) (i : Int), 0 ≤ i → SaysRow data i l → ∀ t ∈ l, 0 ≤ t.f2 ∧ t.f2 ≤ 255 := by
  intro l
  induction l with
  | nil => intro i _ _ t ht; cases ht
  | cons a r ih =>
    intro i h0 hs t ht
    rcases hs with ⟨a1, a2, a3, a4, a5⟩ | ⟨a1, a2, a3, a4, a5, a6⟩
    · rcases List.mem_cons.1 ht with rfl | ht
      · rw [a4]; exact bytes_rd hb i h0 a3
      · exact ih _ (by omega) a5 t ht
    · rcases List.mem_cons.1 ht with rfl | ht
      · omega
      · exact ih _ (by omega) a6 t ht
/-- What is told of Cheapest where nothing is refused: its row says data within the window; its cost is the least. -/
theorem least (data lit dist : List Int) (W : Int) (hb : ∀ x ∈ data, 0 ≤ x ∧ x ≤ 255) (hn : data.length ≤ 65536) (hW : 1 ≤ W ∧ W ≤ 32768) (hg : squeeze_fair.g lit dist = true) :
    ∃ r c, squeeze_Cheapest.f data W lit dist = some (r, 0) ∧ SaysRow data 0 r ∧ InWin W r ∧ sumOf lit dist r = c ∧ (∀ l, SaysRow data 0 l → InWin W l → c ≤ sumOf lit dist l) := by
  obtain ⟨R, T, r, f1, f2, f3, f4⟩ := cheapest_fair data lit dist W hb hn hW hg
  obtain ⟨l, e1, e2, e3, e4⟩ := row_own (by omega) hW.2 f2 f3 hn (data.length + 1) 0 [] r (by omega) (by omega) f4
  rw [List.nil_append] at e1
  subst e1
  exact ⟨r, rd R 0, f1, e2, e3, e4, fun l h1 h2 => row_least f2 l 0 (by omega) h1 h2⟩
theorem fair_parts {lit dist : List Int} (hg : squeeze_fair.g lit dist = true) : lit.length = 286 ∧ dist.length = 30 ∧ squeeze_fair.ok lit = true ∧ squeeze_fair.ok dist = true := by
  unfold squeeze_fair.g at hg
  simp only [Bool.and_eq_true, beq_iff_eq] at hg
  exact ⟨hg.1.1.1, hg.1.1.2, hg.1.2, hg.2⟩
/-- The law's cheapest. -/
theorem cheapest_lands (data lit dist : List Int) (W : Int) (hb : ∀ x ∈ data, 0 ≤ x ∧ x ≤ 255) (hn : data.length ≤ 65536) (hW : 1 ≤ W ∧ W ≤ 32768) (hg : squeeze_fair.g lit dist = true) :
    ∃ r c, squeeze_Cheapest.f data W lit dist = some (r, 0) ∧ SaysRow data 0 r ∧ InWin W r ∧ sumOf lit dist r = c ∧ (∀ l, SaysRow data 0 l → InWin W l → c ≤ sumOf lit dist l) ∧ Lands (fun k => valiselaw21_cheapest.f k data W lit dist) (c, true) := by
  obtain ⟨r, c, f1, f2, f3, f4, f5⟩ := least data lit dist W hb hn hW hg
  obtain ⟨z1, z2, k1, k2⟩ := fair_parts hg
  have hrl := says_length f2
  have hrb := says_bytes hb r 0 (by omega) f2
  obtain ⟨text, e, x1, x2, x3⟩ := expand_whole data hn r (by omega)
  obtain ⟨rfl, rfl⟩ := x3 f2
  obtain ⟨c', b, y1, y2⟩ := costs_whole lit dist text W (by omega) z1 z2 k1 k2 hb hn r (by omega) hrb
  obtain ⟨q1, q2⟩ := y2 f2
  have hbt := q1.2 f3
  subst hbt
  have hc : c' = c := by rw [q2 rfl, f4]
  subst hc
  refine ⟨r, c', f1, f2, f3, f4, f5, ?_⟩
  obtain ⟨K1, h1⟩ := x1
  obtain ⟨K2, h2⟩ := y1
  refine ⟨K1 + K2 + text.length + 1, fun k hk => ?_⟩
  have a1 := h1 k (by omega)
  have a2 := h2 k (by omega)
  simp only at a1 a2 ⊢
  unfold valiselaw21_cheapest.f
  rw [clone_eq text (by omega), Option.bind_some, ints_eq lit (by omega), Option.bind_some, ints_eq dist (by omega), Option.bind_some, f1, Option.bind_some]
  show (if (0 : Int) = 0 then _ else _) = _
  rw [if_pos rfl, list_eq r (by omega), Option.bind_some, a1, Option.bind_some]
  show (if (0 : Int) = 0 then _ else _) = _
  rw [if_pos rfl, same_self text (by omega) k (by omega), Option.bind_some, if_pos rfl, a2, Option.bind_some]
end Go.Proofs.YtpndhoefmepfdaaDoor.CheapMean
