/- valiselaw21.SqueezeCheapest: the program's Cheapest and the document's are one for all data, windows and prices. Plain law: no memory and no program. -/
import Derived.Test.YtpndhoefmepfdaaDoorCheapRef
import Derived.Test.YtpndhoefmepfdaaDoorSqSelf
import Derived.Test.YtpndhoefmepfdaaDoorPSqgD
namespace Go.Proofs.YtpndhoefmepfdaaDoor.CheapLaw
open Go.RowKit Go.Proofs.YtpndhoefmepfdaaDoor.PSq Go.Proofs.YtpndhoefmepfdaaDoor.CheapPure Go.Proofs.YtpndhoefmepfdaaDoor.CheapRef Go.Proofs.YtpndhoefmepfdaaDoor.CheapFair Go.Proofs.YtpndhoefmepfdaaDoor.TS Go.Proofs.YtpndhoefmepfdaaDoorW.PrintWords Go.Proofs.YtpndhoefmepfdaaDoorW.PrintLast
open Go.Proofs.YtpndhoefmepfdaaDoor.SqSelf (equal_self alike_self ints_eq copy_whole clone_eq same_self)
set_option linter.unusedVariables false
theorem Lands.bind {α β : Type} {g : Nat → Option α} {f : Nat → α → Option β} {a : α} {r : β} (h : Lands g a) (hf : Lands (fun k => f k a) r) : Lands (fun k => (g k).bind (f k)) r := by
  obtain ⟨K1, h1⟩ := h
  obtain ⟨K2, h2⟩ := hf
  exact ⟨K1 + K2, fun k hk => by simp only; rw [h1 k (by omega), Option.bind_some]; exact h2 k (by omega)⟩
theorem ref_all (l : List Int) (n : Nat) (hl : l.length ≤ 9223372036854775806) : Lands (fun k => valiseref21_all.f k l (n : Int)) (l.length == n && squeeze_fair.ok l) := ⟨l.length + 1, fun k hk => all_eq l n hl k (by omega)⟩
theorem fair_split (l1 l2 : List Int) : squeeze_fair.g l1 l2 = ((l1.length == 286 && squeeze_fair.ok l1) && (l2.length == 30 && squeeze_fair.ok l2)) := by
  unfold squeeze_fair.g
  cases (l1.length == 286) <;> cases (l2.length == 30) <;> cases squeeze_fair.ok l1 <;> rfl
/-- Both tell one row. -/
theorem cheapest_both (l0 l1 l2 : List Int) (a1 : Int) (hb : ∀ x ∈ l0, 0 ≤ x ∧ x ≤ 255) (h1 : l1.length ≤ 9223372036854775806) (h2 : l2.length ≤ 9223372036854775806) :
    ∃ r e, squeeze_Cheapest.f l0 a1 l1 l2 = some (r, e) ∧ Lands (fun k => valiseref21_Cheapest.f k l0 a1 l1 l2) (r, e) ∧ r.length ≤ 65537 := by
  by_cases hA : 65536 < l0.length ∨ a1 < 1 ∨ 32768 < a1
  · refine ⟨[], 1, by unfold squeeze_Cheapest.f; rw [if_pos hA], Lands.const (fun k => ?_), by simp⟩
    unfold valiseref21_Cheapest.f
    by_cases c1 : (l0.length : Int) > 65536
    · rw [if_pos c1, valiseref21_Cheapest.j0, if_pos rfl]
    · rw [if_neg c1]
      by_cases c2 : a1 < 1
      · rw [if_pos c2, valiseref21_Cheapest.j0, if_pos rfl]
      · rw [if_neg c2, decide_eq_true (by omega), valiseref21_Cheapest.j0, if_pos rfl]
  · have hn : l0.length ≤ 65536 := by omega
    have ha : 1 ≤ a1 ∧ a1 ≤ 32768 := by omega
    have start : ∀ a, Lands (fun k => valiseref21_Cheapest.j0 k l0 a1 l1 l2 false) a → Lands (fun k => valiseref21_Cheapest.f k l0 a1 l1 l2) a := by
      rintro a ⟨K, hK⟩
      refine ⟨K, fun k hk => ?_⟩
      show valiseref21_Cheapest.f k l0 a1 l1 l2 = _
      unfold valiseref21_Cheapest.f
      rw [if_neg (by omega), if_neg (by omega), decide_eq_false (by omega)]
      exact hK k hk
    have next : ∀ a, Lands (fun k => if (l1.length == 286 && squeeze_fair.ok l1) = true then valiseref21_Cheapest.j1 k l0 a1 l1 l2 (!(l2.length == 30 && squeeze_fair.ok l2)) else valiseref21_Cheapest.j1 k l0 a1 l1 l2 true) a → Lands (fun k => valiseref21_Cheapest.j0 k l0 a1 l1 l2 false) a := by
      intro a hl
      refine (Lands.bind (ref_all l1 286 h1) (Lands.bind (f := fun k t213 => if (l1.length == 286 && squeeze_fair.ok l1) = true then valiseref21_Cheapest.j1 k l0 a1 l1 l2 (!t213) else valiseref21_Cheapest.j1 k l0 a1 l1 l2 true) (ref_all l2 30 h2) hl) (f := fun k t212 => (valiseref21_all.f k l2 30).bind fun t213 => if t212 = true then valiseref21_Cheapest.j1 k l0 a1 l1 l2 (!t213) else valiseref21_Cheapest.j1 k l0 a1 l1 l2 true)).step (fun k => ?_)
      rw [valiseref21_Cheapest.j0, if_neg (by decide)]
      rfl
    by_cases hg : squeeze_fair.g l1 l2 = true
    · obtain ⟨R, T, r, f1, f2, f3, f4⟩ := cheapest_fair l0 l1 l2 a1 hb hn ha hg
      have hg2 := hg
      rw [fair_split, Bool.and_eq_true] at hg2
      obtain ⟨b1, b2⟩ := hg2
      have z1 : l1.length = 286 := by simpa using (Bool.and_eq_true_iff.1 b1).1
      have z2 : l2.length = 30 := by simpa using (Bool.and_eq_true_iff.1 b2).1
      have k1 := (Bool.and_eq_true_iff.1 b1).2
      have k2 := (Bool.and_eq_true_iff.1 b2).2
      obtain ⟨most, hmost⟩ : ∃ most, mn a1 (l0.length : Int) = most := ⟨_, rfl⟩
      have hm : 0 ≤ most ∧ most ≤ 32768 ∧ ∀ d, d ≤ a1 → d < (l0.length : Int) → d ≤ most := by
        rw [← hmost]
        unfold mn
        refine ⟨?_, ?_, fun d _ _ => ?_⟩ <;> (split <;> omega)
      obtain ⟨lens, ds, t1, t2, t3, t4, t5⟩ := table_run l1 l2 most z1 z2 ⟨hm.1, hm.2.1⟩
      obtain ⟨R', T', g1, g2, g3⟩ := l0_run l0 lens ds l1 (LL l1) (PP l2) a1 (l0.length : Int) hn z1 (fun q h0 h1 => by have := ok_bound k1 q h0 (by omega); omega) (bytes_rd hb)
        (fun m h0 h1 => by
          have := lenS_sym m h0 h1
          have := ok_bound k1 (lenS m) (by omega) (by omega)
          rw [t3 m h0 h1]
          unfold LL Lf
          rw [if_pos ⟨h0, by omega⟩]
          omega) t1
        (fun d h0 h1 h2 => by
          have := distS_in d h0 (by omega)
          have := ok_bound k2 (distS d) (by omega) (by omega)
          have hd := hm.2.2 d h1 h2
          refine ⟨t4 d h0 hd, by unfold PP; omega, by unfold PP; omega, by omega⟩) l0.length (List.replicate (l0.length + 1) 0) (List.replicate (l0.length + 1) z56) (Nat.le_refl _) List.length_replicate
        ⟨by rw [List.length_replicate], by rw [List.length_replicate]; omega, rd_zeros _ _, fun j h1 h2 => by rw [rd_zeros]; omega, fun j h1 h2 => by omega⟩
      have huni := sol_unique f2 g1
      have hrow := l3_row f2 f3 g2 hn (fun j h0 h1 => ((huni (l0.length - j.toNat) j h0 (by omega)).2 h1).symm) (l0.length + 1) 0 [] r (by omega) (by omega) (by simp) f4
      have hl0 := g3 _ hrow
      refine ⟨r, 0, f1, start _ (next _ ?_), ?_⟩
      · rw [b1, b2]
        simp only [if_true, Bool.not_true]
        refine (Lands.bind (f := fun k bt => valiseref21_Cheapest.l0 k l0 a1 l1 (l0.length : Int) bt.1 bt.2 (List.replicate (l0.length + 1) 0) (List.replicate (l0.length + 1) z56) ((l0.length : Int) - 1)) t5 hl0).step (fun k => ?_)
        rw [valiseref21_Cheapest.j1, if_neg (by decide), hmost]
        congr 1
        funext bt
        rw [show wrap64 ((l0.length : Int) + 1) = (l0.length : Int) + 1 from wrap_id (by omega) (by omega), show wrap64 ((l0.length : Int) - 1) = (l0.length : Int) - 1 from wrap_id (by omega) (by omega), show ((l0.length : Int) + 1).toNat = l0.length + 1 by omega, if_pos (by omega), if_pos (by omega), if_pos (by omega)]
      · have len : ∀ (n : Nat) (i : Int) (l r : List S56), rowF T n i l = some r → r.length + 1 ≤ l.length + n := by
          intro n
          induction n with
          | zero => intro i l r h; cases h
          | succ n ih =>
            intro i l r h
            rw [rowF] at h
            split at h
            · split at h
              · have := ih _ _ _ h
                rw [List.length_append] at this
                simp at this
                omega
              · cases h
            · obtain rfl := Option.some.inj h
              omega
        have := len _ _ _ _ f4
        simp at this
        omega
    · refine ⟨[], 210, by unfold squeeze_Cheapest.f; rw [if_neg hA, if_neg hg], start _ (next _ ?_), by simp⟩
      rw [fair_split] at hg
      by_cases b1 : (l1.length == 286 && squeeze_fair.ok l1) = true
      · rw [b1] at hg ⊢
        have b2 : (l2.length == 30 && squeeze_fair.ok l2) = false := by simpa using hg
        rw [b2]
        exact Lands.const (fun k => by rw [if_pos rfl, valiseref21_Cheapest.j1, if_pos (by decide)])
      · exact Lands.const (fun k => by rw [if_neg b1, valiseref21_Cheapest.j1, if_pos rfl])
/-- The row's plain law. -/
theorem law (l0 : List Int) (a1 : Int) (l2 l3 : List Int) (hb : ∀ x ∈ l0, 0 ≤ x ∧ x ≤ 255) (h0 : l0.length ≤ 140737488351232) (_ : -9223372036854775808 ≤ a1 ∧ a1 ≤ 9223372036854775807) (h2 : l2.length * 8 ≤ 140737488351232) (h3 : l3.length * 8 ≤ 140737488351232) : ∃ k, valiselaw21_SqueezeCheapest.f k l0 a1 l2 l3 = some true := by
  obtain ⟨r, e, p1, ⟨K, p2⟩, hr⟩ := cheapest_both l0 l2 l3 a1 hb (by omega) (by omega)
  refine ⟨K + r.length + l0.length + l2.length + l3.length + 1, ?_⟩
  have p3 := p2 (K + r.length + l0.length + l2.length + l3.length + 1) (by omega)
  simp only at p3
  unfold valiselaw21_SqueezeCheapest.f valiselaw21_num.f
  rw [clone_eq l0 h0, Option.bind_some, ints_eq l2 h2, Option.bind_some, ints_eq l3 h3, Option.bind_some, p1, Option.bind_some, p3, Option.bind_some, Option.bind_some]
  show (if e = e then _ else _) = _
  rw [if_pos rfl]
  unfold valiselaw21_alike.f valiselaw21_equal.f
  rw [if_pos rfl, alike_self r (by omega) _ (by omega), Option.bind_some, if_pos rfl, same_self l0 (by omega) _ (by omega), Option.bind_some, if_pos rfl, if_pos rfl,
    equal_self l2 (by omega) _ (by omega), Option.bind_some, if_pos rfl, if_pos rfl, equal_self l3 (by omega) _ (by omega), Option.bind_some]
end Go.Proofs.YtpndhoefmepfdaaDoor.CheapLaw
