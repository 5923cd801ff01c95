/- valiselaw11.apartInts of two rows of one's own that lie apart: true; nothing elder is written. -/
import Derived.Test.YtpndhoefmepfdaaPSux2
import Derived.Test.YtpndhoefmepfdaaKeep
namespace Go.Proofs.Ytpndhoefmepfdaa.SuApart
open Go.RowKit Go.Proofs.Ytpndhoefmepfdaa.PSu Go.Proofs.YtpndhoefmepfdaaW.PrintWords Go.Proofs.YtpndhoefmepfdaaW.PrintLast Go.Proofs.YtpndhoefmepfdaaW.PrintMore
set_option linter.unusedVariables false
def full (l : List Int) (i : Int) (v : Int) : Prop := ∀ j : Int, 0 ≤ j → j < i → rd l j = v
theorem full_set (l : List Int) (i v : Int) (h0 : 0 ≤ i) (h1 : i < (l.length : Int)) (h : full l i v) : full (l.set i.toNat v) (i + 1) v := by
  intro j j0 j1
  unfold rd
  have hj : j.toNat < (l.set i.toNat v).length := by rw [List.length_set]; omega
  rw [List.getD_eq_getElem?_getD, List.getElem?_eq_getElem hj, Option.getD_some, List.getElem_set]
  by_cases hij : i.toNat = j.toNat
  · rw [if_pos hij]
  · rw [if_neg hij]
    have := h j j0 (by omega)
    unfold rd at this
    rwa [List.getD_eq_getElem?_getD, List.getElem?_eq_getElem (by rw [List.length_set] at hj; exact hj), Option.getD_some] at this
set_option maxHeartbeats 8000000 in
set_option maxRecDepth 100000 in
theorem apartInts_calls (w : World) (base : Nat) (va vb : Value) (xs ys : List Int) (hbase : base ≤ w.heap.size) (ha : Kd.R (Kd.int .i64) 3 w base (fun _ => True) va xs) (hb : Kd.R (Kd.int .i64) 3 w base (fun _ => True) vb ys) (hne : ∀ k, va.ownBlock = some k → vb.ownBlock ≠ some k) (hx : xs.length ≤ 16777217) (hy : ys.length ≤ 16777217) :
    Calls Try.prog 28 #[va, vb] w fun e w' => e = .returned (.bool true) ∧ Below base w w' := by
  have HRA := Aside0.mk (show Kd.R (Kd.int .i64) 3 w base (fun k => vb.ownBlock ≠ some k) va xs from Kd.R_of_own (Kd.own_of_R ha) (fun k hk => hne k hk))
  have HRB := Aside0.mk (show Kd.R (Kd.int .i64) 3 w base (fun k => va.ownBlock ≠ some k) vb ys from Kd.R_of_own (Kd.own_of_R hb) (fun k hk he => hne k he hk))
  obtain ⟨A, ca, rfl⟩ := Kd.R_slice ha
  obtain ⟨B, cb, rfl⟩ := Kd.R_slice hb
  obtain ⟨n, hn⟩ : ∃ n, xs.length = n := ⟨_, rfl⟩
  obtain ⟨m, hm⟩ : ∃ m, ys.length = m := ⟨_, rfl⟩
  have HB := Aside0.mk (Below.refl base w)
  have HBS := Aside0.mk hbase
  have HN := Aside0.mk (show n ≤ 16777217 ∧ m ≤ 16777217 by omega)
  rw [hn, hm] at HRA HRB
  rw [hn, hm]
  have HL := Aside0.mk (And.intro hn hm)
  clear ha hb hne hx hy hbase hn hm
  go_enter Try.func28, Try.ntmps28
  go_wp2
  go_loopg [5] (n + 1) (fun kq v5 w' => ∃ (i : Int) (l : List Int), v5 = .int .i64 i ∧ Aside0 (0 ≤ i ∧ i ≤ (n : Int) ∧ kq = ((n : Int) - i).toNat + 1 ∧ l.length = n ∧ full l i 9) ∧ Aside0 (Kd.R (Kd.int .i64) 3 w' base (fun k => (Value.slice B m cb).ownBlock ≠ some k) (.slice A n ca) l) ∧ Aside0 (Kd.R (Kd.int .i64) 3 w' base (fun k => (Value.slice A n ca).ownBlock ≠ some k) (.slice B m cb) ys) ∧ Aside0 (Below base w w' ∧ base ≤ w'.heap.size))
  case atStart => exact ⟨0, xs, rfl, ⟨⟨by omega, by omega, by omega, HL.out.1, fun j h0 h1 => by omega⟩⟩, HRA, HRB, ⟨HB.out, HBS.out⟩⟩
  case round =>
    clear HRA HRB HB HBS
    obtain ⟨i, l, rfl, HA, HRA, HRB, HB⟩ := hrel
    cases gk with
    | zero => exact absurd HA.out.2.2.1 (by omega)
    | succ k2 =>
      have h0 := HA.out.1
      by_cases c8 : i < (n : Int)
      · have c8b0 : decide (i < (n : Int)) = true := decide_eq_true c8
        obtain ⟨g, cap, he, hbg, hgl, cells, hcell⟩ := Kd.R_form HRA.out (by have := HA.out; omega)
        injection he with hA hn2 hc2
        subst hA
        have hx1 := (Kd.R_celln (0 : Int) HRA.out i h0 c8).1
        have hx2 := (Kd.R_celln (0 : Int) HRA.out i h0 c8).2
        have HW := Aside0.mk (show wrap64 (i + 1) = i + 1 by have := HN.out; unfold wrap64; omega)
        have HA' := Aside0.mk (show 0 ≤ i + 1 ∧ i + 1 ≤ (n : Int) ∧ k2 = ((n : Int) - (i + 1)).toNat + 1 ∧ (l.set i.toNat 9).length = n ∧ full (l.set i.toNat 9) (i + 1) 9 by
          have h := HA.out
          exact ⟨by omega, by omega, by omega, by rw [List.length_set]; exact h.2.2.2.1, full_set l i 9 h0 (by omega) h.2.2.2.2⟩)
        have HG := Aside0.mk hbg
        have HS := Aside0.mk (show ∀ u : Value, (wr.setCell ⟨g, i.toNat, none⟩ u).heap.size = wr.heap.size from fun u => by simp [World.setCell])
        replace h0 := eq_true h0
        replace c8 := eq_true c8
        clear HA hn2 hc2 hbg hgl hcell
        go_wp2
        go_roundg k2
        case measure => omega
        case rel =>
          refine ⟨wrap64 (i + 1), l.set i.toNat 9, (by first | rfl | (simp; done) | (simp [*]; done)), ⟨by rw [HW.out]; exact HA'.out⟩, ⟨Kd.R_putn HRA.out i 9⟩, ⟨?_⟩, ⟨?_, ?_⟩⟩
          · exact Kd.R_far HRB.out (fun k hk he => hk (by rw [he]; rfl)) _
          · exact HB.out.1.setCell HG.out _
          · rw [HS.out]; exact HB.out.2
      · have c8b0 : decide (i < (n : Int)) = false := decide_eq_false c8
        have HA' := Aside0.mk (show l.length = n ∧ full l (n : Int) 9 by
          have h := HA.out
          exact ⟨h.2.2.2.1, by rw [show (n : Int) = i by omega]; exact h.2.2.2.2⟩)
        clear HA h0 c8
        go_wp2
        go_loopg [6] (m + 1) (fun kq v6 w' => ∃ (i : Int) (q : List Int), v6 = .int .i64 i ∧ Aside0 (0 ≤ i ∧ i ≤ (m : Int) ∧ kq = ((m : Int) - i).toNat + 1 ∧ q.length = m ∧ full q i 8) ∧ Aside0 (Kd.R (Kd.int .i64) 3 w' base (fun k => (Value.slice B m cb).ownBlock ≠ some k) (.slice A n ca) l) ∧ Aside0 (Kd.R (Kd.int .i64) 3 w' base (fun k => (Value.slice A n ca).ownBlock ≠ some k) (.slice B m cb) q) ∧ Aside0 (Below base w w' ∧ base ≤ w'.heap.size))
        case atStart => exact ⟨0, ys, rfl, ⟨⟨by omega, by omega, by omega, HL.out.2, fun j h0 h1 => by omega⟩⟩, HRA, HRB, HB⟩
        case round =>
          clear HRA HRB HB
          obtain ⟨i, q, rfl, HQ, HRA, HRB, HB⟩ := hrel
          cases gk with
          | zero => exact absurd HQ.out.2.2.1 (by omega)
          | succ k3 =>
            have h0 := HQ.out.1
            by_cases c9 : i < (m : Int)
            · have c9b0 : decide (i < (m : Int)) = true := decide_eq_true c9
              obtain ⟨g, cap, he, hbg, hgl, cells, hcell⟩ := Kd.R_form HRB.out (by have := HQ.out; omega)
              injection he with hB hn2 hc2
              subst hB
              have hx1 := (Kd.R_celln (0 : Int) HRB.out i h0 c9).1
              have hx2 := (Kd.R_celln (0 : Int) HRB.out i h0 c9).2
              have HW := Aside0.mk (show wrap64 (i + 1) = i + 1 by have := HN.out; unfold wrap64; omega)
              have HQ' := Aside0.mk (show 0 ≤ i + 1 ∧ i + 1 ≤ (m : Int) ∧ k3 = ((m : Int) - (i + 1)).toNat + 1 ∧ (q.set i.toNat 8).length = m ∧ full (q.set i.toNat 8) (i + 1) 8 by
                have h := HQ.out
                exact ⟨by omega, by omega, by omega, by rw [List.length_set]; exact h.2.2.2.1, full_set q i 8 h0 (by omega) h.2.2.2.2⟩)
              have HG := Aside0.mk hbg
              have HS := Aside0.mk (show ∀ u : Value, (wr.setCell ⟨g, i.toNat, none⟩ u).heap.size = wr.heap.size from fun u => by simp [World.setCell])
              replace h0 := eq_true h0
              replace c9 := eq_true c9
              clear HQ hn2 hc2 hbg hgl hcell
              go_wp2
              go_roundg k3
              case measure => omega
              case rel =>
                refine ⟨wrap64 (i + 1), q.set i.toNat 8, (by first | rfl | (simp; done) | (simp [*]; done)), ⟨by rw [HW.out]; exact HQ'.out⟩, ⟨?_⟩, ⟨Kd.R_putn HRB.out i 8⟩, ⟨?_, ?_⟩⟩
                · exact Kd.R_far HRA.out (fun k hk he => hk (by rw [he]; rfl)) _
                · exact HB.out.1.setCell HG.out _
                · rw [HS.out]; exact HB.out.2
            · have c9b0 : decide (i < (m : Int)) = false := decide_eq_false c9
              have HQ' := Aside0.mk (show q.length = m ∧ full q (m : Int) 8 by
                have h := HQ.out
                exact ⟨h.2.2.2.1, by rw [show (m : Int) = i by omega]; exact h.2.2.2.2⟩)
              clear HQ h0 c9
              have OA := Aside0.mk (Kd.own_of_R HRA.out)
              have OB := Aside0.mk (Kd.own_of_R HRB.out)
              have NB := Aside0.mk HRB.out.1
              clear HRA HRB
              go_wp2_with (first
                | ((with_reducible refine gate_builtin (b := .append) (xs := #[.tmp 29, .tmp 30]) rfl ?_); at_builtin; refine Keep.keep_append (w0 := w) base rfl (.tmp 29) (.tmp 30) 48 3 (.int .i64 0) 1 8 rfl Try.underlying48 info3 rfl (by decide) (by decide) (.slice A n ca) l.length (encs (Value.int .i64) l) [.int .i64 5] rfl rfl rfl ?o1 OA.out HB.out.1 HB.out.2 ?hl ?_; (case o1 => (intro u hu; rcases List.mem_singleton.1 hu with rfl; rfl)); (case hl => (have := HA'.out; have := HN.out; omega)); intro vc w1 hc1 ha1 hb1 hg1 hat1; have OC := Aside0.mk hc1; have OA1 := Aside0.mk ha1; have OB1 := Aside0.mk (World.ownsRow.kept OB.out hg1 (by
                    by_cases hz : (Value.slice B m cb).ownBlock = none
                    · exact .inl hz
                    · obtain ⟨k, hk⟩ := Option.ne_none_iff_exists'.1 hz
                      exact .inr (fun he => NB.out k hk (he ▸ hk)))); have NC := Aside0.mk (show ∀ k, (Value.slice B m cb).ownBlock = some k → vc.ownBlock ≠ some k from fun k hk he => by
                    rcases hat1 with h1 | ⟨b, h1, h2⟩
                    · exact NB.out k hk (h1 ▸ he)
                    · rw [h1] at he
                      injection he with he
                      have := own_lt OB.out k hk
                      omega); have HB1 := Aside0.mk (And.intro hb1 (Nat.le_trans HB.out.2 hg1.size)); clear HB OA OB hc1 ha1 hb1 hg1 hat1)
                | ((with_reducible refine gate_builtin (b := .append) (xs := #[.tmp 32, .tmp 33]) rfl ?_); at_builtin; refine Keep.keep_append (w0 := w) base rfl (.tmp 32) (.tmp 33) 48 3 (.int .i64 0) 1 8 rfl Try.underlying48 info3 rfl (by decide) (by decide) (.slice B m cb) q.length (encs (Value.int .i64) q) [.int .i64 6] rfl rfl rfl ?o1 OB1.out HB1.out.1 HB1.out.2 ?hl ?_; (case o1 => (intro u hu; rcases List.mem_singleton.1 hu with rfl; rfl)); (case hl => (have := HQ'.out; have := HN.out; omega)); intro vd w2 hc1 ha1 hb1 hg1 hat1; have OD := Aside0.mk hc1; have OB := Aside0.mk ha1; have OA := Aside0.mk (World.ownsRow.kept OA1.out hg1 (by
                    by_cases hz : (Value.slice A n ca).ownBlock = none
                    · exact .inl hz
                    · obtain ⟨k, hk⟩ := Option.ne_none_iff_exists'.1 hz
                      exact .inr (fun he => NB.out k (he ▸ hk) hk))); have OC2 := Aside0.mk (World.ownsRow.kept OC.out hg1 (by
                    by_cases hz : vc.ownBlock = none
                    · exact .inl hz
                    · obtain ⟨k, hk⟩ := Option.ne_none_iff_exists'.1 hz
                      exact .inr (fun he => NC.out k (he ▸ hk) hk))); have HB2 := Aside0.mk hb1; clear HB1 OA1 OB1 OC NC NB hc1 ha1 hb1 hg1 hat1)
                | fail)
              have CA := Aside0.mk (show Kd.C (Kd.int .i64) w2 A n l by
                have h0 : Kd.R (Kd.int .i64) 3 w2 base (fun _ => True) (.slice A n ca) l := Kd.R_of_own OA.out (fun _ _ => trivial)
                have h := (Kd.R_reads' h0).2.2
                rwa [HA'.out.1] at h)
              have CB := Aside0.mk (show Kd.C (Kd.int .i64) w2 B m q by
                have h0 : Kd.R (Kd.int .i64) 3 w2 base (fun _ => True) (.slice B m cb) q := Kd.R_of_own OB.out (fun _ _ => trivial)
                have h := (Kd.R_reads' h0).2.2
                rwa [HQ'.out.1] at h)
              have RC := Aside0.mk (show Kd.R (Kd.int .i64) 3 w2 base (fun _ => True) vc (l ++ [5]) from Kd.R_of_own (by rw [List.length_append]; simpa [encs] using OC2.out) (fun _ _ => trivial))
              have RD := Aside0.mk (show Kd.R (Kd.int .i64) 3 w2 base (fun _ => True) vd (q ++ [6]) from Kd.R_of_own (by rw [List.length_append]; simpa [encs] using OD.out) (fun _ _ => trivial))
              clear OA OB OC2 OD
              go_loopg [9] (n + 1) (fun kq v9 w' => ∃ i : Int, v9 = .int .i64 i ∧ Aside0 (0 ≤ i ∧ i ≤ (n : Int) ∧ kq = ((n : Int) - i).toNat + 1) ∧ w' = w2)
              case atStart => exact ⟨0, rfl, ⟨⟨by omega, by omega, by omega⟩⟩, rfl⟩
              case round =>
                obtain ⟨i, rfl, HI, rfl⟩ := hrel
                cases gk with
                | zero => exact absurd HI.out.2.2 (by omega)
                | succ k4 =>
                  have h0 := HI.out.1
                  by_cases c10 : i < (n : Int)
                  · have c10b0 : decide (i < (n : Int)) = true := decide_eq_true c10
                    obtain ⟨ad1, e1, hx1⟩ := Kd.at_int CA.out i h0 c10
                    cases e1
                    rw [HA'.out.2 i h0 c10] at hx1
                    have HW := Aside0.mk (show wrap64 (i + 1) = i + 1 by have := HN.out; unfold wrap64; omega)
                    have HI' := Aside0.mk (show 0 ≤ i + 1 ∧ i + 1 ≤ (n : Int) ∧ k4 = ((n : Int) - (i + 1)).toNat + 1 by have h := HI.out; omega)
                    replace h0 := eq_true h0
                    replace c10 := eq_true c10
                    clear HI
                    go_wp2
                    go_roundg k4
                    case measure => omega
                    case rel => exact ⟨wrap64 (i + 1), (by first | rfl | (simp; done) | (simp [*]; done)), ⟨by rw [HW.out]; exact HI'.out⟩, rfl⟩
                  · have c10b0 : decide (i < (n : Int)) = false := decide_eq_false c10
                    clear HI h0 c10
                    go_wp2
                    go_loopg [10] (m + 1) (fun kq v10 w' => ∃ i : Int, v10 = .int .i64 i ∧ Aside0 (0 ≤ i ∧ i ≤ (m : Int) ∧ kq = ((m : Int) - i).toNat + 1) ∧ w' = wr)
                    case atStart => exact ⟨0, rfl, ⟨⟨by omega, by omega, by omega⟩⟩, rfl⟩
                    case round =>
                      obtain ⟨i2, rfl, HI, rfl⟩ := hrel
                      cases gk with
                      | zero => exact absurd HI.out.2.2 (by omega)
                      | succ k5 =>
                        have h0 := HI.out.1
                        by_cases c11 : i2 < (m : Int)
                        · have c11b0 : decide (i2 < (m : Int)) = true := decide_eq_true c11
                          obtain ⟨ad1, e1, hx1⟩ := Kd.at_int CB.out i2 h0 c11
                          cases e1
                          rw [HQ'.out.2 i2 h0 c11] at hx1
                          have HW := Aside0.mk (show wrap64 (i2 + 1) = i2 + 1 by have := HN.out; unfold wrap64; omega)
                          have HI' := Aside0.mk (show 0 ≤ i2 + 1 ∧ i2 + 1 ≤ (m : Int) ∧ k5 = ((m : Int) - (i2 + 1)).toNat + 1 by have h := HI.out; omega)
                          replace h0 := eq_true h0
                          replace c11 := eq_true c11
                          clear HI
                          go_wp2
                          go_roundg k5
                          case measure => omega
                          case rel => exact ⟨wrap64 (i2 + 1), (by first | rfl | (simp; done) | (simp [*]; done)), ⟨by rw [HW.out]; exact HI'.out⟩, rfl⟩
                        · have c11b0 : decide (i2 < (m : Int)) = false := decide_eq_false c11
                          clear HI h0 c11
                          obtain ⟨gc, capc, he, _⟩ := Kd.R_form RC.out (by simp)
                          subst he
                          obtain ⟨gd, capd, he, _⟩ := Kd.R_form RD.out (by simp)
                          subst he
                          have lc : (l ++ [5]).length = n + 1 := by rw [List.length_append, HA'.out.1]; rfl
                          have ld : (q ++ [6]).length = m + 1 := by rw [List.length_append, HQ'.out.1]; rfl
                          rw [lc] at RC
                          rw [ld] at RD
                          rw [lc, ld]
                          have hc1 := (Kd.R_celln (0 : Int) RC.out (n : Int) (by omega) (by omega)).1
                          have hd1 := (Kd.R_celln (0 : Int) RD.out (m : Int) (by omega) (by omega)).1
                          have ec : rdOf (0 : Int) (l ++ [5]) (n : Int) = 5 := by unfold rdOf; rw [← HA'.out.1]; simp
                          have ed : rdOf (0 : Int) (q ++ [6]) (m : Int) = 6 := by unfold rdOf; rw [← HQ'.out.1]; simp
                          rw [ec] at hc1
                          rw [ed] at hd1
                          rw [Int.toNat_natCast] at hc1 hd1
                          have f1 : ((n : Int) < ((n + 1 : Nat) : Int)) = True := eq_true (by omega)
                          have f2 : ((m : Int) < ((m + 1 : Nat) : Int)) = True := eq_true (by omega)
                          have f3 : (0 ≤ (n : Int)) = True := eq_true (by omega)
                          have f4 : (0 ≤ (m : Int)) = True := eq_true (by omega)
                          go_wp2
                          go_ret
                          exact ⟨rfl, HB2.out⟩
end Go.Proofs.Ytpndhoefmepfdaa.SuApart
