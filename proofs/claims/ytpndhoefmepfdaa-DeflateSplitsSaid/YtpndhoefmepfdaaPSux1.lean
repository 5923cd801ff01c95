-- WRITTEN BY myprint.py (this claim's own program, over the kit's printer): Lean checks it.
import Derived.Test.YtpndhoefmepfdaaPSux0
namespace Go.Proofs.Ytpndhoefmepfdaa.PSu
open Go.RowKit Go.Proofs.YtpndhoefmepfdaaW.PrintWords Go.Proofs.YtpndhoefmepfdaaW.PrintLast Go.Proofs.YtpndhoefmepfdaaW.PrintMore
open Go.Proofs.Ytpndhoefmepfdaa.More
attribute [local go_sem] max2_int min2_int max_two min_two max_three min_three max_four min_four   -- for this text's walks alone
set_option linter.unusedVariables false
set_option linter.unusedSimpArgs false

/-! ### valiselaw11_num: function 22 -/
def valiselaw11_num.f (a0 : Int) : Option (Int) := some a0
set_option maxHeartbeats 8000000 in
set_option maxRecDepth 100000 in
theorem valiselaw11_num.calls (a0 : Int) (r : Int) (w : World) (h : valiselaw11_num.f a0 = some r) :
    Calls Try.prog 22 #[.int .i64 a0] w fun e w' => e = .returned (.int .i64 r) ∧ Drawn0 w w' := by
  have H : (some a0) = some r := h
  clear h
  obtain rfl := Option.some.inj H
  go_enter Try.func22, Try.ntmps22
  go_wp2
  go_ret
  exact ⟨by first | rfl | (simp; done) | (simp [*]; done), by repeat (first | exact Drawn0.refl _ | apply Drawn0.step)⟩

/-! ### deflate_sound: function 31 -/
def deflate_sound.f (a0_0 : Int) (a0_1 : Int) (a0_2 : Int) : Option (Bool) := if a0_0 = 0 then (some (a0_1 == 0)) else (if a0_2 = 0 then (if a0_0 ≥ 3 then (if a0_0 ≤ 258 then (if a0_1 ≥ 1 then (some (decide (a0_1 ≤ 32768))) else (some false)) else (some false)) else (some false)) else (some false))
set_option maxHeartbeats 8000000 in
set_option maxRecDepth 100000 in
theorem deflate_sound.calls (a0_0 : Int) (a0_1 : Int) (a0_2 : Int) (r : Bool) (w : World) (h : deflate_sound.f a0_0 a0_1 a0_2 = some r) :
    Calls Try.prog 31 #[.agg #[.int .i64 a0_0, .int .i64 a0_1, .int .u8 a0_2]] w fun e w' => e = .returned (.bool r) ∧ Below w.heap.size w w' := by
  have hu47 := Try.underlying47
  have HB := Aside0.mk (Below.refl w.heap.size w)
  have H : (if a0_0 = 0 then (some (a0_1 == 0)) else (if a0_2 = 0 then (if a0_0 ≥ 3 then (if a0_0 ≤ 258 then (if a0_1 ≥ 1 then (some (decide (a0_1 ≤ 32768))) else (some false)) else (some false)) else (some false)) else (some false))) = some r := h
  clear h
  by_cases c2 : a0_0 = 0
  · rw [if_pos c2] at H
    have c2b0 : (a0_0 == 0) = true := beq_iff_eq.mpr c2
    have c2b1 : (a0_0 != 0) = false := bne_eq_false_iff_eq.mpr c2
    clear c2
    obtain rfl := Option.some.inj H
    go_enter Try.func31, Try.ntmps31
    go_wp2_with (first | ((with_reducible refine gate_dst (N := 1) rfl ?_); refine box_event ?hg (N := 1) ?hd (cs := #[.int .i64 a0_0, .int .i64 a0_1, .int .u8 a0_2]) (t := 47) ?hr ?_; (case hd => rfl); (case hg => rfl); (case hr => first | (go_simp; done) | (go_simp; rfl)); intro gb101 hg w3 hbox hb; have n0_ := Aside0.mk (below_step (by repeat (first | (with_reducible first | exact HB.out | apply below_alloc | apply pw_below_drewN | apply below_drew1) | exact HB.out)) hb); have n1_ := Aside0.mk (hbox); have n2_ := Aside0.mk ((by rw [hg]; exact (below_size (by repeat (first | (with_reducible first | exact HB.out | apply below_alloc | apply pw_below_drewN | apply below_drew1) | exact HB.out))) : w.heap.size ≤ gb101)); have n3_ := Aside0.mk ((by rw [hg]; exact (below_size (by repeat (first | (with_reducible first | exact HB.out | apply below_alloc | apply pw_below_drewN | apply below_drew1) | exact HB.out))) : w.heap.size ≤ gb101)); clear HB; have HB := n0_; have BK101 := n1_; have GW101 := n2_; have GE101 := n3_; clear n0_ n1_ n2_ n3_; clear hb hbox hg; have hcz4_0 : w3.cell? ⟨gb101, 0, none⟩ = some (.int .i64 a0_0) := (blk_cell BK101.out 0).trans rfl; have hcz4_1 : w3.cell? ⟨gb101, 1, none⟩ = some (.int .i64 a0_1) := (blk_cell BK101.out 1).trans rfl; have hcz4_2 : w3.cell? ⟨gb101, 2, none⟩ = some (.int .u8 a0_2) := (blk_cell BK101.out 2).trans rfl; have hfz4_0 := blk_frozen BK101.out 0; have hfz4_1 := blk_frozen BK101.out 1; have hfz4_2 := blk_frozen BK101.out 2))
    go_ret
    exact ⟨by first | rfl | (simp [errW_none, errW_some] <;> rfl) | (simp [*, errW_none, errW_some] <;> rfl), by repeat (first | (with_reducible first | exact HB.out | apply below_alloc | apply pw_below_drewN | apply below_drew1 | refine below_set ?_ GE101.out) | exact HB.out)⟩
  · rw [if_neg c2] at H
    have c2b0 : (a0_0 == 0) = false := beq_eq_false_iff_ne.mpr c2
    have c2b1 : (a0_0 != 0) = true := bne_iff_ne.mpr c2
    by_cases c5 : a0_2 = 0
    · rw [if_pos c5] at H
      have c5b0 : (a0_2 == 0) = true := beq_iff_eq.mpr c5
      have c5b1 : (a0_2 != 0) = false := bne_eq_false_iff_eq.mpr c5
      clear c5
      by_cases c6 : a0_0 ≥ 3
      · rw [if_pos c6] at H
        have c6b0 : decide (3 ≤ a0_0) = true := decide_eq_true c6
        clear c6
        by_cases c7 : a0_0 ≤ 258
        · rw [if_pos c7] at H
          have c7b0 : decide (a0_0 ≤ 258) = true := decide_eq_true c7
          clear c7
          by_cases c8 : a0_1 ≥ 1
          · rw [if_pos c8] at H
            have c8b0 : decide (1 ≤ a0_1) = true := decide_eq_true c8
            clear c8
            obtain rfl := Option.some.inj H
            go_enter Try.func31, Try.ntmps31
            go_wp2_with (first | ((with_reducible refine gate_dst (N := 1) rfl ?_); refine box_event ?hg (N := 1) ?hd (cs := #[.int .i64 a0_0, .int .i64 a0_1, .int .u8 a0_2]) (t := 47) ?hr ?_; (case hd => rfl); (case hg => rfl); (case hr => first | (go_simp; done) | (go_simp; rfl)); intro gb101 hg w9 hbox hb; have n0_ := Aside0.mk (below_step (by repeat (first | (with_reducible first | exact HB.out | apply below_alloc | apply pw_below_drewN | apply below_drew1) | exact HB.out)) hb); have n1_ := Aside0.mk (hbox); have n2_ := Aside0.mk ((by rw [hg]; exact (below_size (by repeat (first | (with_reducible first | exact HB.out | apply below_alloc | apply pw_below_drewN | apply below_drew1) | exact HB.out))) : w.heap.size ≤ gb101)); have n3_ := Aside0.mk ((by rw [hg]; exact (below_size (by repeat (first | (with_reducible first | exact HB.out | apply below_alloc | apply pw_below_drewN | apply below_drew1) | exact HB.out))) : w.heap.size ≤ gb101)); clear HB; have HB := n0_; have BK101 := n1_; have GW101 := n2_; have GE101 := n3_; clear n0_ n1_ n2_ n3_; clear hb hbox hg; have hcz10_0 : w9.cell? ⟨gb101, 0, none⟩ = some (.int .i64 a0_0) := (blk_cell BK101.out 0).trans rfl; have hcz10_1 : w9.cell? ⟨gb101, 1, none⟩ = some (.int .i64 a0_1) := (blk_cell BK101.out 1).trans rfl; have hcz10_2 : w9.cell? ⟨gb101, 2, none⟩ = some (.int .u8 a0_2) := (blk_cell BK101.out 2).trans rfl; have hfz10_0 := blk_frozen BK101.out 0; have hfz10_1 := blk_frozen BK101.out 1; have hfz10_2 := blk_frozen BK101.out 2))
            go_ret
            exact ⟨by first | rfl | (simp [errW_none, errW_some] <;> rfl) | (simp [*, errW_none, errW_some] <;> rfl), by repeat (first | (with_reducible first | exact HB.out | apply below_alloc | apply pw_below_drewN | apply below_drew1 | refine below_set ?_ GE101.out) | exact HB.out)⟩
          · rw [if_neg c8] at H
            have c8b0 : decide (1 ≤ a0_1) = false := decide_eq_false c8
            clear c8
            obtain rfl := Option.some.inj H
            go_enter Try.func31, Try.ntmps31
            go_wp2_with (first | ((with_reducible refine gate_dst (N := 1) rfl ?_); refine box_event ?hg (N := 1) ?hd (cs := #[.int .i64 a0_0, .int .i64 a0_1, .int .u8 a0_2]) (t := 47) ?hr ?_; (case hd => rfl); (case hg => rfl); (case hr => first | (go_simp; done) | (go_simp; rfl)); intro gb101 hg w11 hbox hb; have n0_ := Aside0.mk (below_step (by repeat (first | (with_reducible first | exact HB.out | apply below_alloc | apply pw_below_drewN | apply below_drew1) | exact HB.out)) hb); have n1_ := Aside0.mk (hbox); have n2_ := Aside0.mk ((by rw [hg]; exact (below_size (by repeat (first | (with_reducible first | exact HB.out | apply below_alloc | apply pw_below_drewN | apply below_drew1) | exact HB.out))) : w.heap.size ≤ gb101)); have n3_ := Aside0.mk ((by rw [hg]; exact (below_size (by repeat (first | (with_reducible first | exact HB.out | apply below_alloc | apply pw_below_drewN | apply below_drew1) | exact HB.out))) : w.heap.size ≤ gb101)); clear HB; have HB := n0_; have BK101 := n1_; have GW101 := n2_; have GE101 := n3_; clear n0_ n1_ n2_ n3_; clear hb hbox hg; have hcz12_0 : w11.cell? ⟨gb101, 0, none⟩ = some (.int .i64 a0_0) := (blk_cell BK101.out 0).trans rfl; have hcz12_1 : w11.cell? ⟨gb101, 1, none⟩ = some (.int .i64 a0_1) := (blk_cell BK101.out 1).trans rfl; have hcz12_2 : w11.cell? ⟨gb101, 2, none⟩ = some (.int .u8 a0_2) := (blk_cell BK101.out 2).trans rfl; have hfz12_0 := blk_frozen BK101.out 0; have hfz12_1 := blk_frozen BK101.out 1; have hfz12_2 := blk_frozen BK101.out 2))
            go_ret
            exact ⟨by first | rfl | (simp [errW_none, errW_some] <;> rfl) | (simp [*, errW_none, errW_some] <;> rfl), by repeat (first | (with_reducible first | exact HB.out | apply below_alloc | apply pw_below_drewN | apply below_drew1 | refine below_set ?_ GE101.out) | exact HB.out)⟩
        · rw [if_neg c7] at H
          have c7b0 : decide (a0_0 ≤ 258) = false := decide_eq_false c7
          clear c7
          obtain rfl := Option.some.inj H
          go_enter Try.func31, Try.ntmps31
          go_wp2_with (first | ((with_reducible refine gate_dst (N := 1) rfl ?_); refine box_event ?hg (N := 1) ?hd (cs := #[.int .i64 a0_0, .int .i64 a0_1, .int .u8 a0_2]) (t := 47) ?hr ?_; (case hd => rfl); (case hg => rfl); (case hr => first | (go_simp; done) | (go_simp; rfl)); intro gb101 hg w13 hbox hb; have n0_ := Aside0.mk (below_step (by repeat (first | (with_reducible first | exact HB.out | apply below_alloc | apply pw_below_drewN | apply below_drew1) | exact HB.out)) hb); have n1_ := Aside0.mk (hbox); have n2_ := Aside0.mk ((by rw [hg]; exact (below_size (by repeat (first | (with_reducible first | exact HB.out | apply below_alloc | apply pw_below_drewN | apply below_drew1) | exact HB.out))) : w.heap.size ≤ gb101)); have n3_ := Aside0.mk ((by rw [hg]; exact (below_size (by repeat (first | (with_reducible first | exact HB.out | apply below_alloc | apply pw_below_drewN | apply below_drew1) | exact HB.out))) : w.heap.size ≤ gb101)); clear HB; have HB := n0_; have BK101 := n1_; have GW101 := n2_; have GE101 := n3_; clear n0_ n1_ n2_ n3_; clear hb hbox hg; have hcz14_0 : w13.cell? ⟨gb101, 0, none⟩ = some (.int .i64 a0_0) := (blk_cell BK101.out 0).trans rfl; have hcz14_1 : w13.cell? ⟨gb101, 1, none⟩ = some (.int .i64 a0_1) := (blk_cell BK101.out 1).trans rfl; have hcz14_2 : w13.cell? ⟨gb101, 2, none⟩ = some (.int .u8 a0_2) := (blk_cell BK101.out 2).trans rfl; have hfz14_0 := blk_frozen BK101.out 0; have hfz14_1 := blk_frozen BK101.out 1; have hfz14_2 := blk_frozen BK101.out 2))
          go_ret
          exact ⟨by first | rfl | (simp [errW_none, errW_some] <;> rfl) | (simp [*, errW_none, errW_some] <;> rfl), by repeat (first | (with_reducible first | exact HB.out | apply below_alloc | apply pw_below_drewN | apply below_drew1 | refine below_set ?_ GE101.out) | exact HB.out)⟩
      · rw [if_neg c6] at H
        have c6b0 : decide (3 ≤ a0_0) = false := decide_eq_false c6
        clear c6
        obtain rfl := Option.some.inj H
        go_enter Try.func31, Try.ntmps31
        go_wp2_with (first | ((with_reducible refine gate_dst (N := 1) rfl ?_); refine box_event ?hg (N := 1) ?hd (cs := #[.int .i64 a0_0, .int .i64 a0_1, .int .u8 a0_2]) (t := 47) ?hr ?_; (case hd => rfl); (case hg => rfl); (case hr => first | (go_simp; done) | (go_simp; rfl)); intro gb101 hg w15 hbox hb; have n0_ := Aside0.mk (below_step (by repeat (first | (with_reducible first | exact HB.out | apply below_alloc | apply pw_below_drewN | apply below_drew1) | exact HB.out)) hb); have n1_ := Aside0.mk (hbox); have n2_ := Aside0.mk ((by rw [hg]; exact (below_size (by repeat (first | (with_reducible first | exact HB.out | apply below_alloc | apply pw_below_drewN | apply below_drew1) | exact HB.out))) : w.heap.size ≤ gb101)); have n3_ := Aside0.mk ((by rw [hg]; exact (below_size (by repeat (first | (with_reducible first | exact HB.out | apply below_alloc | apply pw_below_drewN | apply below_drew1) | exact HB.out))) : w.heap.size ≤ gb101)); clear HB; have HB := n0_; have BK101 := n1_; have GW101 := n2_; have GE101 := n3_; clear n0_ n1_ n2_ n3_; clear hb hbox hg; have hcz16_0 : w15.cell? ⟨gb101, 0, none⟩ = some (.int .i64 a0_0) := (blk_cell BK101.out 0).trans rfl; have hcz16_1 : w15.cell? ⟨gb101, 1, none⟩ = some (.int .i64 a0_1) := (blk_cell BK101.out 1).trans rfl; have hcz16_2 : w15.cell? ⟨gb101, 2, none⟩ = some (.int .u8 a0_2) := (blk_cell BK101.out 2).trans rfl; have hfz16_0 := blk_frozen BK101.out 0; have hfz16_1 := blk_frozen BK101.out 1; have hfz16_2 := blk_frozen BK101.out 2))
        go_ret
        exact ⟨by first | rfl | (simp [errW_none, errW_some] <;> rfl) | (simp [*, errW_none, errW_some] <;> rfl), by repeat (first | (with_reducible first | exact HB.out | apply below_alloc | apply pw_below_drewN | apply below_drew1 | refine below_set ?_ GE101.out) | exact HB.out)⟩
    · rw [if_neg c5] at H
      have c5b0 : (a0_2 == 0) = false := beq_eq_false_iff_ne.mpr c5
      have c5b1 : (a0_2 != 0) = true := bne_iff_ne.mpr c5
      obtain rfl := Option.some.inj H
      go_enter Try.func31, Try.ntmps31
      go_wp2_with (first | ((with_reducible refine gate_dst (N := 1) rfl ?_); refine box_event ?hg (N := 1) ?hd (cs := #[.int .i64 a0_0, .int .i64 a0_1, .int .u8 a0_2]) (t := 47) ?hr ?_; (case hd => rfl); (case hg => rfl); (case hr => first | (go_simp; done) | (go_simp; rfl)); intro gb101 hg w17 hbox hb; have n0_ := Aside0.mk (below_step (by repeat (first | (with_reducible first | exact HB.out | apply below_alloc | apply pw_below_drewN | apply below_drew1) | exact HB.out)) hb); have n1_ := Aside0.mk (hbox); have n2_ := Aside0.mk ((by rw [hg]; exact (below_size (by repeat (first | (with_reducible first | exact HB.out | apply below_alloc | apply pw_below_drewN | apply below_drew1) | exact HB.out))) : w.heap.size ≤ gb101)); have n3_ := Aside0.mk ((by rw [hg]; exact (below_size (by repeat (first | (with_reducible first | exact HB.out | apply below_alloc | apply pw_below_drewN | apply below_drew1) | exact HB.out))) : w.heap.size ≤ gb101)); clear HB; have HB := n0_; have BK101 := n1_; have GW101 := n2_; have GE101 := n3_; clear n0_ n1_ n2_ n3_; clear hb hbox hg; have hcz18_0 : w17.cell? ⟨gb101, 0, none⟩ = some (.int .i64 a0_0) := (blk_cell BK101.out 0).trans rfl; have hcz18_1 : w17.cell? ⟨gb101, 1, none⟩ = some (.int .i64 a0_1) := (blk_cell BK101.out 1).trans rfl; have hcz18_2 : w17.cell? ⟨gb101, 2, none⟩ = some (.int .u8 a0_2) := (blk_cell BK101.out 2).trans rfl; have hfz18_0 := blk_frozen BK101.out 0; have hfz18_1 := blk_frozen BK101.out 1; have hfz18_2 := blk_frozen BK101.out 2))
      go_ret
      exact ⟨by first | rfl | (simp [errW_none, errW_some] <;> rfl) | (simp [*, errW_none, errW_some] <;> rfl), by repeat (first | (with_reducible first | exact HB.out | apply below_alloc | apply pw_below_drewN | apply below_drew1 | refine below_set ?_ GE101.out) | exact HB.out)⟩

/-! ### deflate_said: function 33 -/
def deflate_said.l0 : Nat → Int → List (S47) → Int → Int → Option (Int)
  | 0, _, _, _, _ => none
  | k + 1, x3, x6, x7, x8 => if x8 < x7 then (if 0 ≤ x8 then (if x8 < (x6.length : Int) then (deflate_said.l0 k (wrap64 (x3 + (mx 1 ((rd_T47 x6 x8).f0)))) x6 x7 (wrap64 (x8 + 1))) else (none)) else (none)) else (some x3)
def deflate_said.f (k : Nat) (l0 : List (S47)) : Option (Int) := deflate_said.l0 k 0 l0 (l0.length : Int) 0
theorem deflate_said.mono_l : ∀ k, (∀ y0 y1 y2 y3, LeO (deflate_said.l0 k y0 y1 y2 y3) (deflate_said.l0 (k + 1) y0 y1 y2 y3))
  | 0 => fun _ _ _ _ r h => by simp [deflate_said.l0] at h
  | k + 1 => by
    have ih0 := deflate_said.mono_l k
    · intro y0 y1 y2 y3
      unfold deflate_said.l0
      repeat' first
      | (with_reducible exact ih0 _ _ _ _)
      | (with_reducible exact LeO.refl _)
      | (with_reducible exact LeO.none _)
      | (with_reducible refine LeO.ite ?_ ?_)
      | (with_reducible refine LeO.bind ?_ (fun _ => ?_))
      | exact ih0 _ _ _ _
      | exact LeO.none _
      | refine LeO.ite ?_ ?_
      | refine LeO.bind ?_ (fun _ => ?_)
theorem deflate_said.mono : ∀ a0 k, LeO (deflate_said.f k a0) (deflate_said.f (k + 1) a0) := by
  intro a0 k
  have ih0 := deflate_said.mono_l k
  unfold deflate_said.f
  repeat' first
      | (with_reducible exact ih0 _ _ _ _)
      | (with_reducible exact LeO.refl _)
      | (with_reducible exact LeO.none _)
      | (with_reducible refine LeO.ite ?_ ?_)
      | (with_reducible refine LeO.bind ?_ (fun _ => ?_))
      | exact ih0 _ _ _ _
      | exact LeO.none _
      | refine LeO.ite ?_ ?_
      | refine LeO.bind ?_ (fun _ => ?_)
set_option maxHeartbeats 8000000 in
set_option maxRecDepth 100000 in
theorem deflate_said.calls (k : Nat) (A0 : Option Addr) (c0 : Nat) (l0 : List (S47)) (r : Int) (w : World) (hr0 : Kd.C k47 w A0 l0.length l0) (hc0 : l0.length ≤ c0) (h : deflate_said.f k l0 = some r) :
    Calls Try.prog 33 #[.slice A0 l0.length c0] w fun e w' => e = .returned (.int .i64 r) ∧ Below w.heap.size w w' := by
  have hu47 := Try.underlying47
  have HR0 := Aside0.mk hr0
  have HC0 := Aside0.mk hc0
  clear hr0 hc0
  have HB := Aside0.mk (Below.refl w.heap.size w)
  have H : (deflate_said.l0 k 0 l0 (l0.length : Int) 0) = some r := h
  clear h
  have H' := Aside0.mk H
  clear H
  go_enter Try.func33, Try.ntmps33
  go_wp2
  go_loopg [3, 8] k (fun kq v3 v8 w' => ∃ (x3_1 : Int) (x8_1 : Int), v3 = .int .i64 x3_1 ∧ v8 = .int .i64 x8_1 ∧ Aside0 (deflate_said.l0 kq x3_1 l0 (l0.length : Int) x8_1 = some r) ∧ Aside0 (kq ≤ k) ∧ Aside0 (Below w.heap.size w w'))
  case atStart => exact ⟨(0), (0), (by first | rfl | (simp; done) | (simp [*]; done)), (by first | rfl | (simp; done) | (simp [*]; done)), H', ⟨Nat.le_refl _⟩, ⟨by repeat (first | (with_reducible first | exact HB.out | apply below_alloc | apply pw_below_drewN | apply below_drew1) | exact HB.out)⟩⟩
  case round =>
    clear H'
    obtain ⟨x3_1, x8_1, rfl, rfl, HA, HK1, HB⟩ := hrel
    cases gk with
    | zero => exact absurd HA.out (by simp [deflate_said.l0])
    | succ k1 =>
      have H := HA.out
      clear HA
      simp only [deflate_said.l0] at H
      by_cases c2 : x8_1 < (l0.length : Int)
      · rw [if_pos c2] at H
        have c2b0 : decide (x8_1 < (l0.length : Int)) = true := decide_eq_true c2
        clear c2
        by_cases c3 : 0 ≤ x8_1
        · rw [if_pos c3] at H
          have c3b0 : decide (0 ≤ x8_1) = true := decide_eq_true c3
          clear c3
          by_cases c4 : x8_1 < (l0.length : Int)
          · rw [if_pos c4] at H
            have c4b0 : decide (x8_1 < (l0.length : Int)) = true := decide_eq_true c4
            clear c4
            obtain ⟨ji5, hji5⟩ : ∃ j_ : Int, (mx 1 ((rd_T47 l0 x8_1).f0)) = j_ := ⟨_, rfl⟩
            replace H : (deflate_said.l0 k1 (wrap64 (x3_1 + (ji5))) l0 (l0.length : Int) (wrap64 (x8_1 + 1))) = some r := by first | (rw [hji5] at H; exact H) | (simp only [hji5] at H ⊢; exact H)
            have hji5_ : (if 1 < ((rd_T47 l0 x8_1).f0) then ((rd_T47 l0 x8_1).f0) else 1) = ji5 := hji5
            have H' := Aside0.mk H
            clear H
            have p102 : 0 ≤ (x8_1 : Int) := of_decide_eq_true (by first | (with_reducible assumption) | assumption)
            have q102 : x8_1 < (l0.length : Int) := of_decide_eq_true (by first | (with_reducible assumption) | assumption)
            obtain ⟨ad102, e102, hx102_0, hx102_1, hx102_2⟩ := at_T47 HR0.out x8_1 p102 q102
            cases e102
            replace hx102_0 := (HB.out.cell (World.block_lt_of_cell? w _ hx102_0)).trans hx102_0
            replace hx102_1 := (HB.out.cell (World.block_lt_of_cell? w _ hx102_1)).trans hx102_1
            replace hx102_2 := (HB.out.cell (World.block_lt_of_cell? w _ hx102_2)).trans hx102_2
            replace p102 := eq_true p102
            replace q102 := eq_true q102
            go_wp2_with (first | ((with_reducible refine gate_dst (N := 5) rfl ?_); refine box_event ?hg (N := 5) ?hd (cs := #[.int .i64 0, .int .i64 0, .int .u8 0]) (t := 47) ?hr ?_; (case hd => rfl); (case hg => rfl); (case hr => first | (go_simp; done) | (go_simp; rfl)); intro gb103 hg w6 hbox hb; have n0_ := Aside0.mk (below_step (by repeat (first | (with_reducible first | exact HB.out | apply below_alloc | apply pw_below_drewN | apply below_drew1) | exact HB.out)) hb); have n1_ := Aside0.mk (hbox); have n2_ := Aside0.mk ((by rw [hg]; exact (below_size (by repeat (first | (with_reducible first | exact HB.out | apply below_alloc | apply pw_below_drewN | apply below_drew1) | exact HB.out))) : w.heap.size ≤ gb103)); have n3_ := Aside0.mk ((by rw [hg]; exact (below_size (by repeat (first | (with_reducible first | exact HB.out | apply below_alloc | apply pw_below_drewN | apply below_drew1) | exact HB.out))) : w.heap.size ≤ gb103)); clear HB; have HB := n0_; have BK103 := n1_; have GW103 := n2_; have GE103 := n3_; clear n0_ n1_ n2_ n3_; clear hb hbox hg; have hcz7_0 : w6.cell? ⟨gb103, 0, none⟩ = some (.int .i64 0) := (blk_cell BK103.out 0).trans rfl; have hcz7_1 : w6.cell? ⟨gb103, 1, none⟩ = some (.int .i64 0) := (blk_cell BK103.out 1).trans rfl; have hcz7_2 : w6.cell? ⟨gb103, 2, none⟩ = some (.int .u8 0) := (blk_cell BK103.out 2).trans rfl; have hfz7_0 := blk_frozen BK103.out 0; have hfz7_1 := blk_frozen BK103.out 1; have hfz7_2 := blk_frozen BK103.out 2))
            go_roundg k1
            case measure => have := HK1.out; omega
            case rel => exact ⟨(wrap64 (x3_1 + (ji5))), (wrap64 (x8_1 + 1)), (by first | rfl | (simp; done) | (simp only [← hji5] <;> (first | rfl | simp)) | (simp [*]; done)), (by first | rfl | (simp; done) | (simp [*]; done)), H', ⟨by have := HK1.out; omega⟩, ⟨by repeat (first | (with_reducible first | exact HB.out | apply below_alloc | apply pw_below_drewN | apply below_drew1 | refine below_set ?_ GE103.out) | exact HB.out)⟩⟩
          · rw [if_neg c4] at H
            exact absurd H (by simp)
        · rw [if_neg c3] at H
          exact absurd H (by simp)
      · rw [if_neg c2] at H
        have c2b0 : decide (x8_1 < (l0.length : Int)) = false := decide_eq_false c2
        clear c2
        obtain rfl := Option.some.inj H
        go_wp2
        go_ret
        exact ⟨by first | rfl | (simp [errW_none, errW_some] <;> rfl) | (simp [*, errW_none, errW_some] <;> rfl), by repeat (first | (with_reducible first | exact HB.out | apply below_alloc | apply pw_below_drewN | apply below_drew1) | exact HB.out)⟩

/-! ### deflate_class: function 37 -/
def deflate_class.f (a0_0 : Int) (a0_1 : Int) (a0_2 : Int) : Option (Int) := if a0_0 = 0 then (some (wrap64 (a0_2 / 64))) else (if a0_0 > 8 then (if a0_1 > 256 then (some ((4 + 2) + 1)) else (some (4 + 2))) else (if a0_1 > 256 then (some (4 + 1)) else (some 4)))
set_option maxHeartbeats 8000000 in
set_option maxRecDepth 100000 in
theorem deflate_class.calls (a0_0 : Int) (a0_1 : Int) (a0_2 : Int) (r : Int) (w : World) (h : deflate_class.f a0_0 a0_1 a0_2 = some r) :
    Calls Try.prog 37 #[.agg #[.int .i64 a0_0, .int .i64 a0_1, .int .u8 a0_2]] w fun e w' => e = .returned (.int .i64 r) ∧ Below w.heap.size w w' := by
  have hu47 := Try.underlying47
  have HB := Aside0.mk (Below.refl w.heap.size w)
  have H : (if a0_0 = 0 then (some (wrap64 (a0_2 / 64))) else (if a0_0 > 8 then (if a0_1 > 256 then (some ((4 + 2) + 1)) else (some (4 + 2))) else (if a0_1 > 256 then (some (4 + 1)) else (some 4)))) = some r := h
  clear h
  by_cases c2 : a0_0 = 0
  · rw [if_pos c2] at H
    have c2b0 : (a0_0 == 0) = true := beq_iff_eq.mpr c2
    have c2b1 : (a0_0 != 0) = false := bne_eq_false_iff_eq.mpr c2
    clear c2
    obtain rfl := Option.some.inj H
    go_enter Try.func37, Try.ntmps37
    go_wp2_with (first | ((with_reducible refine gate_dst (N := 1) rfl ?_); refine box_event ?hg (N := 1) ?hd (cs := #[.int .i64 a0_0, .int .i64 a0_1, .int .u8 a0_2]) (t := 47) ?hr ?_; (case hd => rfl); (case hg => rfl); (case hr => first | (go_simp; done) | (go_simp; rfl)); intro gb104 hg w3 hbox hb; have n0_ := Aside0.mk (below_step (by repeat (first | (with_reducible first | exact HB.out | apply below_alloc | apply pw_below_drewN | apply below_drew1) | exact HB.out)) hb); have n1_ := Aside0.mk (hbox); have n2_ := Aside0.mk ((by rw [hg]; exact (below_size (by repeat (first | (with_reducible first | exact HB.out | apply below_alloc | apply pw_below_drewN | apply below_drew1) | exact HB.out))) : w.heap.size ≤ gb104)); have n3_ := Aside0.mk ((by rw [hg]; exact (below_size (by repeat (first | (with_reducible first | exact HB.out | apply below_alloc | apply pw_below_drewN | apply below_drew1) | exact HB.out))) : w.heap.size ≤ gb104)); clear HB; have HB := n0_; have BK104 := n1_; have GW104 := n2_; have GE104 := n3_; clear n0_ n1_ n2_ n3_; clear hb hbox hg; have hcz4_0 : w3.cell? ⟨gb104, 0, none⟩ = some (.int .i64 a0_0) := (blk_cell BK104.out 0).trans rfl; have hcz4_1 : w3.cell? ⟨gb104, 1, none⟩ = some (.int .i64 a0_1) := (blk_cell BK104.out 1).trans rfl; have hcz4_2 : w3.cell? ⟨gb104, 2, none⟩ = some (.int .u8 a0_2) := (blk_cell BK104.out 2).trans rfl; have hfz4_0 := blk_frozen BK104.out 0; have hfz4_1 := blk_frozen BK104.out 1; have hfz4_2 := blk_frozen BK104.out 2))
    go_ret
    exact ⟨by first | rfl | (simp [errW_none, errW_some] <;> rfl) | (simp [*, errW_none, errW_some] <;> rfl), by repeat (first | (with_reducible first | exact HB.out | apply below_alloc | apply pw_below_drewN | apply below_drew1 | refine below_set ?_ GE104.out) | exact HB.out)⟩
  · rw [if_neg c2] at H
    have c2b0 : (a0_0 == 0) = false := beq_eq_false_iff_ne.mpr c2
    have c2b1 : (a0_0 != 0) = true := bne_iff_ne.mpr c2
    by_cases c5 : a0_0 > 8
    · rw [if_pos c5] at H
      have c5b0 : decide (8 < a0_0) = true := decide_eq_true c5
      clear c5
      by_cases c6 : a0_1 > 256
      · rw [if_pos c6] at H
        have c6b0 : decide (256 < a0_1) = true := decide_eq_true c6
        clear c6
        obtain rfl := Option.some.inj H
        go_enter Try.func37, Try.ntmps37
        go_wp2_with (first | ((with_reducible refine gate_dst (N := 1) rfl ?_); refine box_event ?hg (N := 1) ?hd (cs := #[.int .i64 a0_0, .int .i64 a0_1, .int .u8 a0_2]) (t := 47) ?hr ?_; (case hd => rfl); (case hg => rfl); (case hr => first | (go_simp; done) | (go_simp; rfl)); intro gb104 hg w7 hbox hb; have n0_ := Aside0.mk (below_step (by repeat (first | (with_reducible first | exact HB.out | apply below_alloc | apply pw_below_drewN | apply below_drew1) | exact HB.out)) hb); have n1_ := Aside0.mk (hbox); have n2_ := Aside0.mk ((by rw [hg]; exact (below_size (by repeat (first | (with_reducible first | exact HB.out | apply below_alloc | apply pw_below_drewN | apply below_drew1) | exact HB.out))) : w.heap.size ≤ gb104)); have n3_ := Aside0.mk ((by rw [hg]; exact (below_size (by repeat (first | (with_reducible first | exact HB.out | apply below_alloc | apply pw_below_drewN | apply below_drew1) | exact HB.out))) : w.heap.size ≤ gb104)); clear HB; have HB := n0_; have BK104 := n1_; have GW104 := n2_; have GE104 := n3_; clear n0_ n1_ n2_ n3_; clear hb hbox hg; have hcz8_0 : w7.cell? ⟨gb104, 0, none⟩ = some (.int .i64 a0_0) := (blk_cell BK104.out 0).trans rfl; have hcz8_1 : w7.cell? ⟨gb104, 1, none⟩ = some (.int .i64 a0_1) := (blk_cell BK104.out 1).trans rfl; have hcz8_2 : w7.cell? ⟨gb104, 2, none⟩ = some (.int .u8 a0_2) := (blk_cell BK104.out 2).trans rfl; have hfz8_0 := blk_frozen BK104.out 0; have hfz8_1 := blk_frozen BK104.out 1; have hfz8_2 := blk_frozen BK104.out 2))
        go_ret
        exact ⟨by first | rfl | (simp [errW_none, errW_some] <;> rfl) | (simp [*, errW_none, errW_some] <;> rfl), by repeat (first | (with_reducible first | exact HB.out | apply below_alloc | apply pw_below_drewN | apply below_drew1 | refine below_set ?_ GE104.out) | exact HB.out)⟩
      · rw [if_neg c6] at H
        have c6b0 : decide (256 < a0_1) = false := decide_eq_false c6
        clear c6
        obtain rfl := Option.some.inj H
        go_enter Try.func37, Try.ntmps37
        go_wp2_with (first | ((with_reducible refine gate_dst (N := 1) rfl ?_); refine box_event ?hg (N := 1) ?hd (cs := #[.int .i64 a0_0, .int .i64 a0_1, .int .u8 a0_2]) (t := 47) ?hr ?_; (case hd => rfl); (case hg => rfl); (case hr => first | (go_simp; done) | (go_simp; rfl)); intro gb104 hg w9 hbox hb; have n0_ := Aside0.mk (below_step (by repeat (first | (with_reducible first | exact HB.out | apply below_alloc | apply pw_below_drewN | apply below_drew1) | exact HB.out)) hb); have n1_ := Aside0.mk (hbox); have n2_ := Aside0.mk ((by rw [hg]; exact (below_size (by repeat (first | (with_reducible first | exact HB.out | apply below_alloc | apply pw_below_drewN | apply below_drew1) | exact HB.out))) : w.heap.size ≤ gb104)); have n3_ := Aside0.mk ((by rw [hg]; exact (below_size (by repeat (first | (with_reducible first | exact HB.out | apply below_alloc | apply pw_below_drewN | apply below_drew1) | exact HB.out))) : w.heap.size ≤ gb104)); clear HB; have HB := n0_; have BK104 := n1_; have GW104 := n2_; have GE104 := n3_; clear n0_ n1_ n2_ n3_; clear hb hbox hg; have hcz10_0 : w9.cell? ⟨gb104, 0, none⟩ = some (.int .i64 a0_0) := (blk_cell BK104.out 0).trans rfl; have hcz10_1 : w9.cell? ⟨gb104, 1, none⟩ = some (.int .i64 a0_1) := (blk_cell BK104.out 1).trans rfl; have hcz10_2 : w9.cell? ⟨gb104, 2, none⟩ = some (.int .u8 a0_2) := (blk_cell BK104.out 2).trans rfl; have hfz10_0 := blk_frozen BK104.out 0; have hfz10_1 := blk_frozen BK104.out 1; have hfz10_2 := blk_frozen BK104.out 2))
        go_ret
        exact ⟨by first | rfl | (simp [errW_none, errW_some] <;> rfl) | (simp [*, errW_none, errW_some] <;> rfl), by repeat (first | (with_reducible first | exact HB.out | apply below_alloc | apply pw_below_drewN | apply below_drew1 | refine below_set ?_ GE104.out) | exact HB.out)⟩
    · rw [if_neg c5] at H
      have c5b0 : decide (8 < a0_0) = false := decide_eq_false c5
      clear c5
      by_cases c11 : a0_1 > 256
      · rw [if_pos c11] at H
        have c11b0 : decide (256 < a0_1) = true := decide_eq_true c11
        clear c11
        obtain rfl := Option.some.inj H
        go_enter Try.func37, Try.ntmps37
        go_wp2_with (first | ((with_reducible refine gate_dst (N := 1) rfl ?_); refine box_event ?hg (N := 1) ?hd (cs := #[.int .i64 a0_0, .int .i64 a0_1, .int .u8 a0_2]) (t := 47) ?hr ?_; (case hd => rfl); (case hg => rfl); (case hr => first | (go_simp; done) | (go_simp; rfl)); intro gb104 hg w12 hbox hb; have n0_ := Aside0.mk (below_step (by repeat (first | (with_reducible first | exact HB.out | apply below_alloc | apply pw_below_drewN | apply below_drew1) | exact HB.out)) hb); have n1_ := Aside0.mk (hbox); have n2_ := Aside0.mk ((by rw [hg]; exact (below_size (by repeat (first | (with_reducible first | exact HB.out | apply below_alloc | apply pw_below_drewN | apply below_drew1) | exact HB.out))) : w.heap.size ≤ gb104)); have n3_ := Aside0.mk ((by rw [hg]; exact (below_size (by repeat (first | (with_reducible first | exact HB.out | apply below_alloc | apply pw_below_drewN | apply below_drew1) | exact HB.out))) : w.heap.size ≤ gb104)); clear HB; have HB := n0_; have BK104 := n1_; have GW104 := n2_; have GE104 := n3_; clear n0_ n1_ n2_ n3_; clear hb hbox hg; have hcz13_0 : w12.cell? ⟨gb104, 0, none⟩ = some (.int .i64 a0_0) := (blk_cell BK104.out 0).trans rfl; have hcz13_1 : w12.cell? ⟨gb104, 1, none⟩ = some (.int .i64 a0_1) := (blk_cell BK104.out 1).trans rfl; have hcz13_2 : w12.cell? ⟨gb104, 2, none⟩ = some (.int .u8 a0_2) := (blk_cell BK104.out 2).trans rfl; have hfz13_0 := blk_frozen BK104.out 0; have hfz13_1 := blk_frozen BK104.out 1; have hfz13_2 := blk_frozen BK104.out 2))
        go_ret
        exact ⟨by first | rfl | (simp [errW_none, errW_some] <;> rfl) | (simp [*, errW_none, errW_some] <;> rfl), by repeat (first | (with_reducible first | exact HB.out | apply below_alloc | apply pw_below_drewN | apply below_drew1 | refine below_set ?_ GE104.out) | exact HB.out)⟩
      · rw [if_neg c11] at H
        have c11b0 : decide (256 < a0_1) = false := decide_eq_false c11
        clear c11
        obtain rfl := Option.some.inj H
        go_enter Try.func37, Try.ntmps37
        go_wp2_with (first | ((with_reducible refine gate_dst (N := 1) rfl ?_); refine box_event ?hg (N := 1) ?hd (cs := #[.int .i64 a0_0, .int .i64 a0_1, .int .u8 a0_2]) (t := 47) ?hr ?_; (case hd => rfl); (case hg => rfl); (case hr => first | (go_simp; done) | (go_simp; rfl)); intro gb104 hg w14 hbox hb; have n0_ := Aside0.mk (below_step (by repeat (first | (with_reducible first | exact HB.out | apply below_alloc | apply pw_below_drewN | apply below_drew1) | exact HB.out)) hb); have n1_ := Aside0.mk (hbox); have n2_ := Aside0.mk ((by rw [hg]; exact (below_size (by repeat (first | (with_reducible first | exact HB.out | apply below_alloc | apply pw_below_drewN | apply below_drew1) | exact HB.out))) : w.heap.size ≤ gb104)); have n3_ := Aside0.mk ((by rw [hg]; exact (below_size (by repeat (first | (with_reducible first | exact HB.out | apply below_alloc | apply pw_below_drewN | apply below_drew1) | exact HB.out))) : w.heap.size ≤ gb104)); clear HB; have HB := n0_; have BK104 := n1_; have GW104 := n2_; have GE104 := n3_; clear n0_ n1_ n2_ n3_; clear hb hbox hg; have hcz15_0 : w14.cell? ⟨gb104, 0, none⟩ = some (.int .i64 a0_0) := (blk_cell BK104.out 0).trans rfl; have hcz15_1 : w14.cell? ⟨gb104, 1, none⟩ = some (.int .i64 a0_1) := (blk_cell BK104.out 1).trans rfl; have hcz15_2 : w14.cell? ⟨gb104, 2, none⟩ = some (.int .u8 a0_2) := (blk_cell BK104.out 2).trans rfl; have hfz15_0 := blk_frozen BK104.out 0; have hfz15_1 := blk_frozen BK104.out 1; have hfz15_2 := blk_frozen BK104.out 2))
        go_ret
        exact ⟨by first | rfl | (simp [errW_none, errW_some] <;> rfl) | (simp [*, errW_none, errW_some] <;> rfl), by repeat (first | (with_reducible first | exact HB.out | apply below_alloc | apply pw_below_drewN | apply below_drew1 | refine below_set ?_ GE104.out) | exact HB.out)⟩

/-! ### deflate_Split: function 25 -/
/-- The eight cells of an array. -/
def cells8 (f : Int → Int) : Array Value := #[.int .i64 (f 0), .int .i64 (f 1), .int .i64 (f 2), .int .i64 (f 3), .int .i64 (f 4), .int .i64 (f 5), .int .i64 (f 6), .int .i64 (f 7)]
def upd (f : Int → Int) (i v : Int) : Int → Int := fun j => if j = i then v else f j
theorem eight {i : Int} (h0 : 0 ≤ i) (h1 : i < 8) : i = 0 ∨ i = 1 ∨ i = 2 ∨ i = 3 ∨ i = 4 ∨ i = 5 ∨ i = 6 ∨ i = 7 := by omega
theorem cells8_get (f : Int → Int) (i : Int) (h0 : 0 ≤ i) (h1 : i < 8) : (cells8 f)[i.toNat]? = some (.int .i64 (f i)) := by
  rcases eight h0 h1 with rfl | rfl | rfl | rfl | rfl | rfl | rfl | rfl <;> rfl
theorem cells8_set (f : Int → Int) (i v : Int) (h0 : 0 ≤ i) (h1 : i < 8) : (cells8 f).setIfInBounds i.toNat (.int .i64 v) = cells8 (upd f i v) := by
  rcases eight h0 h1 with rfl | rfl | rfl | rfl | rfl | rfl | rfl | rfl <;> rfl
theorem cells8_one (f : Int → Int) : (cells8 f).all (·.oneCell') = true := by
  rw [Array.all_eq_true_iff_forall_mem]
  intro x hx
  simp only [cells8, List.mem_toArray, List.mem_cons, List.not_mem_nil, or_false] at hx
  rcases hx with rfl | rfl | rfl | rfl | rfl | rfl | rfl | rfl <;> rfl
def cls (t : S47) : Int := (deflate_class.f t.f0 t.f1 t.f2).getD 0
theorem cls_some (t : S47) (h : 0 ≤ t.f2 ∧ t.f2 ≤ 255) : deflate_class.f t.f0 t.f1 t.f2 = some (cls t) ∧ 0 ≤ cls t ∧ cls t < 8 := by
  have hw : wrap64 (t.f2 / 64) = t.f2 / 64 := by unfold wrap64; omega
  unfold cls deflate_class.f
  rw [hw]
  split
  · exact ⟨rfl, by rw [Option.getD_some]; omega, by rw [Option.getD_some]; omega⟩
  · split <;> split <;> exact ⟨rfl, by decide, by decide⟩
def sstep (f : Int → Int) (t : S47) : Int → Int := upd f (cls t) (wrap64 (f (cls t) + 1))
def sharesF (l : List S47) : Int → Int := l.foldl sstep (fun _ => 0)
theorem sharesF_snoc (l : List S47) (i : Int) (h0 : 0 ≤ i) (h1 : i < (l.length : Int)) : sharesF (l.take (i + 1).toNat) = sstep (sharesF (l.take i.toNat)) (rd_T47 l i) := by
  have hj : i.toNat < l.length := by omega
  rw [show (i + 1).toNat = i.toNat + 1 by omega, List.take_add_one, List.getElem?_eq_getElem hj]
  unfold sharesF rd_T47
  rw [List.foldl_append]
  simp [List.getD, List.getElem?_eq_getElem hj]
set_option maxHeartbeats 8000000 in
set_option maxRecDepth 100000 in
theorem deflate_shares.calls (A0 : Option Addr) (c0 : Nat) (l0 : List S47) (w : World) (hr0 : Kd.C k47 w A0 l0.length l0) (hc0 : l0.length ≤ c0) (hb : ∀ t ∈ l0, 0 ≤ t.f2 ∧ t.f2 ≤ 255) (hn : l0.length ≤ 9223372036854775806) :
    Calls Try.prog 32 #[.slice A0 l0.length c0] w fun e w' => e = .returned (.agg (cells8 (sharesF l0))) ∧ Below w.heap.size w w' := by
  have hu47 := Try.underlying47
  have HR0 := Aside0.mk hr0
  have HC0 := Aside0.mk hc0
  have HBY := Aside0.mk hb
  have HN := Aside0.mk hn
  clear hr0 hc0 hb hn
  have HB := Aside0.mk (Below.refl w.heap.size w)
  go_enter Try.func32, Try.ntmps32
  go_wp2_with (first
    | ((with_reducible refine gate_dst (N := 2) rfl ?_); refine box_event ?hg (N := 2) ?hd (cs := cells8 (fun _ => 0)) (t := 59) ?hr ?_; (case hd => rfl); (case hg => rfl); (case hr => first | (go_simp; done) | (go_simp; rfl)); intro gb hg w6 hbox hb; have HB1 := Aside0.mk (below_step HB.out hb); have BK2 := Aside0.mk hbox; have GE2 := Aside0.mk ((by rw [hg]; exact below_size HB.out) : w.heap.size ≤ gb); clear HB; have HB := HB1; clear HB1 hb hbox hg)
    | ((with_reducible refine gate_dst (N := 3) rfl ?_); refine box_event ?hg (N := 3) ?hd (cs := cells8 (fun _ => 0)) (t := 59) ?hr ?_; (case hd => rfl); (case hg => rfl); (case hr => first | (go_simp; done) | (go_simp; rfl)); intro gc hg w7 hbox hb; have HB1 := Aside0.mk (below_step HB.out hb); have BK3 := Aside0.mk hbox; have GE3 := Aside0.mk ((by rw [hg]; exact below_size HB.out) : w.heap.size ≤ gc); have NE := Aside0.mk ((by rw [hg]; exact Nat.ne_of_lt (blk_lt BK2.out)) : gb ≠ gc); have BK2' := Aside0.mk (blk_below BK2.out hb); clear BK2; have BK2 := BK2'; clear BK2' HB; have HB := HB1; clear HB1 hb hbox hg))
  go_loopg [8] (l0.length + 1) (fun kq v8 w' => ∃ i : Int, v8 = .int .i64 i ∧ Aside0 (0 ≤ i ∧ i ≤ (l0.length : Int) ∧ kq = ((l0.length : Int) - i).toNat + 1) ∧ Aside0 (w'.heap[gc]? = some (.cells (cells8 (sharesF (l0.take i.toNat))) 59 (0, 0))) ∧ Aside0 (w'.heap[gb]? = some (.cells (cells8 (fun _ => 0)) 59 (0, 0))) ∧ Aside0 (Below w.heap.size w w'))
  case atStart => exact ⟨0, rfl, ⟨⟨by omega, by omega, by omega⟩⟩, ⟨BK3.out⟩, ⟨BK2.out⟩, HB⟩
  case round =>
    clear BK3 BK2 HB
    obtain ⟨i, rfl, HA, BK3, BK2, HB⟩ := hrel
    cases gk with
    | zero => exact absurd HA.out.2.2 (by omega)
    | succ k2 =>
      have h0 := HA.out.1
      by_cases c8 : i < (l0.length : Int)
      · have c8b0 : decide (i < (l0.length : Int)) = true := decide_eq_true c8
        obtain ⟨ad1, e1, hx0, hx1, hx2⟩ := at_T47 HR0.out i h0 c8
        cases e1
        obtain ⟨t, ht⟩ : ∃ t : S47, rd_T47 l0 i = t := ⟨_, rfl⟩
        rw [ht] at hx0 hx1 hx2
        replace hx0 := (HB.out.cell (World.block_lt_of_cell? w _ hx0)).trans hx0
        replace hx1 := (HB.out.cell (World.block_lt_of_cell? w _ hx1)).trans hx1
        replace hx2 := (HB.out.cell (World.block_lt_of_cell? w _ hx2)).trans hx2
        have hbt : 0 ≤ t.f2 ∧ t.f2 ≤ 255 := HBY.out t (by
          rw [← ht]
          unfold rd_T47
          have hj : i.toNat < l0.length := by omega
          simp [List.getD, List.getElem?_eq_getElem hj])
        obtain ⟨hcl, hc0', hc8'⟩ := cls_some t hbt
        have CL := Aside0.mk hcl
        obtain ⟨f, hf⟩ : ∃ f : Int → Int, sharesF (l0.take i.toNat) = f := ⟨_, rfl⟩
        have HW := Aside0.mk (show wrap64 (i + 1) = i + 1 by have := HN.out; unfold wrap64; omega)
        have HNX := Aside0.mk (show sharesF (l0.take (i + 1).toNat) = upd f (cls t) (wrap64 (f (cls t) + 1)) by rw [sharesF_snoc l0 i h0 c8, ht, hf]; rfl)
        rw [hf] at BK3
        have HA' := Aside0.mk (show 0 ≤ i + 1 ∧ i + 1 ≤ (l0.length : Int) ∧ k2 = ((l0.length : Int) - (i + 1)).toNat + 1 by have h := HA.out; omega)
        have CI := Aside0.mk (And.intro hc0' hc8')
        obtain ⟨ci, hci⟩ : ∃ c : Int, cls t = c := ⟨_, rfl⟩
        rw [hci] at CL HNX CI
        replace h0 := eq_true h0
        replace c8 := eq_true c8
        clear HA ht hbt hcl hf hc0' hc8' hci
        go_wp2_with (first
          | ((with_reducible refine gate_dst (N := 5) rfl ?_); refine box_event ?hg (N := 5) ?hd (cs := #[.int .i64 0, .int .i64 0, .int .u8 0]) (t := 47) ?hr ?_; (case hd => rfl); (case hg => rfl); (case hr => first | (go_simp; done) | (go_simp; rfl)); intro g5 hg w8 hbox hb; have HB1 := Aside0.mk (below_step HB.out hb); have BK5 := Aside0.mk hbox; have GE5 := Aside0.mk ((by rw [hg]; exact below_size HB.out) : w.heap.size ≤ g5); have NE3 := Aside0.mk ((by rw [hg]; exact Nat.ne_of_lt (blk_lt BK3.out)) : gc ≠ g5); have NE2 := Aside0.mk ((by rw [hg]; exact Nat.ne_of_lt (blk_lt BK2.out)) : gb ≠ g5); have BK2' := Aside0.mk (blk_below BK2.out hb); have BK3' := Aside0.mk (blk_below BK3.out hb); clear BK2 BK3; have BK2 := BK2'; have BK3 := BK3'; clear BK2' BK3' HB; have HB := HB1; clear HB1 hb hbox hg; have hcz7_0 : w8.cell? ⟨g5, 0, none⟩ = some (.int .i64 0) := (blk_cell BK5.out 0).trans rfl; have hcz7_1 : w8.cell? ⟨g5, 1, none⟩ = some (.int .i64 0) := (blk_cell BK5.out 1).trans rfl; have hcz7_2 : w8.cell? ⟨g5, 2, none⟩ = some (.int .u8 0) := (blk_cell BK5.out 2).trans rfl; have hfz7_0 := blk_frozen BK5.out 0; have hfz7_1 := blk_frozen BK5.out 1; have hfz7_2 := blk_frozen BK5.out 2)
          | fail)
        go_at_call 37
        refine (deflate_class.calls _ _ _ _ _ CL.out).mono ?_
        rintro e w9 ⟨rfl, hb9⟩
        have BK3' := Aside0.mk (blk_below (blk_far (blk_far (blk_far BK3.out (p := ⟨g5, 0, none⟩) NE3.out _) (p := ⟨g5, 1, none⟩) NE3.out _) (p := ⟨g5, 2, none⟩) NE3.out _) hb9)
        have BK2' := Aside0.mk (blk_below (blk_far (blk_far (blk_far BK2.out (p := ⟨g5, 0, none⟩) NE2.out _) (p := ⟨g5, 1, none⟩) NE2.out _) (p := ⟨g5, 2, none⟩) NE2.out _) hb9)
        have HB' := Aside0.mk (below_step (below_set (below_set (below_set HB.out GE5.out) GE5.out) GE5.out) hb9)
        clear BK3 BK2 HB hb9 BK5 hcz7_0 hcz7_1 hcz7_2 hfz7_0 hfz7_1 hfz7_2 hx0 hx1 hx2
        have q0 : (0 ≤ ci) = True := eq_true CI.out.1
        have q1 : (ci < 8) = True := eq_true CI.out.2
        have y0 : w9.cell? ⟨gc, ci.toNat, none⟩ = some (.int .i64 (f ci)) := (blk_cell BK3'.out _).trans (cells8_get f ci CI.out.1 CI.out.2)
        have y1 := blk_frozen BK3'.out ci.toNat
        go_wp2
        go_roundg k2
        case measure => omega
        case rel =>
          refine ⟨wrap64 (i + 1), (by first | rfl | (simp; done) | (simp [*]; done)), ⟨by rw [HW.out]; exact HA'.out⟩, ⟨?_⟩, ⟨?_⟩, ⟨?_⟩⟩
          · rw [HW.out, HNX.out]
            exact blk_put BK3'.out _ _ (cells8_set f ci _ CI.out.1 CI.out.2)
          · exact blk_far BK2'.out NE.out _
          · exact below_set HB'.out GE3.out
      · have c8b0 : decide (i < (l0.length : Int)) = false := decide_eq_false c8
        have HI := Aside0.mk (show l0.take i.toNat = l0 from List.take_of_length_le (by omega))
        rw [HI.out] at BK3
        clear HA h0 c8
        go_wp2_with (first
          | (refine wpList_load_row (by rfl) 59 (.tmp 3) (by rfl) gc (by first | rfl | (go_simp; done) | (go_simp; rfl)) 59 _ (0, 0) _ BK3.out Try.underlying59 rfl (by kernel_rfl) ?_)
          | (refine wpList_store_row (by rfl) 59 (.tmp 2) (.tmp 19) (by rfl) gb (cells8 (sharesF l0)) (by first | rfl | (go_simp; done) | (go_simp; rfl)) (by first | rfl | (go_simp; done) | (go_simp; rfl)) 59 _ BK2.out (by kernel_rfl) rfl (cells8_one _) ?_)
          | fail)
        refine bodyPost_ret (v := .agg (cells8 (sharesF l0))) ?_ ?_ ?_
        rotate_left
        · rfl
        · exact ⟨rfl, below_setRow HB.out GE2.out _⟩
        exact results_cell_row (p := 2) (ty := 59) Try.results32 _ _ gb 59 _ (0, 0) _ (by rfl) (setRow_heap _ gb _ _ 59 (0, 0) BK2.out) Try.underlying59 rfl (by kernel_rfl)
theorem still_tail_drew {P : Program} {id : Nat} {Q : Exit → Act → World → Prop} {a : Act} {w : World} {l : List Oper} (n : Nat) (hm : P.follows .mixedOrders = true) (hB : Region.lexTailB .any l.toArray n = true)
    (h : wpStill P l.toArray w.drew (fun a' => wpList P l.toArray Q (l.drop n) a' w.drew) (l.take n) a) : (Code.region id l.toArray true).wp P Q a w := wp_region_still_tail n hm hB h
theorem i64w (x : Int) : IntKind.i64.wrap x = wrap64 x := by
  rw [IntKind.wrap_i64]
  unfold wrap64
  rfl
/-- By how much the shares of a class differ. -/
def chD (a b : Int → Int) (n k : Int) : Int := mx (wrap64 (wrap64 (128 * a k) - wrap64 (n * b k))) (wrap64 (wrap64 (n * b k) - wrap64 (128 * a k)))
def chS (a b : Int → Int) (n : Int) : Nat → Int
  | 0 => 0
  | k + 1 => wrap64 (chS a b n k + chD a b n k)
def chF (a b : Int → Int) (n : Int) : Bool := decide (wrap64 (128 * n) ≤ wrap64 (2 * chS a b n 8))
set_option maxHeartbeats 8000000 in
set_option maxRecDepth 100000 in
theorem deflate_changes.calls (a b : Int → Int) (n : Int) (w : World) :
    Calls Try.prog 34 #[.agg (cells8 a), .int .i64 n, .agg (cells8 b)] w fun e w' => e = .returned (.bool (chF a b n)) ∧ Below w.heap.size w w' := by
  have HB := Aside0.mk (Below.refl w.heap.size w)
  go_enter Try.func34, Try.ntmps34
  go_wp2_with (first
    | ((with_reducible refine gate_dst (N := 3) rfl ?_); refine box_event ?hg (N := 3) ?hd (cs := cells8 a) (t := 59) ?hr ?_; (case hd => rfl); (case hg => rfl); (case hr => first | (go_simp; done) | (go_simp; rfl)); intro gb hg w6 hbox hb; have HB1 := Aside0.mk (below_step HB.out hb); have BK2 := Aside0.mk hbox; clear HB; have HB := HB1; clear HB1 hb hbox hg)
    | ((with_reducible refine gate_dst (N := 5) rfl ?_); refine box_event ?hg (N := 5) ?hd (cs := cells8 b) (t := 59) ?hr ?_; (case hd => rfl); (case hg => rfl); (case hr => first | (go_simp; done) | (go_simp; rfl)); intro gc hg w7 hbox hb; have HB1 := Aside0.mk (below_step HB.out hb); have BK3 := Aside0.mk hbox; have BK2' := Aside0.mk (blk_below BK2.out hb); clear BK2; have BK2 := BK2'; clear BK2' HB; have HB := HB1; clear HB1 hb hbox hg)
    | fail)
  go_loopg [7, 9] 9 (fun kq v7 v9 w' => ∃ (s : Int) (j : Nat), v7 = .int .i64 s ∧ v9 = .int .i64 (j : Int) ∧ Aside0 (j + kq = 9 ∧ j ≤ 8 ∧ s = chS a b n j) ∧ Aside0 (w'.heap[gb]? = some (.cells (cells8 a) 59 (0, 0))) ∧ Aside0 (w'.heap[gc]? = some (.cells (cells8 b) 59 (0, 0))) ∧ Aside0 (Below w.heap.size w w'))
  case atStart => exact ⟨0, 0, rfl, rfl, ⟨⟨by omega, by omega, rfl⟩⟩, BK2, BK3, HB⟩
  case round =>
    clear BK3 BK2 HB
    obtain ⟨s, j, rfl, rfl, HA, BK2, BK3, HB⟩ := hrel
    cases gk with
    | zero => exact absurd HA.out.1 (by have := HA.out.2.1; omega)
    | succ k2 =>
      by_cases c8 : (j : Int) < 8
      · have c8b0 : decide ((j : Int) < 8) = true := decide_eq_true c8
        obtain ⟨i, hi⟩ : ∃ i : Int, (j : Int) = i := ⟨_, rfl⟩
        have h0 : 0 ≤ i := by omega
        rw [hi] at c8 c8b0
        rw [hi]
        have x0 : wr.cell? ⟨gb, i.toNat, none⟩ = some (.int .i64 (a i)) := (blk_cell BK2.out _).trans (cells8_get a i h0 c8)
        have x1 : wr.cell? ⟨gc, i.toNat, none⟩ = some (.int .i64 (b i)) := (blk_cell BK3.out _).trans (cells8_get b i h0 c8)
        obtain ⟨d, hd⟩ : ∃ d : Int, (if wrap64 (wrap64 (128 * a i) - wrap64 (n * b i)) < wrap64 (wrap64 (n * b i) - wrap64 (128 * a i)) then wrap64 (wrap64 (n * b i) - wrap64 (128 * a i)) else wrap64 (wrap64 (128 * a i) - wrap64 (n * b i))) = d := ⟨_, rfl⟩
        have HD := Aside0.mk (show wrap64 (s + d) = chS a b n (j + 1) by rw [← hd, HA.out.2.2, ← hi]; rfl)
        have HW := Aside0.mk (show wrap64 (i + 1) = ((j + 1 : Nat) : Int) by unfold wrap64; omega)
        have HA' := Aside0.mk (show (j + 1) + k2 = 9 ∧ j + 1 ≤ 8 by have := HA.out; omega)
        replace h0 := eq_true h0
        replace c8 := eq_true c8
        clear HA hi
        go_wp2_with fail
        refine still_tail_drew 23 (by kernel_rfl) (by kernel_rfl) ?_
        simp only [List.take_succ_cons, List.take_zero, List.drop_succ_cons, List.drop_zero]
        repeat still_step
        refine wpStill_nil ?_
        go_wp2
        all_goals simp only [i64w] at h ⊢
        all_goals first
          | (rw [if_neg (Int.not_lt.2 h)] at hd; subst hd)
          | (rw [if_pos h] at hd; subst hd)
        all_goals
          go_roundg k2
          case measure => omega
          case rel => exact ⟨_, j + 1, rfl, by rw [HW.out], ⟨⟨HA'.out.1, HA'.out.2, HD.out⟩⟩, ⟨BK2.out⟩, ⟨BK3.out⟩, ⟨below_drew HB.out⟩⟩
      · have c8b0 : decide ((j : Int) < 8) = false := decide_eq_false c8
        have HS := Aside0.mk (show s = chS a b n 8 by
          have h := HA.out
          obtain rfl : j = 8 := by omega
          exact h.2.2)
        clear HA c8
        go_wp2
        go_ret
        refine ⟨?_, HB.out⟩
        rw [HS.out]
        rfl
def soundT (t : S47) : Bool := (deflate_sound.f t.f0 t.f1 t.f2).getD false
theorem sound_some (t : S47) : deflate_sound.f t.f0 t.f1 t.f2 = some (soundT t) := by
  unfold soundT deflate_sound.f
  repeat' split
  all_goals rfl
def sadd (s : Int) (t : S47) : Int := wrap64 (s + mx 1 t.f0)
def saidF (l : List S47) : Int := l.foldl sadd 0
theorem said_loop (l : List S47) (hl : l.length ≤ 9223372036854775806) : ∀ (n i : Nat) (s : Int), i + n = l.length → ∀ k, n < k → deflate_said.l0 k s l (l.length : Int) (i : Int) = some ((l.drop i).foldl sadd s) := by
  intro n
  induction n with
  | zero =>
    intro i s hi k hk
    obtain ⟨k, rfl⟩ : ∃ q, k = q + 1 := ⟨k - 1, by omega⟩
    rw [deflate_said.l0, if_neg (by omega), List.drop_of_length_le (by omega)]
    rfl
  | succ n ih =>
    intro i s hi k hk
    obtain ⟨k, rfl⟩ : ∃ q, k = q + 1 := ⟨k - 1, by omega⟩
    rw [deflate_said.l0, if_pos (by omega), if_pos (by omega), if_pos (by omega), show wrap64 ((i : Int) + 1) = ((i + 1 : Nat) : Int) by unfold wrap64; omega, ih (i + 1) _ (by omega) k (by omega)]
    rw [List.drop_eq_getElem_cons (show i < l.length by omega), List.foldl_cons]
    unfold sadd rd_T47
    simp [List.getD, List.getElem?_eq_getElem (show i < l.length by omega)]
theorem said_eq (l : List S47) (hl : l.length ≤ 9223372036854775806) (k : Nat) (hk : l.length < k) : deflate_said.f k l = some (saidF l) := by
  unfold deflate_said.f saidF
  have := said_loop l hl l.length 0 0 (by omega) k hk
  rwa [List.drop_zero] at this
def addF (a o : Int → Int) : Nat → Int → Int
  | 0 => a
  | j + 1 => upd (addF a o j) (j : Int) (wrap64 (addF a o j (j : Int) + o (j : Int)))
def closeF (n b : Int) (nx : List S47) (ah : Int → Int) : Bool :=
  if 0 < n then (if 8192 ≤ n then true else if 65535 < wrap64 (b + saidF nx) then true else if (nx.length : Int) = 128 then chF ah (sharesF nx) n else false) else false
def splitGo : Nat → List Int → (Int → Int) → Int → Int → List S47 → Option (List Int)
  | 0, _, _, _, _, _ => none
  | k + 1, cs, ah, n, b, toks => if 0 < (toks.length : Int) then
      (if closeF n b (toks.take 128) ah = true then splitGo k (cs ++ [n]) (addF (fun _ => 0) (sharesF (toks.take 128)) 8) (wrap64 (0 + ((toks.take 128).length : Int))) (wrap64 (0 + saidF (toks.take 128))) (toks.drop 128)
        else splitGo k cs (addF ah (sharesF (toks.take 128)) 8) (wrap64 (n + ((toks.take 128).length : Int))) (wrap64 (b + saidF (toks.take 128))) (toks.drop 128))
    else some (cs ++ [n])
def byteT (t : S47) : Bool := decide (0 ≤ t.f2) && decide (t.f2 ≤ 255)
def deflate_Split.f (l0 : List S47) : Option (List Int × Int) :=
  if l0.all byteT then (if (l0.length : Int) > 16777216 then some ([], 1) else if l0.all soundT then (splitGo (l0.length + 1) [] (fun _ => 0) 0 0 l0).map fun r => (r, 0) else some ([], 100)) else none
theorem rd47_mem (l : List S47) (i : Int) (h0 : 0 ≤ i) (h1 : i < (l.length : Int)) : rd_T47 l i ∈ l := by
  have hj : i.toNat < l.length := by omega
  unfold rd_T47
  simp [List.getD, List.getElem?_eq_getElem hj]
theorem all_snoc (p : S47 → Bool) (l : List S47) (i : Int) (h0 : 0 ≤ i) (h1 : i < (l.length : Int)) : (l.take (i + 1).toNat).all p = ((l.take i.toNat).all p && p (rd_T47 l i)) := by
  have hj : i.toNat < l.length := by omega
  rw [show (i + 1).toNat = i.toNat + 1 by omega, List.take_add_one, List.getElem?_eq_getElem hj, List.all_append]
  unfold rd_T47
  simp [List.getD, List.getElem?_eq_getElem hj]
set_option maxHeartbeats 8000000 in
set_option maxRecDepth 100000 in
theorem deflate_Split.calls (A0 : Option Addr) (c0 : Nat) (l0 : List S47) (r1 : List Int) (r2 : Int) (w : World) (hr0 : Kd.C k47 w A0 l0.length l0) (hc0 : l0.length ≤ c0) (h : deflate_Split.f l0 = some (r1, r2)) :
    Calls Try.prog 25 #[.slice A0 l0.length c0] w fun e w' => ∃ v0_ : Value, e = .returned (.tuple #[v0_, .int .i64 r2]) ∧ Kd.R (Kd.int .i64) 3 w' w.heap.size (fun _ => True) v0_ r1 ∧ Below w.heap.size w w' := by
  have hu47 := Try.underlying47
  have HR0 := Aside0.mk hr0
  have HC0 := Aside0.mk hc0
  have HB := Aside0.mk (Below.refl w.heap.size w)
  unfold deflate_Split.f at h
  by_cases hby : l0.all byteT = true
  rotate_left
  · rw [if_neg hby] at h
    exact absurd h (by simp)
  rw [if_pos hby] at h
  have HBY := Aside0.mk (show ∀ t ∈ l0, 0 ≤ t.f2 ∧ t.f2 ≤ 255 by
    intro t ht
    have := List.all_eq_true.1 hby t ht
    unfold byteT at this
    simpa using this)
  clear hr0 hc0 hby
  by_cases c2 : (l0.length : Int) > 16777216
  · rw [if_pos c2] at h
    have c2b0 : decide (16777216 < (l0.length : Int)) = true := decide_eq_true c2
    have c2b1 : decide (16777216 < l0.length) = true := decide_eq_true (by omega)
    clear c2
    simp only [Option.some.injEq, Prod.mk.injEq] at h
    obtain ⟨rfl, rfl⟩ := h
    go_enter Try.func25, Try.ntmps25
    go_wp2
    go_ret2
    exact ⟨_, rfl, Kd.R_nil _ _ _ _ _, HB.out⟩
  · rw [if_neg c2] at h
    have c2b0 : decide (16777216 < (l0.length : Int)) = false := decide_eq_false c2
    have c2b1 : decide (16777216 < l0.length) = false := decide_eq_false (by omega)
    have LN := Aside0.mk (show l0.length ≤ 16777216 by omega)
    have H := Aside0.mk h
    clear c2 h
    go_enter Try.func25, Try.ntmps25
    go_wp2
    go_loopg [19] (l0.length + 1) (fun kq v19 w' => ∃ i : Int, v19 = .int .i64 i ∧ Aside0 (0 ≤ i ∧ i ≤ (l0.length : Int) ∧ kq = ((l0.length : Int) - i).toNat + 1 ∧ (l0.take i.toNat).all soundT = true) ∧ Aside0 (Below w.heap.size w w'))
    case atStart => exact ⟨0, rfl, ⟨⟨by omega, by omega, by omega, rfl⟩⟩, HB⟩
    case round =>
      clear HB
      obtain ⟨i, rfl, HA, HB⟩ := hrel
      cases gk with
      | zero => exact absurd HA.out.2.2.1 (by omega)
      | succ k2 =>
        have h0 := HA.out.1
        by_cases c8 : i < (l0.length : Int)
        · have c8b0 : decide (i < (l0.length : Int)) = true := decide_eq_true c8
          obtain ⟨ad1, e1, hx0, hx1, hx2⟩ := at_T47 HR0.out i h0 c8
          cases e1
          obtain ⟨t, ht⟩ : ∃ t : S47, rd_T47 l0 i = t := ⟨_, rfl⟩
          have HT := Aside0.mk ht
          rw [ht] at hx0 hx1 hx2
          replace hx0 := (HB.out.cell (World.block_lt_of_cell? w _ hx0)).trans hx0
          replace hx1 := (HB.out.cell (World.block_lt_of_cell? w _ hx1)).trans hx1
          replace hx2 := (HB.out.cell (World.block_lt_of_cell? w _ hx2)).trans hx2
          replace h0 := eq_true h0
          have c8' := Aside0.mk c8
          replace c8 := eq_true c8
          clear ht
          go_wp2_with (first
            | ((with_reducible refine gate_dst (N := 5) rfl ?_); refine box_event ?hg (N := 5) ?hd (cs := #[.int .i64 0, .int .i64 0, .int .u8 0]) (t := 47) ?hr ?_; (case hd => rfl); (case hg => rfl); (case hr => first | (go_simp; done) | (go_simp; rfl)); intro g5 hg w8 hbox hb; have HB1 := Aside0.mk (below_step HB.out hb); have BK5 := Aside0.mk hbox; have GE5 := Aside0.mk ((by rw [hg]; exact below_size HB.out) : w.heap.size ≤ g5); clear HB; have HB := HB1; clear HB1 hb hbox hg; have hcz7_0 : w8.cell? ⟨g5, 0, none⟩ = some (.int .i64 0) := (blk_cell BK5.out 0).trans rfl; have hcz7_1 : w8.cell? ⟨g5, 1, none⟩ = some (.int .i64 0) := (blk_cell BK5.out 1).trans rfl; have hcz7_2 : w8.cell? ⟨g5, 2, none⟩ = some (.int .u8 0) := (blk_cell BK5.out 2).trans rfl; have hfz7_0 := blk_frozen BK5.out 0; have hfz7_1 := blk_frozen BK5.out 1; have hfz7_2 := blk_frozen BK5.out 2)
            | fail)
          go_at_call 31
          refine (deflate_sound.calls _ _ _ _ _ (sound_some t)).mono ?_
          rintro e w9 ⟨rfl, hb9⟩
          have HB' := Aside0.mk (below_step (below_set (below_set (below_set HB.out GE5.out) GE5.out) GE5.out) hb9)
          clear HB hb9 BK5 hcz7_0 hcz7_1 hcz7_2 hfz7_0 hfz7_1 hfz7_2 hx0 hx1 hx2
          obtain ⟨s, hs⟩ : ∃ s : Bool, soundT t = s := ⟨_, rfl⟩
          rw [hs]
          cases s with
          | true =>
            have HW := Aside0.mk (show wrap64 (i + 1) = i + 1 by have := LN.out; have := c8'.out; have := HA.out; unfold wrap64; omega)
            have HA' := Aside0.mk (show 0 ≤ i + 1 ∧ i + 1 ≤ (l0.length : Int) ∧ k2 = ((l0.length : Int) - (i + 1)).toNat + 1 ∧ (l0.take (i + 1).toNat).all soundT = true by
              have h := HA.out
              have hc := c8'.out
              refine ⟨by omega, by omega, by omega, ?_⟩
              rw [all_snoc soundT l0 i h.1 hc, h.2.2.2, HT.out, hs]
              rfl)
            clear HA
            go_wp2
            go_roundg k2
            case measure => omega
            case rel => exact ⟨wrap64 (i + 1), (by first | rfl | (simp; done) | (simp [*]; done)), ⟨by rw [HW.out]; exact HA'.out⟩, HB'⟩
          | false =>
            have HF := Aside0.mk (show l0.all soundT = false by
              rw [Bool.eq_false_iff]
              intro hall
              have := List.all_eq_true.1 hall t (HT.out ▸ rd47_mem l0 i HA.out.1 c8'.out)
              rw [hs] at this
              cases this)
            have HX := H.out
            rw [HF.out, if_neg (by decide)] at HX
            simp only [Option.some.injEq, Prod.mk.injEq] at HX
            obtain ⟨rfl, rfl⟩ := HX
            clear HA
            go_wp2
            go_ret2
            exact ⟨_, rfl, Kd.R_nil _ _ _ _ _, HB'.out⟩
        · have c8b0 : decide (i < (l0.length : Int)) = false := decide_eq_false c8
          have HS := Aside0.mk (show l0.all soundT = true by
            have h := HA.out.2.2.2
            rwa [List.take_of_length_le (by have := HA.out; omega)] at h)
          have HX := H.out
          rw [HS.out, if_pos rfl] at HX
          obtain ⟨rr, hrr, hx⟩ := Option.map_eq_some_iff.1 HX
          simp only [Prod.mk.injEq] at hx
          obtain ⟨rfl, rfl⟩ := hx
          have HG := Aside0.mk hrr
          clear HA h0 c8 HX hrr H
          go_wp2_with (first
            | ((with_reducible refine gate_dst (N := 7) rfl ?_); refine box_event ?hg (N := 7) ?hd (cs := cells8 (fun _ => 0)) (t := 59) ?hr ?_; (case hd => rfl); (case hg => rfl); (case hr => first | (go_simp; done) | (go_simp; rfl)); intro g7 hg w8 hbox hb; have HB1 := Aside0.mk (below_step HB.out hb); have BK7 := Aside0.mk hbox; have GE7 := Aside0.mk ((by rw [hg]; exact below_size HB.out) : w.heap.size ≤ g7); clear HB; have HB := HB1; clear HB1 hb hbox hg)
            | fail)
          go_loopg [0, 6, 8, 9] (l0.length + 1) (fun kq v0 v6 v8 v9 w' => ∃ (cs : List Int) (ah : Int → Int) (n b : Int) (A : Option Addr) (c : Nat) (toks : List S47), v0 = .slice A toks.length c ∧ v8 = .int .i64 n ∧ v9 = .int .i64 b ∧ Aside0 (splitGo kq cs ah n b toks = some rr) ∧ Aside0 (kq ≤ l0.length + 1) ∧ Aside0 (Kd.C k47 w A toks.length toks) ∧ Aside0 (toks.length ≤ c ∧ cs.length + toks.length ≤ l0.length ∧ ∀ t ∈ toks, 0 ≤ t.f2 ∧ t.f2 ≤ 255) ∧ Aside0 (Kd.R (Kd.int .i64) 3 w' w.heap.size (fun _ => True) v6 cs) ∧ Aside0 (w'.heap[g7]? = some (.cells (cells8 ah) 59 (0, 0))) ∧ Aside0 (Below w.heap.size w w'))
          case atStart => exact ⟨[], fun _ => 0, 0, 0, A0, c0, l0, rfl, rfl, rfl, HG, ⟨Nat.le_refl _⟩, HR0, ⟨⟨HC0.out, by simp, HBY.out⟩⟩, ⟨Kd.R_nil _ _ _ _ _⟩, BK7, HB⟩
          case round =>
            clear HB BK7 HG
            obtain ⟨cs, ah, n, b, A, c, toks, rfl, rfl, rfl, HG, HK, HRT, HT, HO, BK7, HB⟩ := hrel
            cases gk with
            | zero => exact absurd HG.out (by simp [splitGo])
            | succ k3 =>
              have hg := HG.out
              clear HG
              rw [splitGo] at hg
              by_cases c9 : 0 < (toks.length : Int)
              · rw [if_pos c9] at hg
                have c9b0 : decide (0 < (toks.length : Int)) = true := decide_eq_true c9
                have c9b1 : decide (0 < toks.length) = true := decide_eq_true (by omega)
                obtain ⟨m, hm⟩ : ∃ m : Int, (if (toks.length : Int) < 128 then (toks.length : Int) else 128) = m := ⟨_, rfl⟩
                obtain ⟨nx, hnx⟩ : ∃ nx : List S47, toks.take 128 = nx := ⟨_, rfl⟩
                obtain ⟨rs, hrs⟩ : ∃ rs : List S47, toks.drop 128 = rs := ⟨_, rfl⟩
                rw [hnx, hrs] at hg
                have hmv : m = min 128 toks.length := by rw [← hm]; split <;> omega
                have hnl : nx.length = m.toNat := by rw [← hnx, List.length_take]; omega
                have hrl : rs.length = toks.length - m.toNat := by rw [← hrs, List.length_drop]; omega
                have htk : toks.take m.toNat = nx := by
                  rw [← hnx]
                  by_cases h128 : 128 ≤ toks.length
                  · rw [show m.toNat = 128 by omega]
                  · rw [List.take_of_length_le (by omega), List.take_of_length_le (by omega)]
                have hdr : toks.drop m.toNat = rs := by
                  rw [← hrs]
                  by_cases h128 : 128 ≤ toks.length
                  · rw [show m.toNat = 128 by omega]
                  · rw [List.drop_of_length_le (by omega), List.drop_of_length_le (by omega)]
                obtain ⟨i0, hi0, _, hsz0, _⟩ := info_parts info47
                have hcut1 := cut_to (P := Try.prog) 45 47 .i64 Try.underlying45 hi0 A toks.length c m (by omega) (by omega) HT.out.1
                have hcut2 := cut_from (P := Try.prog) 45 47 .i64 Try.underlying45 hi0 3 hsz0 A toks.length c m (by omega) (by omega)
                have hC1 := Kd.C_take (m := m.toNat) HRT.out (by omega)
                have hC2 := Kd.C_drop (m := m.toNat) (c := c) HRT.out (by omega) HT.out.1
                obtain ⟨A1, hA1⟩ : ∃ A1, (if c = m.toNat then A else (A : Option Addr).map (·.add (m.toNat * 3))) = A1 := ⟨_, rfl⟩
                obtain ⟨c1, hc1⟩ : ∃ c1, c - m.toNat = c1 := ⟨_, rfl⟩
                rw [htk] at hC1
                rw [hdr] at hC2
                replace hC2 : Kd.C k47 w A1 rs.length rs := by rw [← hA1]; exact hC2
                rw [← hnl] at hcut1
                rw [hA1, ← hrl, hc1] at hcut2
                have hmi : m = (nx.length : Int) := by omega
                rw [hmi] at hcut1 hcut2 hm
                have HRN := Aside0.mk hC1
                have HRS := Aside0.mk hC2
                have HBN := Aside0.mk (show ∀ t ∈ nx, 0 ≤ t.f2 ∧ t.f2 ≤ 255 from fun t ht => HT.out.2.2 t (List.mem_of_mem_take (hnx ▸ ht)))
                have HBS := Aside0.mk (show ∀ t ∈ rs, 0 ≤ t.f2 ∧ t.f2 ≤ 255 from fun t ht => HT.out.2.2 t (List.mem_of_mem_drop (hrs ▸ ht)))
                have HLN := Aside0.mk (show nx.length ≤ c ∧ nx.length ≤ 128 ∧ rs.length ≤ c1 ∧ cs.length + 1 + rs.length ≤ l0.length ∧ nx.length + rs.length = toks.length by
                  have := HT.out
                  refine ⟨by omega, by omega, by omega, by omega, by omega⟩)
                have HG := Aside0.mk hg
                clear hg hC1 hC2 hmi hmv hnl hrl htk hdr hi0 hsz0 hA1 hc1 hnx hrs c9 HT
                go_wp2_with fail
                go_at_call 32
                refine (deflate_shares.calls A c nx _ (Kd.C_below HRN.out HB.out) HLN.out.1 HBN.out (by have := HLN.out; omega)).mono ?_
                rintro e w5 ⟨rfl, hb5⟩
                have HB5 := Aside0.mk (below_step HB.out hb5)
                have HO5 := Aside0.mk (Kd.R_below HO.out hb5)
                have BK5 := Aside0.mk (blk_below BK7.out hb5)
                clear HB HO BK7 hb5
                go_wp2_with fail
                go_at_call 33
                refine (deflate_said.calls (nx.length + 1) A c nx _ _ (Kd.C_below HRN.out HB5.out) HLN.out.1 (said_eq nx (by have := HLN.out; omega) _ (by omega))).mono ?_
                rintro e w6 ⟨rfl, hb6⟩
                have HB := Aside0.mk (below_step HB5.out hb6)
                have HO := Aside0.mk (Kd.R_below HO5.out hb6)
                have BK7 := Aside0.mk (blk_below BK5.out hb6)
                clear HB5 HO5 BK5 hb6
                go_upto_region 16 with (first
                  | ((with_reducible refine gate_dst (N := 11) rfl ?_); refine box_event ?hg (N := 11) ?hd (cs := cells8 (fun _ => 0)) (t := 59) ?hr ?_; (case hd => rfl); (case hg => rfl); (case hr => first | (go_simp; done) | (go_simp; rfl)); intro g11 hg w8 hbox hb; have HB1 := Aside0.mk (below_step HB.out hb); have HO1 := Aside0.mk (Kd.R_below HO.out hb); have BK11 := Aside0.mk hbox; have GE11 := Aside0.mk ((by rw [hg]; exact below_size HB.out) : w.heap.size ≤ g11); have NE11 := Aside0.mk ((by rw [hg]; exact Nat.ne_of_lt (blk_lt BK7.out)) : g7 ≠ g11); have BK1 := Aside0.mk (blk_below BK7.out hb); clear HB HO BK7; have HB := HB1; have HO := HO1; have BK7 := BK1; clear HB1 HO1 BK1 hb hbox hg)
                  | (refine wpList_store_row (by rfl) 59 (.tmp 11) (.tmp 40) (by rfl) g11 (cells8 (sharesF nx)) (by first | rfl | (go_simp; done) | (go_simp; rfl)) (by first | rfl | (go_simp; done) | (go_simp; rfl)) 59 _ BK11.out (by kernel_rfl) rfl (cells8_one _) ?_)
                  | fail)
                have BKA := Aside0.mk (setRow_heap w8 g11 _ (cells8 (sharesF nx)) 59 (0, 0) BK11.out)
                have BKB := Aside0.mk ((setRow_other w8 g11 g7 (cells8 (sharesF nx)) NE11.out).trans BK7.out)
                have HBA := Aside0.mk (below_setRow HB.out GE11.out (cells8 (sharesF nx)))
                have HOA := Aside0.mk (Kd.R_mono (Kd.R_step (w1 := w8.setRow g11 (cells8 (sharesF nx))) (Kd.R_types HO.out BK11.out (fun q hq => by rcases List.mem_cons.1 hq with rfl | h; decide; cases h)) (fun k hk _ => setRow_other w8 g11 k _ hk.2)) (fun _ hk => hk.1))
                clear BK7 BK11 HB HO
                generalize w8.setRow g11 (cells8 (sharesF nx)) = w9 at BKA BKB HBA HOA ⊢
                obtain ⟨D, hD⟩ : ∃ D, closeF n b nx ah = D := ⟨_, rfl⟩
                go_cut [65] from 27 to 89 (fun v65 wx => v65 = .bool D ∧ Aside0 (Kd.R (Kd.int .i64) 3 wx w.heap.size (fun _ => True) u6 cs) ∧ Aside0 (wx.heap[g7]? = some (.cells (cells8 ah) 59 (0, 0))) ∧ Aside0 (wx.heap[g11]? = some (.cells (cells8 (sharesF nx)) 59 (0, 0))) ∧ Aside0 (Below w.heap.size w wx))
                case first =>
                  unfold closeF at hD
                  by_cases d1 : 0 < n
                  · rw [if_pos d1] at hD
                    have d1b := decide_eq_true d1
                    clear d1
                    by_cases d2 : 8192 ≤ n
                    · rw [if_pos d2] at hD
                      have d2b := decide_eq_true d2
                      clear d2
                      subst hD
                      go_wp2
                      go_meet
                      exact ⟨rfl, HOA, BKB, BKA, HBA⟩
                    · rw [if_neg d2] at hD
                      have d2b := decide_eq_false d2
                      clear d2
                      by_cases d3 : 65535 < wrap64 (b + saidF nx)
                      · rw [if_pos d3] at hD
                        have d3b := decide_eq_true d3
                        clear d3
                        subst hD
                        go_wp2
                        go_meet
                        exact ⟨rfl, HOA, BKB, BKA, HBA⟩
                      · rw [if_neg d3] at hD
                        have d3b := decide_eq_false d3
                        clear d3
                        by_cases d4 : (nx.length : Int) = 128
                        · rw [if_pos d4] at hD
                          have d4b : ((nx.length : Int) == 128) = true := beq_iff_eq.2 d4
                          clear d4
                          have HD := Aside0.mk hD
                          clear hD
                          go_wp2_with (first
                            | ((with_reducible refine gate_dst (N := 59) rfl ?_); refine gate_guard (by first | rfl | (go_simp; done)) ?_; refine wpList_load_row (by rfl) 59 (.tmp 7) (by rfl) g7 (by first | rfl | (go_simp; done) | (go_simp; rfl)) 59 _ (0, 0) _ BKB.out Try.underlying59 rfl (by kernel_rfl) ?_)
                            | ((with_reducible refine gate_dst (N := 61) rfl ?_); refine gate_guard (by first | rfl | (go_simp; done)) ?_; refine wpList_load_row (by rfl) 59 (.tmp 11) (by rfl) g11 (by first | rfl | (go_simp; done) | (go_simp; rfl)) 59 _ (0, 0) _ BKA.out Try.underlying59 rfl (by kernel_rfl) ?_)
                            | fail)
                          go_at_call 34
                          refine (deflate_changes.calls ah (sharesF nx) n _).mono ?_
                          rintro e w10 ⟨rfl, hb10⟩
                          have q1 := Aside0.mk (Kd.R_below HOA.out hb10)
                          have q2 := Aside0.mk (blk_below BKB.out hb10)
                          have q3 := Aside0.mk (blk_below BKA.out hb10)
                          have q4 := Aside0.mk (below_step HBA.out hb10)
                          rw [HD.out]
                          clear HOA BKB BKA HBA hb10
                          go_wp2
                          go_meet
                          exact ⟨rfl, q1, q2, q3, q4⟩
                        · rw [if_neg d4] at hD
                          have d4b : ((nx.length : Int) == 128) = false := beq_eq_false_iff_ne.2 d4
                          clear d4
                          subst hD
                          go_wp2
                          go_meet
                          exact ⟨rfl, HOA, BKB, BKA, HBA⟩
                  · rw [if_neg d1] at hD
                    have d1b := decide_eq_false d1
                    clear d1
                    subst hD
                    go_wp2
                    go_meet
                    exact ⟨rfl, HOA, BKB, BKA, HBA⟩
                case rest =>
                  clear HOA BKB BKA HBA
                  obtain ⟨rfl, HO, BK7, BK11, HB⟩ := hcut
                  go_upto_if 65 with fail
                  go_cut [6, 8, 9] from 27 to 89 (fun v6 v8 v9 wx => ∃ (cs' : List Int) (ah' : Int → Int) (n' b' : Int), v8 = .int .i64 n' ∧ v9 = .int .i64 b' ∧ Aside0 (cs'.length ≤ cs.length + 1 ∧ splitGo k3 cs' (addF ah' (sharesF nx) 8) (wrap64 (n' + (nx.length : Int))) (wrap64 (b' + saidF nx)) rs = some rr) ∧ Aside0 (Kd.R (Kd.int .i64) 3 wx w.heap.size (fun _ => True) v6 cs') ∧ Aside0 (wx.heap[g7]? = some (.cells (cells8 ah') 59 (0, 0))) ∧ Aside0 (wx.heap[g11]? = some (.cells (cells8 (sharesF nx)) 59 (0, 0))) ∧ Aside0 (Below w.heap.size w wx))
                  case first =>
                    have hg := HG.out
                    rw [hD] at hg
                    cases D with
                    | true =>
                      rw [if_pos rfl] at hg
                      have HG2 := Aside0.mk hg
                      have NU7 := Aside0.mk (Kd.R_ne HO.out BK7.out (by decide))
                      have NU11 := Aside0.mk (Kd.R_ne HO.out BK11.out (by decide))
                      clear hg HG
                      go_wp2_with (first
                        | ((with_reducible refine gate_builtin (b := .append) (xs := #[.tmp 66, .tmp 68]) rfl ?_); at_builtin; refine Kd.R_append (Kd.int .i64) (w0 := w) w.heap.size rfl (.tmp 66) (.tmp 68) 48 3 (.int .i64 0) 8 rfl Try.underlying48 info3 rfl (by decide) (by omega) u6 cs n [.int .i64 n] (fun _ => True) (fun _ => False) rfl rfl ?aP (fun _ hk => hk.elim) ?aF ?aO ?aB ?aS ?aL ?_; (case aP => exact rfl); (case aB => exact HB.out); (case aF => exact (fun _ _ => trivial)); (case aO => exact HO.out); (case aS => exact below_size HB.out); (case aL => have := HLN.out; have := LN.out; omega); intro v12 w12 ho hb hgr hat; have HB2 := Aside0.mk hb; have HO2 := Aside0.mk ho; have BK72 := Aside0.mk (blk_grown BK7.out hgr NU7.out); have BK112 := Aside0.mk (blk_grown BK11.out hgr NU11.out); clear HB HO BK7 BK11; have HB := HB2; have HO := HO2; have BK7 := BK72; have BK11 := BK112; clear HB2 HO2 BK72 BK112 ho hb hgr hat)
                        | (refine wpList_store_row (by rfl) 59 (.tmp 7) (.tmp 70) (by rfl) g7 (cells8 (fun _ => 0)) (by first | rfl | (go_simp; done) | (go_simp; rfl)) (by first | rfl | (go_simp; done) | (go_simp; rfl)) 59 _ BK7.out (by kernel_rfl) rfl (cells8_one _) ?_)
                        | fail)
                      go_meet
                      refine ⟨cs ++ [n], fun _ => 0, 0, 0, rfl, rfl, ⟨⟨by simp, HG2.out⟩⟩, ⟨?_⟩, ⟨setRow_heap _ g7 _ (cells8 (fun _ => 0)) 59 (0, 0) BK7.out⟩, ⟨(setRow_other _ g7 g11 _ (Ne.symm NE11.out)).trans BK11.out⟩, ⟨below_setRow HB.out GE7.out _⟩⟩
                      exact Kd.R_mono (Kd.R_step (Kd.R_types HO.out BK7.out (fun q hq => by rcases List.mem_cons.1 hq with rfl | h; decide; cases h)) (fun k hk _ => setRow_other _ g7 k _ hk.2)) (fun _ hk => hk.1)
                    | false =>
                      rw [if_neg (by decide)] at hg
                      have HG2 := Aside0.mk hg
                      clear hg HG
                      go_wp2_with fail
                      go_meet
                      exact ⟨cs, ah, n, b, rfl, rfl, ⟨⟨by omega, HG2.out⟩⟩, HO, BK7, BK11, HB⟩
                  case rest =>
                    clear HO BK7 BK11 HB HG hD
                    obtain ⟨cs', ah', n', b', rfl, rfl, HG, HO, BK7, BK11, HB⟩ := hcut
                    obtain ⟨o, ho⟩ : ∃ o : Int → Int, sharesF nx = o := ⟨_, rfl⟩
                    rw [ho] at HG BK11
                    go_wp2_with fail
                    go_loopg [78] 9 (fun kq v78 w' => ∃ j : Nat, v78 = .int .i64 (j : Int) ∧ Aside0 (j + kq = 9 ∧ j ≤ 8) ∧ Aside0 (Kd.R (Kd.int .i64) 3 w' w.heap.size (fun _ => True) u6 cs') ∧ Aside0 (w'.heap[g7]? = some (.cells (cells8 (addF ah' o j)) 59 (0, 0))) ∧ Aside0 (w'.heap[g11]? = some (.cells (cells8 o) 59 (0, 0))) ∧ Aside0 (Below w.heap.size w w'))
                    case atStart => exact ⟨0, rfl, ⟨⟨by omega, by omega⟩⟩, HO, BK7, BK11, HB⟩
                    case round =>
                      clear HO BK7 BK11 HB
                      obtain ⟨j, rfl, HJ, HO, BK7, BK11, HB⟩ := hrel
                      cases gk with
                      | zero => exact absurd HJ.out.1 (by have := HJ.out.2; omega)
                      | succ k4 =>
                        by_cases c10 : (j : Int) < 8
                        · have c10b0 : decide ((j : Int) < 8) = true := decide_eq_true c10
                          obtain ⟨q, hq⟩ : ∃ q : Int, (j : Int) = q := ⟨_, rfl⟩
                          have h0 : 0 ≤ q := by omega
                          rw [hq] at c10 c10b0
                          rw [hq]
                          have x0 : wr.cell? ⟨g7, q.toNat, none⟩ = some (.int .i64 (addF ah' o j q)) := (blk_cell BK7.out _).trans (cells8_get _ q h0 c10)
                          have x1 : wr.cell? ⟨g11, q.toNat, none⟩ = some (.int .i64 (o q)) := (blk_cell BK11.out _).trans (cells8_get o q h0 c10)
                          have x2 := blk_frozen BK7.out q.toNat
                          have HW := Aside0.mk (show wrap64 (q + 1) = ((j + 1 : Nat) : Int) by unfold wrap64; omega)
                          have HJ' := Aside0.mk (show (j + 1) + k4 = 9 ∧ j + 1 ≤ 8 by have := HJ.out; omega)
                          have HQ := Aside0.mk hq
                          have HQ1 := Aside0.mk (And.intro h0 c10)
                          have HB2 := Aside0.mk (below_drew HB.out)
                          have HO2 := Aside0.mk (Kd.R_drew HO.out)
                          replace x0 : wr.drew.cell? ⟨g7, q.toNat, none⟩ = some (.int .i64 (addF ah' o j q)) := x0
                          replace x1 : wr.drew.cell? ⟨g11, q.toNat, none⟩ = some (.int .i64 (o q)) := x1
                          replace x2 : wr.drew.frozen? ⟨g7, q.toNat, none⟩ = false := x2
                          have BK72 := Aside0.mk (blk_drew BK7.out)
                          have BK112 := Aside0.mk (blk_drew BK11.out)
                          replace h0 := eq_true h0
                          replace c10 := eq_true c10
                          clear HJ hq HB HO BK7 BK11
                          go_wp2_with fail
                          refine still_tail_drew 8 (by kernel_rfl) (by kernel_rfl) ?_
                          generalize wr.drew = wd at x0 x1 x2 HB2 HO2 BK72 BK112 ⊢
                          simp only [List.take_succ_cons, List.take_zero, List.drop_succ_cons, List.drop_zero]
                          repeat still_step
                          refine wpStill_nil ?_
                          go_wp2
                          go_roundg k4
                          case measure => omega
                          case rel =>
                            refine ⟨j + 1, by rw [HW.out], HJ', ⟨?_⟩, ⟨?_⟩, ⟨?_⟩, ⟨?_⟩⟩
                            · exact Kd.R_set HO2.out BK72.out (fun q hq => by rcases List.mem_cons.1 hq with rfl | h; decide; cases h) _ _
                            · refine blk_put BK72.out _ _ ?_
                              rw [addF, HQ.out]
                              first | exact cells8_set _ q _ HQ1.out.1 HQ1.out.2 | (simp only [i64w]; exact cells8_set _ q _ HQ1.out.1 HQ1.out.2)
                            · exact blk_far BK112.out (Ne.symm NE11.out) _
                            · exact below_set HB2.out GE7.out
                        · have c10b0 : decide ((j : Int) < 8) = false := decide_eq_false c10
                          obtain rfl : j = 8 := by have := HJ.out; omega
                          clear HJ c10
                          go_wp2
                          go_roundg k3
                          case measure => have := HK.out; omega
                          case rel => exact ⟨cs', addF ah' o 8, wrap64 (n' + (nx.length : Int)), wrap64 (b' + saidF nx), A1, c1, rs, rfl, rfl, rfl, ⟨HG.out.2⟩, ⟨by have := HK.out; omega⟩, HRS, ⟨⟨HLN.out.2.2.1, by have := HLN.out; have := HG.out.1; omega, HBS.out⟩⟩, HO, BK7, HB⟩
              · rw [if_neg c9] at hg
                have c9b0 : decide (0 < (toks.length : Int)) = false := decide_eq_false c9
                have c9b1 : decide (0 < toks.length) = false := decide_eq_false (by omega)
                obtain rfl := Option.some.inj hg
                clear c9
                go_wp2_with (first
                  | ((with_reducible refine gate_builtin (b := .append) (xs := #[.tmp 90, .tmp 92]) rfl ?_); at_builtin; refine Kd.R_append (Kd.int .i64) (w0 := w) w.heap.size rfl (.tmp 90) (.tmp 92) 48 3 (.int .i64 0) 8 rfl Try.underlying48 info3 rfl (by decide) (by omega) u6 cs n [.int .i64 n] (fun _ => True) (fun _ => False) rfl rfl ?aP (fun _ hk => hk.elim) ?aF ?aO ?aB ?aS ?aL ?_; (case aP => exact rfl); (case aB => exact HB.out); (case aF => exact (fun _ _ => trivial)); (case aO => exact HO.out); (case aS => exact below_size HB.out); (case aL => have := HT.out; have := LN.out; omega); intro v12 w12 ho hb hgr hat; have HB2 := Aside0.mk hb; have HO2 := Aside0.mk ho; clear HB HO BK7; have HB := HB2; have HO := HO2; clear HB2 HO2 ho hb hgr hat)
                  | fail)
                go_ret2
                exact ⟨_, rfl, HO.out, HB.out⟩

end Go.Proofs.Ytpndhoefmepfdaa.PSu
