-- WRITTEN BY myprint.py (this claim's own program, over the kit's printer): Lean checks it.
import Derived.Test.YtpndhoefmepfdaaPSux0
import Derived.Test.YtpndhoefmepfdaaPSux1
namespace Go.Proofs.Ytpndhoefmepfdaa.PSu
open Go.RowKit Go.Proofs.YtpndhoefmepfdaaW.PrintWords Go.Proofs.YtpndhoefmepfdaaW.PrintLast Go.Proofs.YtpndhoefmepfdaaW.PrintMore
open Go.Proofs.Ytpndhoefmepfdaa.More
attribute [local go_sem] max2_int min2_int max_two min_two max_three min_three max_four min_four   -- for this text's walks alone
set_option linter.unusedVariables false
set_option linter.unusedSimpArgs false

/-! ### valiselaw11_DeflateSums: function 7 -/
mutual
def valiselaw11_DeflateSums.l0 : Nat → List (S47) → List Int → Int → Int → Option (Bool)
  | 0, _, _, _, _ => none
  | k + 1, x0, x4, x5, x6 => if x6 < (x0.length : Int) then (if 0 ≤ x6 then (if ((rd_T47 x0 x6).f0) = 0 then (if ((rd_T47 x0 x6).f0) ≥ 3 then (if ((rd_T47 x0 x6).f0) ≤ 258 then (if ((rd_T47 x0 x6).f1) ≥ 1 then (if ((rd_T47 x0 x6).f1) ≤ 32768 then (if (((rd_T47 x0 x6).f1) = 0) then (valiselaw11_DeflateSums.l0 k x0 x4 x5 (wrap64 (x6 + 1))) else (if (((rd_T47 x0 x6).f2) = 0) then (valiselaw11_DeflateSums.l0 k x0 x4 x5 (wrap64 (x6 + 1))) else ((valiselaw11_num.f x5).bind fun t118 => (if t118 = 100 then (some ((x4.length : Int) == 0)) else (some false))))) else (if (((rd_T47 x0 x6).f1) = 0) then (valiselaw11_DeflateSums.l0 k x0 x4 x5 (wrap64 (x6 + 1))) else ((valiselaw11_num.f x5).bind fun t119 => (if t119 = 100 then (some ((x4.length : Int) == 0)) else (some false))))) else (if (((rd_T47 x0 x6).f1) = 0) then (valiselaw11_DeflateSums.l0 k x0 x4 x5 (wrap64 (x6 + 1))) else ((valiselaw11_num.f x5).bind fun t120 => (if t120 = 100 then (some ((x4.length : Int) == 0)) else (some false))))) else (if (((rd_T47 x0 x6).f1) = 0) then (valiselaw11_DeflateSums.l0 k x0 x4 x5 (wrap64 (x6 + 1))) else ((valiselaw11_num.f x5).bind fun t121 => (if t121 = 100 then (some ((x4.length : Int) == 0)) else (some false))))) else (if (((rd_T47 x0 x6).f1) = 0) then (valiselaw11_DeflateSums.l0 k x0 x4 x5 (wrap64 (x6 + 1))) else ((valiselaw11_num.f x5).bind fun t122 => (if t122 = 100 then (some ((x4.length : Int) == 0)) else (some false))))) else (if ((rd_T47 x0 x6).f0) ≥ 3 then (if ((rd_T47 x0 x6).f0) ≤ 258 then (if ((rd_T47 x0 x6).f1) ≥ 1 then (if ((rd_T47 x0 x6).f1) ≤ 32768 then (if (((rd_T47 x0 x6).f2) = 0) then (valiselaw11_DeflateSums.l0 k x0 x4 x5 (wrap64 (x6 + 1))) else ((valiselaw11_num.f x5).bind fun t123 => (if t123 = 100 then (some ((x4.length : Int) == 0)) else (some false)))) else ((valiselaw11_num.f x5).bind fun t124 => (if t124 = 100 then (some ((x4.length : Int) == 0)) else (some false)))) else ((valiselaw11_num.f x5).bind fun t125 => (if t125 = 100 then (some ((x4.length : Int) == 0)) else (some false)))) else ((valiselaw11_num.f x5).bind fun t126 => (if t126 = 100 then (some ((x4.length : Int) == 0)) else (some false)))) else ((valiselaw11_num.f x5).bind fun t127 => (if t127 = 100 then (some ((x4.length : Int) == 0)) else (some false))))) else (none)) else ((valiselaw11_num.f x5).bind fun t128 => (if t128 = 0 then (valiselaw11_DeflateSums.j1 k x0 x4 ((x4.length : Int) == 0)) else (valiselaw11_DeflateSums.j1 k x0 x4 true)))
def valiselaw11_DeflateSums.j1 : Nat → List (S47) → List Int → Bool → Option (Bool)
  | 0, _, _, _ => none
  | k + 1, x0, x4, x99 => if x99 = true then (some false) else (valiselaw11_DeflateSums.l1 k x0 x4 0 0)
def valiselaw11_DeflateSums.l1 : Nat → List (S47) → List Int → Int → Int → Option (Bool)
  | 0, _, _, _, _ => none
  | k + 1, x0, x4, x10, x11 => if x11 < (x4.length : Int) then (if 0 ≤ x11 then (if (rd x4 x11) < 0 then (valiselaw11_DeflateSums.j3 k x0 x4 x10 x11 (rd x4 x11) true) else (if (rd x4 x11) > 8192 then (valiselaw11_DeflateSums.j3 k x0 x4 x10 x11 (rd x4 x11) true) else (if (rd x4 x11) > (wrap64 ((x0.length : Int) - x10)) then (valiselaw11_DeflateSums.j3 k x0 x4 x10 x11 (rd x4 x11) true) else (if (rd x4 x11) = 0 then (if (x0.length : Int) > 0 then (valiselaw11_DeflateSums.j3 k x0 x4 x10 x11 (rd x4 x11) true) else (if (Int.tmod (rd x4 x11) 128) = 0 then (valiselaw11_DeflateSums.j3 k x0 x4 x10 x11 (rd x4 x11) false) else (valiselaw11_DeflateSums.j3 k x0 x4 x10 x11 (rd x4 x11) (decide (x11 < (wrap64 ((x4.length : Int) - 1))))))) else (if (Int.tmod (rd x4 x11) 128) = 0 then (valiselaw11_DeflateSums.j3 k x0 x4 x10 x11 (rd x4 x11) false) else (valiselaw11_DeflateSums.j3 k x0 x4 x10 x11 (rd x4 x11) (decide (x11 < (wrap64 ((x4.length : Int) - 1)))))))))) else (none)) else (some (x10 == (x0.length : Int)))
def valiselaw11_DeflateSums.j3 : Nat → List (S47) → List Int → Int → Int → Int → Bool → Option (Bool)
  | 0, _, _, _, _, _, _ => none
  | k + 1, x0, x4, x10, x11, x12, x144 => if x144 = true then (some false) else (valiselaw11_DeflateSums.l2 k x0 x4 x10 x11 x12 0 x10)
def valiselaw11_DeflateSums.l2 : Nat → List (S47) → List Int → Int → Int → Int → Int → Int → Option (Bool)
  | 0, _, _, _, _, _, _, _ => none
  | k + 1, x0, x4, x10, x11, x12, x13, x14 => if x14 < (wrap64 (x10 + x12)) then (if 0 ≤ x14 then (if x14 < (x0.length : Int) then (valiselaw11_DeflateSums.l2 k x0 x4 x10 x11 x12 (wrap64 (x13 + (mx 1 ((rd_T47 x0 x14).f0)))) (wrap64 (x14 + 1))) else (none)) else (none)) else (if x13 > 65535 then (some false) else (valiselaw11_DeflateSums.l1 k x0 x4 (wrap64 (x10 + x12)) (wrap64 (x11 + 1))))
end
def valiselaw11_DeflateSums.f (k : Nat) (l0 : List (S47)) : Option (Bool) := if 0 ≤ (l0.length : Int) then (if ((l0.length : Int) : Int).toNat ≤ 11728124029610 then ((some (List.replicate ((l0.length : Int) : Int).toNat z47 : List (S47))).bind fun y105 => ((deflate_Split.f (l0.take (min l0.length y105.length) ++ y105.drop (min l0.length y105.length))).bind fun bt111 => (if (l0.length : Int) > 16777216 then ((valiselaw11_num.f bt111.2).bind fun t115 => (if t115 = 1 then (some ((bt111.1.length : Int) == 0)) else (some false))) else (valiselaw11_DeflateSums.l0 k l0 bt111.1 bt111.2 0)))) else (none)) else (none)
theorem valiselaw11_DeflateSums.mono_l : ∀ k, (∀ y0 y1 y2 y3, LeO (valiselaw11_DeflateSums.l0 k y0 y1 y2 y3) (valiselaw11_DeflateSums.l0 (k + 1) y0 y1 y2 y3)) ∧ (∀ y0 y1 y2, LeO (valiselaw11_DeflateSums.j1 k y0 y1 y2) (valiselaw11_DeflateSums.j1 (k + 1) y0 y1 y2)) ∧ (∀ y0 y1 y2 y3, LeO (valiselaw11_DeflateSums.l1 k y0 y1 y2 y3) (valiselaw11_DeflateSums.l1 (k + 1) y0 y1 y2 y3)) ∧ (∀ y0 y1 y2 y3 y4 y5, LeO (valiselaw11_DeflateSums.j3 k y0 y1 y2 y3 y4 y5) (valiselaw11_DeflateSums.j3 (k + 1) y0 y1 y2 y3 y4 y5)) ∧ (∀ y0 y1 y2 y3 y4 y5 y6, LeO (valiselaw11_DeflateSums.l2 k y0 y1 y2 y3 y4 y5 y6) (valiselaw11_DeflateSums.l2 (k + 1) y0 y1 y2 y3 y4 y5 y6))
  | 0 => ⟨fun _ _ _ _ r h => by simp [valiselaw11_DeflateSums.l0] at h, fun _ _ _ r h => by simp [valiselaw11_DeflateSums.j1] at h, fun _ _ _ _ r h => by simp [valiselaw11_DeflateSums.l1] at h, fun _ _ _ _ _ _ r h => by simp [valiselaw11_DeflateSums.j3] at h, fun _ _ _ _ _ _ _ r h => by simp [valiselaw11_DeflateSums.l2] at h⟩
  | k + 1 => by
    obtain ⟨ih0, ih1, ih2, ih3, ih4⟩ := valiselaw11_DeflateSums.mono_l k
    refine ⟨?_, ?_, ?_, ?_, ?_⟩
    · intro y0 y1 y2 y3
      unfold valiselaw11_DeflateSums.l0
      repeat' first
      | (with_reducible exact ih0 _ _ _ _)
      | (with_reducible exact ih1 _ _ _)
      | (with_reducible exact ih2 _ _ _ _)
      | (with_reducible exact ih3 _ _ _ _ _ _)
      | (with_reducible exact ih4 _ _ _ _ _ _ _)
      | (with_reducible exact LeO.refl _)
      | (with_reducible exact LeO.none _)
      | (with_reducible refine LeO.ite ?_ ?_)
      | (with_reducible refine LeO.bind ?_ (fun _ => ?_))
      | exact ih0 _ _ _ _
      | exact ih1 _ _ _
      | exact ih2 _ _ _ _
      | exact ih3 _ _ _ _ _ _
      | exact ih4 _ _ _ _ _ _ _
      | exact LeO.none _
      | refine LeO.ite ?_ ?_
      | refine LeO.bind ?_ (fun _ => ?_)
    · intro y0 y1 y2
      unfold valiselaw11_DeflateSums.j1
      repeat' first
      | (with_reducible exact ih0 _ _ _ _)
      | (with_reducible exact ih1 _ _ _)
      | (with_reducible exact ih2 _ _ _ _)
      | (with_reducible exact ih3 _ _ _ _ _ _)
      | (with_reducible exact ih4 _ _ _ _ _ _ _)
      | (with_reducible exact LeO.refl _)
      | (with_reducible exact LeO.none _)
      | (with_reducible refine LeO.ite ?_ ?_)
      | (with_reducible refine LeO.bind ?_ (fun _ => ?_))
      | exact ih0 _ _ _ _
      | exact ih1 _ _ _
      | exact ih2 _ _ _ _
      | exact ih3 _ _ _ _ _ _
      | exact ih4 _ _ _ _ _ _ _
      | exact LeO.none _
      | refine LeO.ite ?_ ?_
      | refine LeO.bind ?_ (fun _ => ?_)
    · intro y0 y1 y2 y3
      unfold valiselaw11_DeflateSums.l1
      repeat' first
      | (with_reducible exact ih0 _ _ _ _)
      | (with_reducible exact ih1 _ _ _)
      | (with_reducible exact ih2 _ _ _ _)
      | (with_reducible exact ih3 _ _ _ _ _ _)
      | (with_reducible exact ih4 _ _ _ _ _ _ _)
      | (with_reducible exact LeO.refl _)
      | (with_reducible exact LeO.none _)
      | (with_reducible refine LeO.ite ?_ ?_)
      | (with_reducible refine LeO.bind ?_ (fun _ => ?_))
      | exact ih0 _ _ _ _
      | exact ih1 _ _ _
      | exact ih2 _ _ _ _
      | exact ih3 _ _ _ _ _ _
      | exact ih4 _ _ _ _ _ _ _
      | exact LeO.none _
      | refine LeO.ite ?_ ?_
      | refine LeO.bind ?_ (fun _ => ?_)
    · intro y0 y1 y2 y3 y4 y5
      unfold valiselaw11_DeflateSums.j3
      repeat' first
      | (with_reducible exact ih0 _ _ _ _)
      | (with_reducible exact ih1 _ _ _)
      | (with_reducible exact ih2 _ _ _ _)
      | (with_reducible exact ih3 _ _ _ _ _ _)
      | (with_reducible exact ih4 _ _ _ _ _ _ _)
      | (with_reducible exact LeO.refl _)
      | (with_reducible exact LeO.none _)
      | (with_reducible refine LeO.ite ?_ ?_)
      | (with_reducible refine LeO.bind ?_ (fun _ => ?_))
      | exact ih0 _ _ _ _
      | exact ih1 _ _ _
      | exact ih2 _ _ _ _
      | exact ih3 _ _ _ _ _ _
      | exact ih4 _ _ _ _ _ _ _
      | exact LeO.none _
      | refine LeO.ite ?_ ?_
      | refine LeO.bind ?_ (fun _ => ?_)
    · intro y0 y1 y2 y3 y4 y5 y6
      unfold valiselaw11_DeflateSums.l2
      repeat' first
      | (with_reducible exact ih0 _ _ _ _)
      | (with_reducible exact ih1 _ _ _)
      | (with_reducible exact ih2 _ _ _ _)
      | (with_reducible exact ih3 _ _ _ _ _ _)
      | (with_reducible exact ih4 _ _ _ _ _ _ _)
      | (with_reducible exact LeO.refl _)
      | (with_reducible exact LeO.none _)
      | (with_reducible refine LeO.ite ?_ ?_)
      | (with_reducible refine LeO.bind ?_ (fun _ => ?_))
      | exact ih0 _ _ _ _
      | exact ih1 _ _ _
      | exact ih2 _ _ _ _
      | exact ih3 _ _ _ _ _ _
      | exact ih4 _ _ _ _ _ _ _
      | exact LeO.none _
      | refine LeO.ite ?_ ?_
      | refine LeO.bind ?_ (fun _ => ?_)
theorem valiselaw11_DeflateSums.mono : ∀ a0 k, LeO (valiselaw11_DeflateSums.f k a0) (valiselaw11_DeflateSums.f (k + 1) a0) := by
  intro a0 k
  obtain ⟨ih0, ih1, ih2, ih3, ih4⟩ := valiselaw11_DeflateSums.mono_l k
  unfold valiselaw11_DeflateSums.f
  repeat' first
      | (with_reducible exact ih0 _ _ _ _)
      | (with_reducible exact ih1 _ _ _)
      | (with_reducible exact ih2 _ _ _ _)
      | (with_reducible exact ih3 _ _ _ _ _ _)
      | (with_reducible exact ih4 _ _ _ _ _ _ _)
      | (with_reducible exact LeO.refl _)
      | (with_reducible exact LeO.none _)
      | (with_reducible refine LeO.ite ?_ ?_)
      | (with_reducible refine LeO.bind ?_ (fun _ => ?_))
      | exact ih0 _ _ _ _
      | exact ih1 _ _ _
      | exact ih2 _ _ _ _
      | exact ih3 _ _ _ _ _ _
      | exact ih4 _ _ _ _ _ _ _
      | exact LeO.none _
      | refine LeO.ite ?_ ?_
      | refine LeO.bind ?_ (fun _ => ?_)
set_option maxHeartbeats 8000000 in
set_option maxRecDepth 100000 in
theorem valiselaw11_DeflateSums.calls (k : Nat) (A0 : Option Addr) (c0 : Nat) (l0 : List (S47)) (r : Bool) (w : World) (hr0 : Kd.C k47 w A0 l0.length l0) (hc0 : l0.length ≤ c0) (h : valiselaw11_DeflateSums.f k l0 = some r) :
    Calls Try.prog 7 #[.slice A0 l0.length c0] w fun e w' => e = .returned (.bool r) ∧ Below w.heap.size w w' := by
  have hu47 := Try.underlying47
  have HR0 := Aside0.mk hr0
  have HC0 := Aside0.mk hc0
  clear hr0 hc0
  have HB := Aside0.mk (Below.refl w.heap.size w)
  have H : (if 0 ≤ (l0.length : Int) then (if ((l0.length : Int) : Int).toNat ≤ 11728124029610 then ((some (List.replicate ((l0.length : Int) : Int).toNat z47 : List (S47))).bind fun y105 => ((deflate_Split.f (l0.take (min l0.length y105.length) ++ y105.drop (min l0.length y105.length))).bind fun bt111 => (if (l0.length : Int) > 16777216 then ((valiselaw11_num.f bt111.2).bind fun t115 => (if t115 = 1 then (some ((bt111.1.length : Int) == 0)) else (some false))) else (valiselaw11_DeflateSums.l0 k l0 bt111.1 bt111.2 0)))) else (none)) else (none)) = some r := h
  clear h
  by_cases c2 : 0 ≤ (l0.length : Int)
  · rw [if_pos c2] at H
    have c2b0 := eq_true c2
    have c2b1 : decide (0 ≤ (l0.length : Int)) = true := decide_eq_true c2
    clear c2
    by_cases c3 : ((l0.length : Int) : Int).toNat ≤ 11728124029610
    · rw [if_pos c3] at H
      have c3b0 := eq_true c3
      have c3b1 : decide (((l0.length : Int) : Int).toNat ≤ 11728124029610) = true := decide_eq_true c3
      clear c3
      obtain ⟨y105, hy105⟩ : ∃ y_ : List (S47), y_ = (List.replicate ((l0.length : Int) : Int).toNat z47) := ⟨_, rfl⟩
      replace H : ((deflate_Split.f (l0.take (min l0.length y105.length) ++ y105.drop (min l0.length y105.length))).bind fun bt111 => (if (l0.length : Int) > 16777216 then ((valiselaw11_num.f bt111.2).bind fun t115 => (if t115 = 1 then (some ((bt111.1.length : Int) == 0)) else (some false))) else (valiselaw11_DeflateSums.l0 k l0 bt111.1 bt111.2 0))) = some r := by first | (rw [hy105]; with_reducible exact H) | (have H2_ := (Option.bind_some _ _).symm.trans H; rw [hy105]; with_reducible exact H2_) | (have H2_ := (Option.bind_some _ _).symm.trans H; with_reducible exact H2_) | with_reducible exact H | (rw [hy105]; exact H) | exact H
      have Ny105 := Aside0.mk hy105
      clear hy105
      obtain ⟨y108, hy108⟩ : ∃ y_ : List (S47), y_ = (l0.take (min l0.length y105.length) ++ y105.drop (min l0.length y105.length)) := ⟨_, rfl⟩
      replace H : ((deflate_Split.f y108).bind fun bt111 => (if (l0.length : Int) > 16777216 then ((valiselaw11_num.f bt111.2).bind fun t115 => (if t115 = 1 then (some ((bt111.1.length : Int) == 0)) else (some false))) else (valiselaw11_DeflateSums.l0 k l0 bt111.1 bt111.2 0))) = some r := by first | (rw [hy108]; with_reducible exact H) | (have H2_ := (Option.bind_some _ _).symm.trans H; rw [hy108]; with_reducible exact H2_) | (have H2_ := (Option.bind_some _ _).symm.trans H; with_reducible exact H2_) | with_reducible exact H | (rw [hy108]; exact H) | exact H
      have Ny108 := Aside0.mk hy108
      clear hy108
      replace H := Option.bind_eq_some_iff.mp H
      obtain ⟨⟨t111, t112⟩, A40, H⟩ := H
      replace H : (if (l0.length : Int) > 16777216 then ((valiselaw11_num.f t112).bind fun t115 => (if t115 = 1 then (some ((t111.length : Int) == 0)) else (some false))) else (valiselaw11_DeflateSums.l0 k l0 t111 t112 0)) = some r := H
      have A4 := Aside0.mk A40
      clear A40
      by_cases c5 : (l0.length : Int) > 16777216
      · rw [if_pos c5] at H
        have c5b0 : decide (16777216 < (l0.length : Int)) = true := decide_eq_true c5
        have c5b1 : decide (16777216 < l0.length) = true := decide_eq_true (by omega)
        clear c5
        replace H := Option.bind_eq_some_iff.mp H
        obtain ⟨t115, A60, H⟩ := H
        replace H : (if t115 = 1 then (some ((t111.length : Int) == 0)) else (some false)) = some r := H
        have A6 := Aside0.mk A60
        clear A60
        by_cases c7 : t115 = 1
        · rw [if_pos c7] at H
          have c7b0 : (t115 == 1) = true := beq_iff_eq.mpr c7
          have c7b1 : (t115 != 1) = false := bne_eq_false_iff_eq.mpr c7
          clear c7
          obtain rfl := Option.some.inj H
          go_enter Try.func7, Try.ntmps7
          go_wp2_with (first | ((with_reducible refine gate_dst (N := 17) rfl ?_); (try (refine gate_guard (by rfl) ?_; dsimp only)); refine Kd.R_make k47 _ 47 rfl (N := 17) rfl 45 _ _ rfl (l0.length : Int) rfl rfl Try.underlying45 (.agg #[(.int .i64 0), (.int .i64 0), (.int .u8 0)]) 24 info47 rfl (by decide) (by omega) z47 (ok := fun _ => True) (okp := fun _ => True) (k47_mkM _ _ _ z47 ) (fun _ hk => hk) trivial (of_decide_eq_true (by first | (with_reducible assumption) | assumption)) (Nat.le_trans (Nat.mul_le_mul_right _ (of_decide_eq_true (by first | (with_reducible assumption) | assumption) : (l0.length : Int).toNat ≤ 11728124029610)) (by omega)) (Below.refl _ _) (Nat.le_refl _) ?_; intro v106 w8 ho9 hb hg_ hnew_; clear hg_ hnew_; (first | rw [← Ny105.out] at ho9 | (simp only [Int.reduceToNat] at ho9; rw [← Ny105.out] at ho9)); have n0_ := Aside0.mk (Kd.R_lower ho9 (below_size (by repeat (first | (with_reducible first | exact HB.out | apply below_alloc | apply pw_below_drewN | apply below_drew1) | exact HB.out)))); have n1_ := Aside0.mk (below_step (by repeat (first | (with_reducible first | exact HB.out | apply below_alloc | apply pw_below_drewN | apply below_drew1) | exact HB.out)) hb); clear HB; have HO107 := n0_; have HB := n1_; clear n0_ n1_; clear hb ho9) | ((with_reducible refine gate_builtin (b := .copy) (xs := #[.tmp 18, .tmp 19]) rfl ?_); (try (refine gate_guard (by rfl) ?_; dsimp only)); refine R_copyF (P := Try.prog) k47 (fun _ x_ _ w_ b_ o_ hk_ => by obtain rfl := k47_open hk_; exact k47_mkM w_ b_ o_ x_) (w0 := w) w.heap.size rfl (.tmp 18) (.tmp 19) 45 45 rfl Try.underlying45 (size_of_info info47) (by decide) v106 y105 l0 A0 l0.length c0 (fun _ => True) rfl rfl ?aO ?aR ?aB ?aS ?_; (case aR => repeat (first | exact (Kd.C_below HR0.out HB.out) | (with_reducible refine Kd.C_alloc ?_ _) | (with_reducible refine Kd.C_drewN ?_ _) | (with_reducible refine Kd.C_drew ?_))); (case aB => exact (by repeat (first | (with_reducible first | exact HB.out | apply below_alloc | apply pw_below_drewN | apply below_drew1) | exact HB.out))); (case aO => exact (by (with_reducible repeat (first | apply Kd.R_alloc | apply Kd.R_drewN | apply Kd.R_drew)); exact HO107.out)); (case aS => exact (below_size (by repeat (first | (with_reducible first | exact HB.out | apply below_alloc | apply pw_below_drewN | apply below_drew1) | exact HB.out)))); intro w10 ho hb hg; have hat : ∀ {q_ : Prop}, (v106 : Value).ownBlock = (v106 : Value).ownBlock ∨ q_ := .inl rfl; rw [← Ny108.out] at ho; have n0_ := Aside0.mk (hb); have n1_ := Aside0.mk (ho); clear HB; clear HO107; have HB := n0_; have HO110 := n1_; clear n0_ n1_; clear ho hb hg hat; obtain ⟨Ao11, co11, eo11⟩ := Kd.R_slice HO110.out; subst eo11) | ((with_reducible refine gate_callee (f := 25) rfl ?_); refine goesL_ (some 23) rfl rfl Try.func25 (by kernel_rfl) rfl #[.slice Ao11 y108.length co11] rfl (by (try simp only [List.map_toArray, List.map_cons, List.map_nil]); first | done | rfl | (simp only [List.length_drop, List.length_take]; rfl)) ?_; (with_reducible refine (deflate_Split.calls _ _ y108 t111 t112 _ ?side1 ?side2 A4.out).mono ?_); (case side1 => repeat (first | exact (Kd.R_reads' HO110.out).2.2 | (with_reducible refine Kd.C_alloc ?_ _) | (with_reducible refine Kd.C_drewN ?_ _) | (with_reducible refine Kd.C_drew ?_))); (case side2 => exact (Kd.R_reads' HO110.out).2.1); rintro e w12 ⟨v113, rfl, ho0, hb⟩; refine ⟨_, rfl, ?_⟩; have n0_ := Aside0.mk (Kd.R_below (by (with_reducible repeat (first | apply Kd.R_alloc | apply Kd.R_drewN | apply Kd.R_drew)); exact HO110.out) hb); have n1_ := Aside0.mk (Kd.R_lower ho0 (below_size (by repeat (first | (with_reducible first | exact HB.out | apply below_alloc | apply pw_below_drewN | apply below_drew1) | exact HB.out)))); have n2_ := Aside0.mk (below_step (by repeat (first | (with_reducible first | exact HB.out | apply below_alloc | apply pw_below_drewN | apply below_drew1) | exact HB.out)) hb); clear HO110; clear HB; have HO110 := n0_; have HO114 := n1_; have HB := n2_; clear n0_ n1_ n2_; (try clear hb); (try clear hb2); (try clear hk); (try clear hi); (try clear ho0)) | ((with_reducible refine gate_callee (f := 22) rfl ?_); refine goesL_ (some 30) rfl rfl Try.func22 (by kernel_rfl) rfl #[.int .i64 t112] rfl (by (try simp only [List.map_toArray, List.map_cons, List.map_nil]); first | done | rfl | (simp only [List.length_drop, List.length_take]; rfl)) ?_; (with_reducible refine (valiselaw11_num.calls t112 t115 _ A6.out).mono ?_); rintro e w' ⟨rfl, ⟨nd, rfl⟩⟩; refine ⟨_, rfl, ?_⟩; obtain ⟨Ao13, co13, eo13⟩ := Kd.R_slice HO114.out; subst eo13))
          go_ret
          exact ⟨by first | rfl | (simp [errW_none, errW_some] <;> rfl) | (simp [*, errW_none, errW_some] <;> rfl), by repeat (first | (with_reducible first | exact HB.out | apply below_alloc | apply pw_below_drewN | apply below_drew1) | exact HB.out)⟩
        · rw [if_neg c7] at H
          have c7b0 : (t115 == 1) = false := beq_eq_false_iff_ne.mpr c7
          have c7b1 : (t115 != 1) = true := bne_iff_ne.mpr c7
          obtain rfl := Option.some.inj H
          go_enter Try.func7, Try.ntmps7
          go_wp2_with (first | ((with_reducible refine gate_dst (N := 17) rfl ?_); (try (refine gate_guard (by rfl) ?_; dsimp only)); refine Kd.R_make k47 _ 47 rfl (N := 17) rfl 45 _ _ rfl (l0.length : Int) rfl rfl Try.underlying45 (.agg #[(.int .i64 0), (.int .i64 0), (.int .u8 0)]) 24 info47 rfl (by decide) (by omega) z47 (ok := fun _ => True) (okp := fun _ => True) (k47_mkM _ _ _ z47 ) (fun _ hk => hk) trivial (of_decide_eq_true (by first | (with_reducible assumption) | assumption)) (Nat.le_trans (Nat.mul_le_mul_right _ (of_decide_eq_true (by first | (with_reducible assumption) | assumption) : (l0.length : Int).toNat ≤ 11728124029610)) (by omega)) (Below.refl _ _) (Nat.le_refl _) ?_; intro v106 w14 ho15 hb hg_ hnew_; clear hg_ hnew_; (first | rw [← Ny105.out] at ho15 | (simp only [Int.reduceToNat] at ho15; rw [← Ny105.out] at ho15)); have n0_ := Aside0.mk (Kd.R_lower ho15 (below_size (by repeat (first | (with_reducible first | exact HB.out | apply below_alloc | apply pw_below_drewN | apply below_drew1) | exact HB.out)))); have n1_ := Aside0.mk (below_step (by repeat (first | (with_reducible first | exact HB.out | apply below_alloc | apply pw_below_drewN | apply below_drew1) | exact HB.out)) hb); clear HB; have HO107 := n0_; have HB := n1_; clear n0_ n1_; clear hb ho15) | ((with_reducible refine gate_builtin (b := .copy) (xs := #[.tmp 18, .tmp 19]) rfl ?_); (try (refine gate_guard (by rfl) ?_; dsimp only)); refine R_copyF (P := Try.prog) k47 (fun _ x_ _ w_ b_ o_ hk_ => by obtain rfl := k47_open hk_; exact k47_mkM w_ b_ o_ x_) (w0 := w) w.heap.size rfl (.tmp 18) (.tmp 19) 45 45 rfl Try.underlying45 (size_of_info info47) (by decide) v106 y105 l0 A0 l0.length c0 (fun _ => True) rfl rfl ?aO ?aR ?aB ?aS ?_; (case aR => repeat (first | exact (Kd.C_below HR0.out HB.out) | (with_reducible refine Kd.C_alloc ?_ _) | (with_reducible refine Kd.C_drewN ?_ _) | (with_reducible refine Kd.C_drew ?_))); (case aB => exact (by repeat (first | (with_reducible first | exact HB.out | apply below_alloc | apply pw_below_drewN | apply below_drew1) | exact HB.out))); (case aO => exact (by (with_reducible repeat (first | apply Kd.R_alloc | apply Kd.R_drewN | apply Kd.R_drew)); exact HO107.out)); (case aS => exact (below_size (by repeat (first | (with_reducible first | exact HB.out | apply below_alloc | apply pw_below_drewN | apply below_drew1) | exact HB.out)))); intro w16 ho hb hg; have hat : ∀ {q_ : Prop}, (v106 : Value).ownBlock = (v106 : Value).ownBlock ∨ q_ := .inl rfl; rw [← Ny108.out] at ho; have n0_ := Aside0.mk (hb); have n1_ := Aside0.mk (ho); clear HB; clear HO107; have HB := n0_; have HO110 := n1_; clear n0_ n1_; clear ho hb hg hat; obtain ⟨Ao17, co17, eo17⟩ := Kd.R_slice HO110.out; subst eo17) | ((with_reducible refine gate_callee (f := 25) rfl ?_); refine goesL_ (some 23) rfl rfl Try.func25 (by kernel_rfl) rfl #[.slice Ao17 y108.length co17] rfl (by (try simp only [List.map_toArray, List.map_cons, List.map_nil]); first | done | rfl | (simp only [List.length_drop, List.length_take]; rfl)) ?_; (with_reducible refine (deflate_Split.calls _ _ y108 t111 t112 _ ?side1 ?side2 A4.out).mono ?_); (case side1 => repeat (first | exact (Kd.R_reads' HO110.out).2.2 | (with_reducible refine Kd.C_alloc ?_ _) | (with_reducible refine Kd.C_drewN ?_ _) | (with_reducible refine Kd.C_drew ?_))); (case side2 => exact (Kd.R_reads' HO110.out).2.1); rintro e w18 ⟨v113, rfl, ho0, hb⟩; refine ⟨_, rfl, ?_⟩; have n0_ := Aside0.mk (Kd.R_below (by (with_reducible repeat (first | apply Kd.R_alloc | apply Kd.R_drewN | apply Kd.R_drew)); exact HO110.out) hb); have n1_ := Aside0.mk (Kd.R_lower ho0 (below_size (by repeat (first | (with_reducible first | exact HB.out | apply below_alloc | apply pw_below_drewN | apply below_drew1) | exact HB.out)))); have n2_ := Aside0.mk (below_step (by repeat (first | (with_reducible first | exact HB.out | apply below_alloc | apply pw_below_drewN | apply below_drew1) | exact HB.out)) hb); clear HO110; clear HB; have HO110 := n0_; have HO114 := n1_; have HB := n2_; clear n0_ n1_ n2_; (try clear hb); (try clear hb2); (try clear hk); (try clear hi); (try clear ho0)) | ((with_reducible refine gate_callee (f := 22) rfl ?_); refine goesL_ (some 30) rfl rfl Try.func22 (by kernel_rfl) rfl #[.int .i64 t112] rfl (by (try simp only [List.map_toArray, List.map_cons, List.map_nil]); first | done | rfl | (simp only [List.length_drop, List.length_take]; rfl)) ?_; (with_reducible refine (valiselaw11_num.calls t112 t115 _ A6.out).mono ?_); rintro e w' ⟨rfl, ⟨nd, rfl⟩⟩; refine ⟨_, rfl, ?_⟩))
          go_ret
          exact ⟨by first | rfl | (simp [errW_none, errW_some] <;> rfl) | (simp [*, errW_none, errW_some] <;> rfl), by repeat (first | (with_reducible first | exact HB.out | apply below_alloc | apply pw_below_drewN | apply below_drew1) | exact HB.out)⟩
      · rw [if_neg c5] at H
        have c5b0 : decide (16777216 < (l0.length : Int)) = false := decide_eq_false c5
        have c5b1 : decide (16777216 < l0.length) = false := decide_eq_false (by omega)
        clear c5
        have H' := Aside0.mk H
        clear H
        go_enter Try.func7, Try.ntmps7
        go_wp2_with (first | ((with_reducible refine gate_dst (N := 17) rfl ?_); (try (refine gate_guard (by rfl) ?_; dsimp only)); refine Kd.R_make k47 _ 47 rfl (N := 17) rfl 45 _ _ rfl (l0.length : Int) rfl rfl Try.underlying45 (.agg #[(.int .i64 0), (.int .i64 0), (.int .u8 0)]) 24 info47 rfl (by decide) (by omega) z47 (ok := fun _ => True) (okp := fun _ => True) (k47_mkM _ _ _ z47 ) (fun _ hk => hk) trivial (of_decide_eq_true (by first | (with_reducible assumption) | assumption)) (Nat.le_trans (Nat.mul_le_mul_right _ (of_decide_eq_true (by first | (with_reducible assumption) | assumption) : (l0.length : Int).toNat ≤ 11728124029610)) (by omega)) (Below.refl _ _) (Nat.le_refl _) ?_; intro v106 w19 ho20 hb hg_ hnew_; clear hg_ hnew_; (first | rw [← Ny105.out] at ho20 | (simp only [Int.reduceToNat] at ho20; rw [← Ny105.out] at ho20)); have n0_ := Aside0.mk (Kd.R_lower ho20 (below_size (by repeat (first | (with_reducible first | exact HB.out | apply below_alloc | apply pw_below_drewN | apply below_drew1) | exact HB.out)))); have n1_ := Aside0.mk (below_step (by repeat (first | (with_reducible first | exact HB.out | apply below_alloc | apply pw_below_drewN | apply below_drew1) | exact HB.out)) hb); clear HB; have HO107 := n0_; have HB := n1_; clear n0_ n1_; clear hb ho20) | ((with_reducible refine gate_builtin (b := .copy) (xs := #[.tmp 18, .tmp 19]) rfl ?_); (try (refine gate_guard (by rfl) ?_; dsimp only)); refine R_copyF (P := Try.prog) k47 (fun _ x_ _ w_ b_ o_ hk_ => by obtain rfl := k47_open hk_; exact k47_mkM w_ b_ o_ x_) (w0 := w) w.heap.size rfl (.tmp 18) (.tmp 19) 45 45 rfl Try.underlying45 (size_of_info info47) (by decide) v106 y105 l0 A0 l0.length c0 (fun _ => True) rfl rfl ?aO ?aR ?aB ?aS ?_; (case aR => repeat (first | exact (Kd.C_below HR0.out HB.out) | (with_reducible refine Kd.C_alloc ?_ _) | (with_reducible refine Kd.C_drewN ?_ _) | (with_reducible refine Kd.C_drew ?_))); (case aB => exact (by repeat (first | (with_reducible first | exact HB.out | apply below_alloc | apply pw_below_drewN | apply below_drew1) | exact HB.out))); (case aO => exact (by (with_reducible repeat (first | apply Kd.R_alloc | apply Kd.R_drewN | apply Kd.R_drew)); exact HO107.out)); (case aS => exact (below_size (by repeat (first | (with_reducible first | exact HB.out | apply below_alloc | apply pw_below_drewN | apply below_drew1) | exact HB.out)))); intro w21 ho hb hg; have hat : ∀ {q_ : Prop}, (v106 : Value).ownBlock = (v106 : Value).ownBlock ∨ q_ := .inl rfl; rw [← Ny108.out] at ho; have n0_ := Aside0.mk (hb); have n1_ := Aside0.mk (ho); clear HB; clear HO107; have HB := n0_; have HO110 := n1_; clear n0_ n1_; clear ho hb hg hat; obtain ⟨Ao22, co22, eo22⟩ := Kd.R_slice HO110.out; subst eo22) | ((with_reducible refine gate_callee (f := 25) rfl ?_); refine goesL_ (some 23) rfl rfl Try.func25 (by kernel_rfl) rfl #[.slice Ao22 y108.length co22] rfl (by (try simp only [List.map_toArray, List.map_cons, List.map_nil]); first | done | rfl | (simp only [List.length_drop, List.length_take]; rfl)) ?_; (with_reducible refine (deflate_Split.calls _ _ y108 t111 t112 _ ?side1 ?side2 A4.out).mono ?_); (case side1 => repeat (first | exact (Kd.R_reads' HO110.out).2.2 | (with_reducible refine Kd.C_alloc ?_ _) | (with_reducible refine Kd.C_drewN ?_ _) | (with_reducible refine Kd.C_drew ?_))); (case side2 => exact (Kd.R_reads' HO110.out).2.1); rintro e w23 ⟨v113, rfl, ho0, hb⟩; refine ⟨_, rfl, ?_⟩; have n0_ := Aside0.mk (Kd.R_below (by (with_reducible repeat (first | apply Kd.R_alloc | apply Kd.R_drewN | apply Kd.R_drew)); exact HO110.out) hb); have n1_ := Aside0.mk (Kd.R_lower ho0 (below_size (by repeat (first | (with_reducible first | exact HB.out | apply below_alloc | apply pw_below_drewN | apply below_drew1) | exact HB.out)))); have n2_ := Aside0.mk (below_step (by repeat (first | (with_reducible first | exact HB.out | apply below_alloc | apply pw_below_drewN | apply below_drew1) | exact HB.out)) hb); clear HO110; clear HB; have HO110 := n0_; have HO114 := n1_; have HB := n2_; clear n0_ n1_ n2_; (try clear hb); (try clear hb2); (try clear hk); (try clear hi); (try clear ho0)))
        go_loopg [6] k (fun kq v6 w' => ∃ (x6_1 : Int), v6 = .int .i64 x6_1 ∧ Aside0 (valiselaw11_DeflateSums.l0 kq l0 t111 t112 x6_1 = some r) ∧ Aside0 (kq ≤ k) ∧ Aside0 (Kd.R (Kd.int .i64) 3 w' w.heap.size (fun _ => True) v113 t111) ∧ Aside0 (Below w.heap.size w w'))
        case atStart => exact ⟨(0), (by first | rfl | (simp; done) | (simp [*]; done)), H', ⟨Nat.le_refl _⟩, ⟨by (with_reducible repeat (first | apply Kd.R_alloc | apply Kd.R_drewN | apply Kd.R_drew)); exact HO114.out⟩, ⟨by repeat (first | (with_reducible first | exact HB.out | apply below_alloc | apply pw_below_drewN | apply below_drew1) | exact HB.out)⟩⟩
        case round =>
          clear H'
          try clear c2
          try clear c2b0
          try clear c2b1
          try clear p2
          try clear c3
          try clear c3b0
          try clear c3b1
          try clear c5
          try clear c5b0
          try clear c5b1
          try clear c7
          try clear c7b0
          try clear c7b1
          try clear c22
          obtain ⟨x6_1, rfl, HA, HK1, HO_4, HB⟩ := hrel
          cases gk with
          | zero => exact absurd HA.out (by simp [valiselaw11_DeflateSums.l0])
          | succ k1 =>
            have H := HA.out
            clear HA
            simp only [valiselaw11_DeflateSums.l0] at H
            by_cases c24 : x6_1 < (l0.length : Int)
            · rw [if_pos c24] at H
              have c24b0 : decide (x6_1 < (l0.length : Int)) = true := decide_eq_true c24
              clear c24
              by_cases c25 : 0 ≤ x6_1
              · rw [if_pos c25] at H
                have c25b0 : decide (0 ≤ x6_1) = true := decide_eq_true c25
                clear c25
                by_cases c26 : ((rd_T47 l0 x6_1).f0) = 0
                · rw [if_pos c26] at H
                  have c26b0 : (((rd_T47 l0 x6_1).f0) == 0) = true := beq_iff_eq.mpr c26
                  have c26b1 : (((rd_T47 l0 x6_1).f0) != 0) = false := bne_eq_false_iff_eq.mpr c26
                  clear c26
                  by_cases c27 : ((rd_T47 l0 x6_1).f0) ≥ 3
                  · rw [if_pos c27] at H
                    have c27b0 : decide (3 ≤ ((rd_T47 l0 x6_1).f0)) = true := decide_eq_true c27
                    clear c27
                    by_cases c28 : ((rd_T47 l0 x6_1).f0) ≤ 258
                    · rw [if_pos c28] at H
                      have c28b0 : decide (((rd_T47 l0 x6_1).f0) ≤ 258) = true := decide_eq_true c28
                      clear c28
                      by_cases c29 : ((rd_T47 l0 x6_1).f1) ≥ 1
                      · rw [if_pos c29] at H
                        have c29b0 : decide (1 ≤ ((rd_T47 l0 x6_1).f1)) = true := decide_eq_true c29
                        clear c29
                        by_cases c30 : ((rd_T47 l0 x6_1).f1) ≤ 32768
                        · rw [if_pos c30] at H
                          have c30b0 : decide (((rd_T47 l0 x6_1).f1) ≤ 32768) = true := decide_eq_true c30
                          clear c30
                          by_cases c31 : (((rd_T47 l0 x6_1).f1) = 0)
                          · rw [if_pos c31] at H
                            have c31b0 : (((rd_T47 l0 x6_1).f1) == 0) = true := beq_iff_eq.mpr c31
                            have c31b1 : (((rd_T47 l0 x6_1).f1) != 0) = false := bne_eq_false_iff_eq.mpr c31
                            clear c31
                            have H' := Aside0.mk H
                            clear H
                            have p116 : 0 ≤ (x6_1 : Int) := of_decide_eq_true (by first | (with_reducible assumption) | assumption)
                            have q116 : x6_1 < (l0.length : Int) := of_decide_eq_true (by first | (with_reducible assumption) | assumption)
                            obtain ⟨ad116, e116, hx116_0, hx116_1, hx116_2⟩ := at_T47 HR0.out x6_1 p116 q116
                            cases e116
                            replace hx116_0 := (HB.out.cell (World.block_lt_of_cell? w _ hx116_0)).trans hx116_0
                            replace hx116_1 := (HB.out.cell (World.block_lt_of_cell? w _ hx116_1)).trans hx116_1
                            replace hx116_2 := (HB.out.cell (World.block_lt_of_cell? w _ hx116_2)).trans hx116_2
                            replace p116 := eq_true p116
                            replace q116 := eq_true q116
                            go_wp2_with (first | ((with_reducible refine gate_dst (N := 7) rfl ?_); (try (refine gate_guard (by rfl) ?_; dsimp only)); refine box_event ?hg (N := 7) ?hd (cs := #[.int .i64 0, .int .i64 0, .int .u8 0]) (t := 47) ?hr ?_; (case hd => rfl); (case hg => rfl); (case hr => first | (go_simp; done) | (go_simp; rfl)); intro gb117 hg w32 hbox hb; have n0_ := Aside0.mk (Kd.R_below (by (with_reducible repeat (first | apply Kd.R_alloc | apply Kd.R_drewN | apply Kd.R_drew)); exact HO_4.out) hb); have n1_ := Aside0.mk (below_step (by repeat (first | (with_reducible first | exact HB.out | apply below_alloc | apply pw_below_drewN | apply below_drew1) | exact HB.out)) hb); have n2_ := Aside0.mk (hbox); have n3_ := Aside0.mk ((by rw [hg]; exact (below_size (by repeat (first | (with_reducible first | exact HB.out | apply below_alloc | apply pw_below_drewN | apply below_drew1) | exact HB.out))) : w.heap.size ≤ gb117)); have n4_ := Aside0.mk ((by rw [hg]; exact (below_size (by repeat (first | (with_reducible first | exact HB.out | apply below_alloc | apply pw_below_drewN | apply below_drew1) | exact HB.out))) : w.heap.size ≤ gb117)); clear HO_4; clear HB; have HO_4 := n0_; have HB := n1_; have BK117 := n2_; have GW117 := n3_; have GE117 := n4_; clear n0_ n1_ n2_ n3_ n4_; clear hb hbox hg; have hcz33_0 : w32.cell? ⟨gb117, 0, none⟩ = some (.int .i64 0) := (blk_cell BK117.out 0).trans rfl; have hcz33_1 : w32.cell? ⟨gb117, 1, none⟩ = some (.int .i64 0) := (blk_cell BK117.out 1).trans rfl; have hcz33_2 : w32.cell? ⟨gb117, 2, none⟩ = some (.int .u8 0) := (blk_cell BK117.out 2).trans rfl; have hfz33_0 := blk_frozen BK117.out 0; have hfz33_1 := blk_frozen BK117.out 1; have hfz33_2 := blk_frozen BK117.out 2))
                            go_roundg k1
                            case measure => have := HK1.out; omega
                            case rel => exact ⟨(wrap64 (x6_1 + 1)), (by first | rfl | (simp; done) | (simp [*]; done)), H', ⟨by have := HK1.out; omega⟩, ⟨by (with_reducible repeat (first | apply Kd.R_alloc | apply Kd.R_drewN | apply Kd.R_drew)); exact Kd.R_mono (Kd.R_far (p := ⟨gb117, 2, none⟩) (Kd.R_far (p := ⟨gb117, 1, none⟩) (Kd.R_far (p := ⟨gb117, 0, none⟩) (Kd.R_types HO_4.out BK117.out (by decide)) (fun _ hk => hk.2) (.int .i64 ((rd_T47 l0 x6_1).f0))) (fun _ hk => hk.2) (.int .i64 ((rd_T47 l0 x6_1).f1))) (fun _ hk => hk.2) (.int .u8 ((rd_T47 l0 x6_1).f2))) (fun _ hk => trivial)⟩, ⟨by repeat (first | (with_reducible first | exact HB.out | apply below_alloc | apply pw_below_drewN | apply below_drew1 | refine below_set ?_ GE117.out) | exact HB.out)⟩⟩
                          · rw [if_neg c31] at H
                            have c31b0 : (((rd_T47 l0 x6_1).f1) == 0) = false := beq_eq_false_iff_ne.mpr c31
                            have c31b1 : (((rd_T47 l0 x6_1).f1) != 0) = true := bne_iff_ne.mpr c31
                            by_cases c34 : (((rd_T47 l0 x6_1).f2) = 0)
                            · rw [if_pos c34] at H
                              have c34b0 : (((rd_T47 l0 x6_1).f2) == 0) = true := beq_iff_eq.mpr c34
                              have c34b1 : (((rd_T47 l0 x6_1).f2) != 0) = false := bne_eq_false_iff_eq.mpr c34
                              clear c34
                              have H' := Aside0.mk H
                              clear H
                              have p116 : 0 ≤ (x6_1 : Int) := of_decide_eq_true (by first | (with_reducible assumption) | assumption)
                              have q116 : x6_1 < (l0.length : Int) := of_decide_eq_true (by first | (with_reducible assumption) | assumption)
                              obtain ⟨ad116, e116, hx116_0, hx116_1, hx116_2⟩ := at_T47 HR0.out x6_1 p116 q116
                              cases e116
                              replace hx116_0 := (HB.out.cell (World.block_lt_of_cell? w _ hx116_0)).trans hx116_0
                              replace hx116_1 := (HB.out.cell (World.block_lt_of_cell? w _ hx116_1)).trans hx116_1
                              replace hx116_2 := (HB.out.cell (World.block_lt_of_cell? w _ hx116_2)).trans hx116_2
                              replace p116 := eq_true p116
                              replace q116 := eq_true q116
                              go_wp2_with (first | ((with_reducible refine gate_dst (N := 7) rfl ?_); (try (refine gate_guard (by rfl) ?_; dsimp only)); refine box_event ?hg (N := 7) ?hd (cs := #[.int .i64 0, .int .i64 0, .int .u8 0]) (t := 47) ?hr ?_; (case hd => rfl); (case hg => rfl); (case hr => first | (go_simp; done) | (go_simp; rfl)); intro gb117 hg w35 hbox hb; have n0_ := Aside0.mk (Kd.R_below (by (with_reducible repeat (first | apply Kd.R_alloc | apply Kd.R_drewN | apply Kd.R_drew)); exact HO_4.out) hb); have n1_ := Aside0.mk (below_step (by repeat (first | (with_reducible first | exact HB.out | apply below_alloc | apply pw_below_drewN | apply below_drew1) | exact HB.out)) hb); have n2_ := Aside0.mk (hbox); have n3_ := Aside0.mk ((by rw [hg]; exact (below_size (by repeat (first | (with_reducible first | exact HB.out | apply below_alloc | apply pw_below_drewN | apply below_drew1) | exact HB.out))) : w.heap.size ≤ gb117)); have n4_ := Aside0.mk ((by rw [hg]; exact (below_size (by repeat (first | (with_reducible first | exact HB.out | apply below_alloc | apply pw_below_drewN | apply below_drew1) | exact HB.out))) : w.heap.size ≤ gb117)); clear HO_4; clear HB; have HO_4 := n0_; have HB := n1_; have BK117 := n2_; have GW117 := n3_; have GE117 := n4_; clear n0_ n1_ n2_ n3_ n4_; clear hb hbox hg; have hcz36_0 : w35.cell? ⟨gb117, 0, none⟩ = some (.int .i64 0) := (blk_cell BK117.out 0).trans rfl; have hcz36_1 : w35.cell? ⟨gb117, 1, none⟩ = some (.int .i64 0) := (blk_cell BK117.out 1).trans rfl; have hcz36_2 : w35.cell? ⟨gb117, 2, none⟩ = some (.int .u8 0) := (blk_cell BK117.out 2).trans rfl; have hfz36_0 := blk_frozen BK117.out 0; have hfz36_1 := blk_frozen BK117.out 1; have hfz36_2 := blk_frozen BK117.out 2))
                              go_roundg k1
                              case measure => have := HK1.out; omega
                              case rel => exact ⟨(wrap64 (x6_1 + 1)), (by first | rfl | (simp; done) | (simp [*]; done)), H', ⟨by have := HK1.out; omega⟩, ⟨by (with_reducible repeat (first | apply Kd.R_alloc | apply Kd.R_drewN | apply Kd.R_drew)); exact Kd.R_mono (Kd.R_far (p := ⟨gb117, 2, none⟩) (Kd.R_far (p := ⟨gb117, 1, none⟩) (Kd.R_far (p := ⟨gb117, 0, none⟩) (Kd.R_types HO_4.out BK117.out (by decide)) (fun _ hk => hk.2) (.int .i64 ((rd_T47 l0 x6_1).f0))) (fun _ hk => hk.2) (.int .i64 ((rd_T47 l0 x6_1).f1))) (fun _ hk => hk.2) (.int .u8 ((rd_T47 l0 x6_1).f2))) (fun _ hk => trivial)⟩, ⟨by repeat (first | (with_reducible first | exact HB.out | apply below_alloc | apply pw_below_drewN | apply below_drew1 | refine below_set ?_ GE117.out) | exact HB.out)⟩⟩
                            · rw [if_neg c34] at H
                              have c34b0 : (((rd_T47 l0 x6_1).f2) == 0) = false := beq_eq_false_iff_ne.mpr c34
                              have c34b1 : (((rd_T47 l0 x6_1).f2) != 0) = true := bne_iff_ne.mpr c34
                              replace H := Option.bind_eq_some_iff.mp H
                              obtain ⟨t118, A370, H⟩ := H
                              replace H : (if t118 = 100 then (some ((t111.length : Int) == 0)) else (some false)) = some r := H
                              have A37 := Aside0.mk A370
                              clear A370
                              by_cases c38 : t118 = 100
                              · rw [if_pos c38] at H
                                have c38b0 : (t118 == 100) = true := beq_iff_eq.mpr c38
                                have c38b1 : (t118 != 100) = false := bne_eq_false_iff_eq.mpr c38
                                clear c38
                                obtain rfl := Option.some.inj H
                                have p116 : 0 ≤ (x6_1 : Int) := of_decide_eq_true (by first | (with_reducible assumption) | assumption)
                                have q116 : x6_1 < (l0.length : Int) := of_decide_eq_true (by first | (with_reducible assumption) | assumption)
                                obtain ⟨ad116, e116, hx116_0, hx116_1, hx116_2⟩ := at_T47 HR0.out x6_1 p116 q116
                                cases e116
                                replace hx116_0 := (HB.out.cell (World.block_lt_of_cell? w _ hx116_0)).trans hx116_0
                                replace hx116_1 := (HB.out.cell (World.block_lt_of_cell? w _ hx116_1)).trans hx116_1
                                replace hx116_2 := (HB.out.cell (World.block_lt_of_cell? w _ hx116_2)).trans hx116_2
                                replace p116 := eq_true p116
                                replace q116 := eq_true q116
                                go_wp2_with (first | ((with_reducible refine gate_dst (N := 7) rfl ?_); (try (refine gate_guard (by rfl) ?_; dsimp only)); refine box_event ?hg (N := 7) ?hd (cs := #[.int .i64 0, .int .i64 0, .int .u8 0]) (t := 47) ?hr ?_; (case hd => rfl); (case hg => rfl); (case hr => first | (go_simp; done) | (go_simp; rfl)); intro gb117 hg w39 hbox hb; have n0_ := Aside0.mk (Kd.R_below (by (with_reducible repeat (first | apply Kd.R_alloc | apply Kd.R_drewN | apply Kd.R_drew)); exact HO_4.out) hb); have n1_ := Aside0.mk (below_step (by repeat (first | (with_reducible first | exact HB.out | apply below_alloc | apply pw_below_drewN | apply below_drew1) | exact HB.out)) hb); have n2_ := Aside0.mk (hbox); have n3_ := Aside0.mk ((by rw [hg]; exact (below_size (by repeat (first | (with_reducible first | exact HB.out | apply below_alloc | apply pw_below_drewN | apply below_drew1) | exact HB.out))) : w.heap.size ≤ gb117)); have n4_ := Aside0.mk ((by rw [hg]; exact (below_size (by repeat (first | (with_reducible first | exact HB.out | apply below_alloc | apply pw_below_drewN | apply below_drew1) | exact HB.out))) : w.heap.size ≤ gb117)); clear HO_4; clear HB; have HO_4 := n0_; have HB := n1_; have BK117 := n2_; have GW117 := n3_; have GE117 := n4_; clear n0_ n1_ n2_ n3_ n4_; clear hb hbox hg; have hcz40_0 : w39.cell? ⟨gb117, 0, none⟩ = some (.int .i64 0) := (blk_cell BK117.out 0).trans rfl; have hcz40_1 : w39.cell? ⟨gb117, 1, none⟩ = some (.int .i64 0) := (blk_cell BK117.out 1).trans rfl; have hcz40_2 : w39.cell? ⟨gb117, 2, none⟩ = some (.int .u8 0) := (blk_cell BK117.out 2).trans rfl; have hfz40_0 := blk_frozen BK117.out 0; have hfz40_1 := blk_frozen BK117.out 1; have hfz40_2 := blk_frozen BK117.out 2) | ((with_reducible refine gate_callee (f := 22) rfl ?_); refine goesL_ (some 85) rfl rfl Try.func22 (by kernel_rfl) rfl #[.int .i64 t112] rfl (by (try simp only [List.map_toArray, List.map_cons, List.map_nil]); first | done | rfl | (simp only [List.length_drop, List.length_take]; rfl)) ?_; (with_reducible refine (valiselaw11_num.calls t112 t118 _ A37.out).mono ?_); rintro e w' ⟨rfl, ⟨nd, rfl⟩⟩; refine ⟨_, rfl, ?_⟩; obtain ⟨Ao41, co41, eo41⟩ := Kd.R_slice HO_4.out; subst eo41))
                                go_ret
                                exact ⟨by first | rfl | (simp [errW_none, errW_some] <;> rfl) | (simp [*, errW_none, errW_some] <;> rfl), by repeat (first | (with_reducible first | exact HB.out | apply below_alloc | apply pw_below_drewN | apply below_drew1 | refine below_set ?_ GE117.out) | exact HB.out)⟩
                              · rw [if_neg c38] at H
                                have c38b0 : (t118 == 100) = false := beq_eq_false_iff_ne.mpr c38
                                have c38b1 : (t118 != 100) = true := bne_iff_ne.mpr c38
                                obtain rfl := Option.some.inj H
                                have p116 : 0 ≤ (x6_1 : Int) := of_decide_eq_true (by first | (with_reducible assumption) | assumption)
                                have q116 : x6_1 < (l0.length : Int) := of_decide_eq_true (by first | (with_reducible assumption) | assumption)
                                obtain ⟨ad116, e116, hx116_0, hx116_1, hx116_2⟩ := at_T47 HR0.out x6_1 p116 q116
                                cases e116
                                replace hx116_0 := (HB.out.cell (World.block_lt_of_cell? w _ hx116_0)).trans hx116_0
                                replace hx116_1 := (HB.out.cell (World.block_lt_of_cell? w _ hx116_1)).trans hx116_1
                                replace hx116_2 := (HB.out.cell (World.block_lt_of_cell? w _ hx116_2)).trans hx116_2
                                replace p116 := eq_true p116
                                replace q116 := eq_true q116
                                go_wp2_with (first | ((with_reducible refine gate_dst (N := 7) rfl ?_); (try (refine gate_guard (by rfl) ?_; dsimp only)); refine box_event ?hg (N := 7) ?hd (cs := #[.int .i64 0, .int .i64 0, .int .u8 0]) (t := 47) ?hr ?_; (case hd => rfl); (case hg => rfl); (case hr => first | (go_simp; done) | (go_simp; rfl)); intro gb117 hg w42 hbox hb; have n0_ := Aside0.mk (Kd.R_below (by (with_reducible repeat (first | apply Kd.R_alloc | apply Kd.R_drewN | apply Kd.R_drew)); exact HO_4.out) hb); have n1_ := Aside0.mk (below_step (by repeat (first | (with_reducible first | exact HB.out | apply below_alloc | apply pw_below_drewN | apply below_drew1) | exact HB.out)) hb); have n2_ := Aside0.mk (hbox); have n3_ := Aside0.mk ((by rw [hg]; exact (below_size (by repeat (first | (with_reducible first | exact HB.out | apply below_alloc | apply pw_below_drewN | apply below_drew1) | exact HB.out))) : w.heap.size ≤ gb117)); have n4_ := Aside0.mk ((by rw [hg]; exact (below_size (by repeat (first | (with_reducible first | exact HB.out | apply below_alloc | apply pw_below_drewN | apply below_drew1) | exact HB.out))) : w.heap.size ≤ gb117)); clear HO_4; clear HB; have HO_4 := n0_; have HB := n1_; have BK117 := n2_; have GW117 := n3_; have GE117 := n4_; clear n0_ n1_ n2_ n3_ n4_; clear hb hbox hg; have hcz43_0 : w42.cell? ⟨gb117, 0, none⟩ = some (.int .i64 0) := (blk_cell BK117.out 0).trans rfl; have hcz43_1 : w42.cell? ⟨gb117, 1, none⟩ = some (.int .i64 0) := (blk_cell BK117.out 1).trans rfl; have hcz43_2 : w42.cell? ⟨gb117, 2, none⟩ = some (.int .u8 0) := (blk_cell BK117.out 2).trans rfl; have hfz43_0 := blk_frozen BK117.out 0; have hfz43_1 := blk_frozen BK117.out 1; have hfz43_2 := blk_frozen BK117.out 2) | ((with_reducible refine gate_callee (f := 22) rfl ?_); refine goesL_ (some 85) rfl rfl Try.func22 (by kernel_rfl) rfl #[.int .i64 t112] rfl (by (try simp only [List.map_toArray, List.map_cons, List.map_nil]); first | done | rfl | (simp only [List.length_drop, List.length_take]; rfl)) ?_; (with_reducible refine (valiselaw11_num.calls t112 t118 _ A37.out).mono ?_); rintro e w' ⟨rfl, ⟨nd, rfl⟩⟩; refine ⟨_, rfl, ?_⟩))
                                go_ret
                                exact ⟨by first | rfl | (simp [errW_none, errW_some] <;> rfl) | (simp [*, errW_none, errW_some] <;> rfl), by repeat (first | (with_reducible first | exact HB.out | apply below_alloc | apply pw_below_drewN | apply below_drew1 | refine below_set ?_ GE117.out) | exact HB.out)⟩
                        · rw [if_neg c30] at H
                          have c30b0 : decide (((rd_T47 l0 x6_1).f1) ≤ 32768) = false := decide_eq_false c30
                          clear c30
                          by_cases c44 : (((rd_T47 l0 x6_1).f1) = 0)
                          · rw [if_pos c44] at H
                            have c44b0 : (((rd_T47 l0 x6_1).f1) == 0) = true := beq_iff_eq.mpr c44
                            have c44b1 : (((rd_T47 l0 x6_1).f1) != 0) = false := bne_eq_false_iff_eq.mpr c44
                            clear c44
                            have H' := Aside0.mk H
                            clear H
                            have p116 : 0 ≤ (x6_1 : Int) := of_decide_eq_true (by first | (with_reducible assumption) | assumption)
                            have q116 : x6_1 < (l0.length : Int) := of_decide_eq_true (by first | (with_reducible assumption) | assumption)
                            obtain ⟨ad116, e116, hx116_0, hx116_1, hx116_2⟩ := at_T47 HR0.out x6_1 p116 q116
                            cases e116
                            replace hx116_0 := (HB.out.cell (World.block_lt_of_cell? w _ hx116_0)).trans hx116_0
                            replace hx116_1 := (HB.out.cell (World.block_lt_of_cell? w _ hx116_1)).trans hx116_1
                            replace hx116_2 := (HB.out.cell (World.block_lt_of_cell? w _ hx116_2)).trans hx116_2
                            replace p116 := eq_true p116
                            replace q116 := eq_true q116
                            go_wp2_with (first | ((with_reducible refine gate_dst (N := 7) rfl ?_); (try (refine gate_guard (by rfl) ?_; dsimp only)); refine box_event ?hg (N := 7) ?hd (cs := #[.int .i64 0, .int .i64 0, .int .u8 0]) (t := 47) ?hr ?_; (case hd => rfl); (case hg => rfl); (case hr => first | (go_simp; done) | (go_simp; rfl)); intro gb117 hg w45 hbox hb; have n0_ := Aside0.mk (Kd.R_below (by (with_reducible repeat (first | apply Kd.R_alloc | apply Kd.R_drewN | apply Kd.R_drew)); exact HO_4.out) hb); have n1_ := Aside0.mk (below_step (by repeat (first | (with_reducible first | exact HB.out | apply below_alloc | apply pw_below_drewN | apply below_drew1) | exact HB.out)) hb); have n2_ := Aside0.mk (hbox); have n3_ := Aside0.mk ((by rw [hg]; exact (below_size (by repeat (first | (with_reducible first | exact HB.out | apply below_alloc | apply pw_below_drewN | apply below_drew1) | exact HB.out))) : w.heap.size ≤ gb117)); have n4_ := Aside0.mk ((by rw [hg]; exact (below_size (by repeat (first | (with_reducible first | exact HB.out | apply below_alloc | apply pw_below_drewN | apply below_drew1) | exact HB.out))) : w.heap.size ≤ gb117)); clear HO_4; clear HB; have HO_4 := n0_; have HB := n1_; have BK117 := n2_; have GW117 := n3_; have GE117 := n4_; clear n0_ n1_ n2_ n3_ n4_; clear hb hbox hg; have hcz46_0 : w45.cell? ⟨gb117, 0, none⟩ = some (.int .i64 0) := (blk_cell BK117.out 0).trans rfl; have hcz46_1 : w45.cell? ⟨gb117, 1, none⟩ = some (.int .i64 0) := (blk_cell BK117.out 1).trans rfl; have hcz46_2 : w45.cell? ⟨gb117, 2, none⟩ = some (.int .u8 0) := (blk_cell BK117.out 2).trans rfl; have hfz46_0 := blk_frozen BK117.out 0; have hfz46_1 := blk_frozen BK117.out 1; have hfz46_2 := blk_frozen BK117.out 2))
                            go_roundg k1
                            case measure => have := HK1.out; omega
                            case rel => exact ⟨(wrap64 (x6_1 + 1)), (by first | rfl | (simp; done) | (simp [*]; done)), H', ⟨by have := HK1.out; omega⟩, ⟨by (with_reducible repeat (first | apply Kd.R_alloc | apply Kd.R_drewN | apply Kd.R_drew)); exact Kd.R_mono (Kd.R_far (p := ⟨gb117, 2, none⟩) (Kd.R_far (p := ⟨gb117, 1, none⟩) (Kd.R_far (p := ⟨gb117, 0, none⟩) (Kd.R_types HO_4.out BK117.out (by decide)) (fun _ hk => hk.2) (.int .i64 ((rd_T47 l0 x6_1).f0))) (fun _ hk => hk.2) (.int .i64 ((rd_T47 l0 x6_1).f1))) (fun _ hk => hk.2) (.int .u8 ((rd_T47 l0 x6_1).f2))) (fun _ hk => trivial)⟩, ⟨by repeat (first | (with_reducible first | exact HB.out | apply below_alloc | apply pw_below_drewN | apply below_drew1 | refine below_set ?_ GE117.out) | exact HB.out)⟩⟩
                          · rw [if_neg c44] at H
                            have c44b0 : (((rd_T47 l0 x6_1).f1) == 0) = false := beq_eq_false_iff_ne.mpr c44
                            have c44b1 : (((rd_T47 l0 x6_1).f1) != 0) = true := bne_iff_ne.mpr c44
                            replace H := Option.bind_eq_some_iff.mp H
                            obtain ⟨t119, A470, H⟩ := H
                            replace H : (if t119 = 100 then (some ((t111.length : Int) == 0)) else (some false)) = some r := H
                            have A47 := Aside0.mk A470
                            clear A470
                            by_cases c48 : t119 = 100
                            · rw [if_pos c48] at H
                              have c48b0 : (t119 == 100) = true := beq_iff_eq.mpr c48
                              have c48b1 : (t119 != 100) = false := bne_eq_false_iff_eq.mpr c48
                              clear c48
                              obtain rfl := Option.some.inj H
                              have p116 : 0 ≤ (x6_1 : Int) := of_decide_eq_true (by first | (with_reducible assumption) | assumption)
                              have q116 : x6_1 < (l0.length : Int) := of_decide_eq_true (by first | (with_reducible assumption) | assumption)
                              obtain ⟨ad116, e116, hx116_0, hx116_1, hx116_2⟩ := at_T47 HR0.out x6_1 p116 q116
                              cases e116
                              replace hx116_0 := (HB.out.cell (World.block_lt_of_cell? w _ hx116_0)).trans hx116_0
                              replace hx116_1 := (HB.out.cell (World.block_lt_of_cell? w _ hx116_1)).trans hx116_1
                              replace hx116_2 := (HB.out.cell (World.block_lt_of_cell? w _ hx116_2)).trans hx116_2
                              replace p116 := eq_true p116
                              replace q116 := eq_true q116
                              go_wp2_with (first | ((with_reducible refine gate_dst (N := 7) rfl ?_); (try (refine gate_guard (by rfl) ?_; dsimp only)); refine box_event ?hg (N := 7) ?hd (cs := #[.int .i64 0, .int .i64 0, .int .u8 0]) (t := 47) ?hr ?_; (case hd => rfl); (case hg => rfl); (case hr => first | (go_simp; done) | (go_simp; rfl)); intro gb117 hg w49 hbox hb; have n0_ := Aside0.mk (Kd.R_below (by (with_reducible repeat (first | apply Kd.R_alloc | apply Kd.R_drewN | apply Kd.R_drew)); exact HO_4.out) hb); have n1_ := Aside0.mk (below_step (by repeat (first | (with_reducible first | exact HB.out | apply below_alloc | apply pw_below_drewN | apply below_drew1) | exact HB.out)) hb); have n2_ := Aside0.mk (hbox); have n3_ := Aside0.mk ((by rw [hg]; exact (below_size (by repeat (first | (with_reducible first | exact HB.out | apply below_alloc | apply pw_below_drewN | apply below_drew1) | exact HB.out))) : w.heap.size ≤ gb117)); have n4_ := Aside0.mk ((by rw [hg]; exact (below_size (by repeat (first | (with_reducible first | exact HB.out | apply below_alloc | apply pw_below_drewN | apply below_drew1) | exact HB.out))) : w.heap.size ≤ gb117)); clear HO_4; clear HB; have HO_4 := n0_; have HB := n1_; have BK117 := n2_; have GW117 := n3_; have GE117 := n4_; clear n0_ n1_ n2_ n3_ n4_; clear hb hbox hg; have hcz50_0 : w49.cell? ⟨gb117, 0, none⟩ = some (.int .i64 0) := (blk_cell BK117.out 0).trans rfl; have hcz50_1 : w49.cell? ⟨gb117, 1, none⟩ = some (.int .i64 0) := (blk_cell BK117.out 1).trans rfl; have hcz50_2 : w49.cell? ⟨gb117, 2, none⟩ = some (.int .u8 0) := (blk_cell BK117.out 2).trans rfl; have hfz50_0 := blk_frozen BK117.out 0; have hfz50_1 := blk_frozen BK117.out 1; have hfz50_2 := blk_frozen BK117.out 2) | ((with_reducible refine gate_callee (f := 22) rfl ?_); refine goesL_ (some 85) rfl rfl Try.func22 (by kernel_rfl) rfl #[.int .i64 t112] rfl (by (try simp only [List.map_toArray, List.map_cons, List.map_nil]); first | done | rfl | (simp only [List.length_drop, List.length_take]; rfl)) ?_; (with_reducible refine (valiselaw11_num.calls t112 t119 _ A47.out).mono ?_); rintro e w' ⟨rfl, ⟨nd, rfl⟩⟩; refine ⟨_, rfl, ?_⟩; obtain ⟨Ao51, co51, eo51⟩ := Kd.R_slice HO_4.out; subst eo51))
                              go_ret
                              exact ⟨by first | rfl | (simp [errW_none, errW_some] <;> rfl) | (simp [*, errW_none, errW_some] <;> rfl), by repeat (first | (with_reducible first | exact HB.out | apply below_alloc | apply pw_below_drewN | apply below_drew1 | refine below_set ?_ GE117.out) | exact HB.out)⟩
                            · rw [if_neg c48] at H
                              have c48b0 : (t119 == 100) = false := beq_eq_false_iff_ne.mpr c48
                              have c48b1 : (t119 != 100) = true := bne_iff_ne.mpr c48
                              obtain rfl := Option.some.inj H
                              have p116 : 0 ≤ (x6_1 : Int) := of_decide_eq_true (by first | (with_reducible assumption) | assumption)
                              have q116 : x6_1 < (l0.length : Int) := of_decide_eq_true (by first | (with_reducible assumption) | assumption)
                              obtain ⟨ad116, e116, hx116_0, hx116_1, hx116_2⟩ := at_T47 HR0.out x6_1 p116 q116
                              cases e116
                              replace hx116_0 := (HB.out.cell (World.block_lt_of_cell? w _ hx116_0)).trans hx116_0
                              replace hx116_1 := (HB.out.cell (World.block_lt_of_cell? w _ hx116_1)).trans hx116_1
                              replace hx116_2 := (HB.out.cell (World.block_lt_of_cell? w _ hx116_2)).trans hx116_2
                              replace p116 := eq_true p116
                              replace q116 := eq_true q116
                              go_wp2_with (first | ((with_reducible refine gate_dst (N := 7) rfl ?_); (try (refine gate_guard (by rfl) ?_; dsimp only)); refine box_event ?hg (N := 7) ?hd (cs := #[.int .i64 0, .int .i64 0, .int .u8 0]) (t := 47) ?hr ?_; (case hd => rfl); (case hg => rfl); (case hr => first | (go_simp; done) | (go_simp; rfl)); intro gb117 hg w52 hbox hb; have n0_ := Aside0.mk (Kd.R_below (by (with_reducible repeat (first | apply Kd.R_alloc | apply Kd.R_drewN | apply Kd.R_drew)); exact HO_4.out) hb); have n1_ := Aside0.mk (below_step (by repeat (first | (with_reducible first | exact HB.out | apply below_alloc | apply pw_below_drewN | apply below_drew1) | exact HB.out)) hb); have n2_ := Aside0.mk (hbox); have n3_ := Aside0.mk ((by rw [hg]; exact (below_size (by repeat (first | (with_reducible first | exact HB.out | apply below_alloc | apply pw_below_drewN | apply below_drew1) | exact HB.out))) : w.heap.size ≤ gb117)); have n4_ := Aside0.mk ((by rw [hg]; exact (below_size (by repeat (first | (with_reducible first | exact HB.out | apply below_alloc | apply pw_below_drewN | apply below_drew1) | exact HB.out))) : w.heap.size ≤ gb117)); clear HO_4; clear HB; have HO_4 := n0_; have HB := n1_; have BK117 := n2_; have GW117 := n3_; have GE117 := n4_; clear n0_ n1_ n2_ n3_ n4_; clear hb hbox hg; have hcz53_0 : w52.cell? ⟨gb117, 0, none⟩ = some (.int .i64 0) := (blk_cell BK117.out 0).trans rfl; have hcz53_1 : w52.cell? ⟨gb117, 1, none⟩ = some (.int .i64 0) := (blk_cell BK117.out 1).trans rfl; have hcz53_2 : w52.cell? ⟨gb117, 2, none⟩ = some (.int .u8 0) := (blk_cell BK117.out 2).trans rfl; have hfz53_0 := blk_frozen BK117.out 0; have hfz53_1 := blk_frozen BK117.out 1; have hfz53_2 := blk_frozen BK117.out 2) | ((with_reducible refine gate_callee (f := 22) rfl ?_); refine goesL_ (some 85) rfl rfl Try.func22 (by kernel_rfl) rfl #[.int .i64 t112] rfl (by (try simp only [List.map_toArray, List.map_cons, List.map_nil]); first | done | rfl | (simp only [List.length_drop, List.length_take]; rfl)) ?_; (with_reducible refine (valiselaw11_num.calls t112 t119 _ A47.out).mono ?_); rintro e w' ⟨rfl, ⟨nd, rfl⟩⟩; refine ⟨_, rfl, ?_⟩))
                              go_ret
                              exact ⟨by first | rfl | (simp [errW_none, errW_some] <;> rfl) | (simp [*, errW_none, errW_some] <;> rfl), by repeat (first | (with_reducible first | exact HB.out | apply below_alloc | apply pw_below_drewN | apply below_drew1 | refine below_set ?_ GE117.out) | exact HB.out)⟩
                      · rw [if_neg c29] at H
                        have c29b0 : decide (1 ≤ ((rd_T47 l0 x6_1).f1)) = false := decide_eq_false c29
                        clear c29
                        by_cases c54 : (((rd_T47 l0 x6_1).f1) = 0)
                        · rw [if_pos c54] at H
                          have c54b0 : (((rd_T47 l0 x6_1).f1) == 0) = true := beq_iff_eq.mpr c54
                          have c54b1 : (((rd_T47 l0 x6_1).f1) != 0) = false := bne_eq_false_iff_eq.mpr c54
                          clear c54
                          have H' := Aside0.mk H
                          clear H
                          have p116 : 0 ≤ (x6_1 : Int) := of_decide_eq_true (by first | (with_reducible assumption) | assumption)
                          have q116 : x6_1 < (l0.length : Int) := of_decide_eq_true (by first | (with_reducible assumption) | assumption)
                          obtain ⟨ad116, e116, hx116_0, hx116_1, hx116_2⟩ := at_T47 HR0.out x6_1 p116 q116
                          cases e116
                          replace hx116_0 := (HB.out.cell (World.block_lt_of_cell? w _ hx116_0)).trans hx116_0
                          replace hx116_1 := (HB.out.cell (World.block_lt_of_cell? w _ hx116_1)).trans hx116_1
                          replace hx116_2 := (HB.out.cell (World.block_lt_of_cell? w _ hx116_2)).trans hx116_2
                          replace p116 := eq_true p116
                          replace q116 := eq_true q116
                          go_wp2_with (first | ((with_reducible refine gate_dst (N := 7) rfl ?_); (try (refine gate_guard (by rfl) ?_; dsimp only)); refine box_event ?hg (N := 7) ?hd (cs := #[.int .i64 0, .int .i64 0, .int .u8 0]) (t := 47) ?hr ?_; (case hd => rfl); (case hg => rfl); (case hr => first | (go_simp; done) | (go_simp; rfl)); intro gb117 hg w55 hbox hb; have n0_ := Aside0.mk (Kd.R_below (by (with_reducible repeat (first | apply Kd.R_alloc | apply Kd.R_drewN | apply Kd.R_drew)); exact HO_4.out) hb); have n1_ := Aside0.mk (below_step (by repeat (first | (with_reducible first | exact HB.out | apply below_alloc | apply pw_below_drewN | apply below_drew1) | exact HB.out)) hb); have n2_ := Aside0.mk (hbox); have n3_ := Aside0.mk ((by rw [hg]; exact (below_size (by repeat (first | (with_reducible first | exact HB.out | apply below_alloc | apply pw_below_drewN | apply below_drew1) | exact HB.out))) : w.heap.size ≤ gb117)); have n4_ := Aside0.mk ((by rw [hg]; exact (below_size (by repeat (first | (with_reducible first | exact HB.out | apply below_alloc | apply pw_below_drewN | apply below_drew1) | exact HB.out))) : w.heap.size ≤ gb117)); clear HO_4; clear HB; have HO_4 := n0_; have HB := n1_; have BK117 := n2_; have GW117 := n3_; have GE117 := n4_; clear n0_ n1_ n2_ n3_ n4_; clear hb hbox hg; have hcz56_0 : w55.cell? ⟨gb117, 0, none⟩ = some (.int .i64 0) := (blk_cell BK117.out 0).trans rfl; have hcz56_1 : w55.cell? ⟨gb117, 1, none⟩ = some (.int .i64 0) := (blk_cell BK117.out 1).trans rfl; have hcz56_2 : w55.cell? ⟨gb117, 2, none⟩ = some (.int .u8 0) := (blk_cell BK117.out 2).trans rfl; have hfz56_0 := blk_frozen BK117.out 0; have hfz56_1 := blk_frozen BK117.out 1; have hfz56_2 := blk_frozen BK117.out 2))
                          go_roundg k1
                          case measure => have := HK1.out; omega
                          case rel => exact ⟨(wrap64 (x6_1 + 1)), (by first | rfl | (simp; done) | (simp [*]; done)), H', ⟨by have := HK1.out; omega⟩, ⟨by (with_reducible repeat (first | apply Kd.R_alloc | apply Kd.R_drewN | apply Kd.R_drew)); exact Kd.R_mono (Kd.R_far (p := ⟨gb117, 2, none⟩) (Kd.R_far (p := ⟨gb117, 1, none⟩) (Kd.R_far (p := ⟨gb117, 0, none⟩) (Kd.R_types HO_4.out BK117.out (by decide)) (fun _ hk => hk.2) (.int .i64 ((rd_T47 l0 x6_1).f0))) (fun _ hk => hk.2) (.int .i64 ((rd_T47 l0 x6_1).f1))) (fun _ hk => hk.2) (.int .u8 ((rd_T47 l0 x6_1).f2))) (fun _ hk => trivial)⟩, ⟨by repeat (first | (with_reducible first | exact HB.out | apply below_alloc | apply pw_below_drewN | apply below_drew1 | refine below_set ?_ GE117.out) | exact HB.out)⟩⟩
                        · rw [if_neg c54] at H
                          have c54b0 : (((rd_T47 l0 x6_1).f1) == 0) = false := beq_eq_false_iff_ne.mpr c54
                          have c54b1 : (((rd_T47 l0 x6_1).f1) != 0) = true := bne_iff_ne.mpr c54
                          replace H := Option.bind_eq_some_iff.mp H
                          obtain ⟨t120, A570, H⟩ := H
                          replace H : (if t120 = 100 then (some ((t111.length : Int) == 0)) else (some false)) = some r := H
                          have A57 := Aside0.mk A570
                          clear A570
                          by_cases c58 : t120 = 100
                          · rw [if_pos c58] at H
                            have c58b0 : (t120 == 100) = true := beq_iff_eq.mpr c58
                            have c58b1 : (t120 != 100) = false := bne_eq_false_iff_eq.mpr c58
                            clear c58
                            obtain rfl := Option.some.inj H
                            have p116 : 0 ≤ (x6_1 : Int) := of_decide_eq_true (by first | (with_reducible assumption) | assumption)
                            have q116 : x6_1 < (l0.length : Int) := of_decide_eq_true (by first | (with_reducible assumption) | assumption)
                            obtain ⟨ad116, e116, hx116_0, hx116_1, hx116_2⟩ := at_T47 HR0.out x6_1 p116 q116
                            cases e116
                            replace hx116_0 := (HB.out.cell (World.block_lt_of_cell? w _ hx116_0)).trans hx116_0
                            replace hx116_1 := (HB.out.cell (World.block_lt_of_cell? w _ hx116_1)).trans hx116_1
                            replace hx116_2 := (HB.out.cell (World.block_lt_of_cell? w _ hx116_2)).trans hx116_2
                            replace p116 := eq_true p116
                            replace q116 := eq_true q116
                            go_wp2_with (first | ((with_reducible refine gate_dst (N := 7) rfl ?_); (try (refine gate_guard (by rfl) ?_; dsimp only)); refine box_event ?hg (N := 7) ?hd (cs := #[.int .i64 0, .int .i64 0, .int .u8 0]) (t := 47) ?hr ?_; (case hd => rfl); (case hg => rfl); (case hr => first | (go_simp; done) | (go_simp; rfl)); intro gb117 hg w59 hbox hb; have n0_ := Aside0.mk (Kd.R_below (by (with_reducible repeat (first | apply Kd.R_alloc | apply Kd.R_drewN | apply Kd.R_drew)); exact HO_4.out) hb); have n1_ := Aside0.mk (below_step (by repeat (first | (with_reducible first | exact HB.out | apply below_alloc | apply pw_below_drewN | apply below_drew1) | exact HB.out)) hb); have n2_ := Aside0.mk (hbox); have n3_ := Aside0.mk ((by rw [hg]; exact (below_size (by repeat (first | (with_reducible first | exact HB.out | apply below_alloc | apply pw_below_drewN | apply below_drew1) | exact HB.out))) : w.heap.size ≤ gb117)); have n4_ := Aside0.mk ((by rw [hg]; exact (below_size (by repeat (first | (with_reducible first | exact HB.out | apply below_alloc | apply pw_below_drewN | apply below_drew1) | exact HB.out))) : w.heap.size ≤ gb117)); clear HO_4; clear HB; have HO_4 := n0_; have HB := n1_; have BK117 := n2_; have GW117 := n3_; have GE117 := n4_; clear n0_ n1_ n2_ n3_ n4_; clear hb hbox hg; have hcz60_0 : w59.cell? ⟨gb117, 0, none⟩ = some (.int .i64 0) := (blk_cell BK117.out 0).trans rfl; have hcz60_1 : w59.cell? ⟨gb117, 1, none⟩ = some (.int .i64 0) := (blk_cell BK117.out 1).trans rfl; have hcz60_2 : w59.cell? ⟨gb117, 2, none⟩ = some (.int .u8 0) := (blk_cell BK117.out 2).trans rfl; have hfz60_0 := blk_frozen BK117.out 0; have hfz60_1 := blk_frozen BK117.out 1; have hfz60_2 := blk_frozen BK117.out 2) | ((with_reducible refine gate_callee (f := 22) rfl ?_); refine goesL_ (some 85) rfl rfl Try.func22 (by kernel_rfl) rfl #[.int .i64 t112] rfl (by (try simp only [List.map_toArray, List.map_cons, List.map_nil]); first | done | rfl | (simp only [List.length_drop, List.length_take]; rfl)) ?_; (with_reducible refine (valiselaw11_num.calls t112 t120 _ A57.out).mono ?_); rintro e w' ⟨rfl, ⟨nd, rfl⟩⟩; refine ⟨_, rfl, ?_⟩; obtain ⟨Ao61, co61, eo61⟩ := Kd.R_slice HO_4.out; subst eo61))
                            go_ret
                            exact ⟨by first | rfl | (simp [errW_none, errW_some] <;> rfl) | (simp [*, errW_none, errW_some] <;> rfl), by repeat (first | (with_reducible first | exact HB.out | apply below_alloc | apply pw_below_drewN | apply below_drew1 | refine below_set ?_ GE117.out) | exact HB.out)⟩
                          · rw [if_neg c58] at H
                            have c58b0 : (t120 == 100) = false := beq_eq_false_iff_ne.mpr c58
                            have c58b1 : (t120 != 100) = true := bne_iff_ne.mpr c58
                            obtain rfl := Option.some.inj H
                            have p116 : 0 ≤ (x6_1 : Int) := of_decide_eq_true (by first | (with_reducible assumption) | assumption)
                            have q116 : x6_1 < (l0.length : Int) := of_decide_eq_true (by first | (with_reducible assumption) | assumption)
                            obtain ⟨ad116, e116, hx116_0, hx116_1, hx116_2⟩ := at_T47 HR0.out x6_1 p116 q116
                            cases e116
                            replace hx116_0 := (HB.out.cell (World.block_lt_of_cell? w _ hx116_0)).trans hx116_0
                            replace hx116_1 := (HB.out.cell (World.block_lt_of_cell? w _ hx116_1)).trans hx116_1
                            replace hx116_2 := (HB.out.cell (World.block_lt_of_cell? w _ hx116_2)).trans hx116_2
                            replace p116 := eq_true p116
                            replace q116 := eq_true q116
                            go_wp2_with (first | ((with_reducible refine gate_dst (N := 7) rfl ?_); (try (refine gate_guard (by rfl) ?_; dsimp only)); refine box_event ?hg (N := 7) ?hd (cs := #[.int .i64 0, .int .i64 0, .int .u8 0]) (t := 47) ?hr ?_; (case hd => rfl); (case hg => rfl); (case hr => first | (go_simp; done) | (go_simp; rfl)); intro gb117 hg w62 hbox hb; have n0_ := Aside0.mk (Kd.R_below (by (with_reducible repeat (first | apply Kd.R_alloc | apply Kd.R_drewN | apply Kd.R_drew)); exact HO_4.out) hb); have n1_ := Aside0.mk (below_step (by repeat (first | (with_reducible first | exact HB.out | apply below_alloc | apply pw_below_drewN | apply below_drew1) | exact HB.out)) hb); have n2_ := Aside0.mk (hbox); have n3_ := Aside0.mk ((by rw [hg]; exact (below_size (by repeat (first | (with_reducible first | exact HB.out | apply below_alloc | apply pw_below_drewN | apply below_drew1) | exact HB.out))) : w.heap.size ≤ gb117)); have n4_ := Aside0.mk ((by rw [hg]; exact (below_size (by repeat (first | (with_reducible first | exact HB.out | apply below_alloc | apply pw_below_drewN | apply below_drew1) | exact HB.out))) : w.heap.size ≤ gb117)); clear HO_4; clear HB; have HO_4 := n0_; have HB := n1_; have BK117 := n2_; have GW117 := n3_; have GE117 := n4_; clear n0_ n1_ n2_ n3_ n4_; clear hb hbox hg; have hcz63_0 : w62.cell? ⟨gb117, 0, none⟩ = some (.int .i64 0) := (blk_cell BK117.out 0).trans rfl; have hcz63_1 : w62.cell? ⟨gb117, 1, none⟩ = some (.int .i64 0) := (blk_cell BK117.out 1).trans rfl; have hcz63_2 : w62.cell? ⟨gb117, 2, none⟩ = some (.int .u8 0) := (blk_cell BK117.out 2).trans rfl; have hfz63_0 := blk_frozen BK117.out 0; have hfz63_1 := blk_frozen BK117.out 1; have hfz63_2 := blk_frozen BK117.out 2) | ((with_reducible refine gate_callee (f := 22) rfl ?_); refine goesL_ (some 85) rfl rfl Try.func22 (by kernel_rfl) rfl #[.int .i64 t112] rfl (by (try simp only [List.map_toArray, List.map_cons, List.map_nil]); first | done | rfl | (simp only [List.length_drop, List.length_take]; rfl)) ?_; (with_reducible refine (valiselaw11_num.calls t112 t120 _ A57.out).mono ?_); rintro e w' ⟨rfl, ⟨nd, rfl⟩⟩; refine ⟨_, rfl, ?_⟩))
                            go_ret
                            exact ⟨by first | rfl | (simp [errW_none, errW_some] <;> rfl) | (simp [*, errW_none, errW_some] <;> rfl), by repeat (first | (with_reducible first | exact HB.out | apply below_alloc | apply pw_below_drewN | apply below_drew1 | refine below_set ?_ GE117.out) | exact HB.out)⟩
                    · rw [if_neg c28] at H
                      have c28b0 : decide (((rd_T47 l0 x6_1).f0) ≤ 258) = false := decide_eq_false c28
                      clear c28
                      by_cases c64 : (((rd_T47 l0 x6_1).f1) = 0)
                      · rw [if_pos c64] at H
                        have c64b0 : (((rd_T47 l0 x6_1).f1) == 0) = true := beq_iff_eq.mpr c64
                        have c64b1 : (((rd_T47 l0 x6_1).f1) != 0) = false := bne_eq_false_iff_eq.mpr c64
                        clear c64
                        have H' := Aside0.mk H
                        clear H
                        have p116 : 0 ≤ (x6_1 : Int) := of_decide_eq_true (by first | (with_reducible assumption) | assumption)
                        have q116 : x6_1 < (l0.length : Int) := of_decide_eq_true (by first | (with_reducible assumption) | assumption)
                        obtain ⟨ad116, e116, hx116_0, hx116_1, hx116_2⟩ := at_T47 HR0.out x6_1 p116 q116
                        cases e116
                        replace hx116_0 := (HB.out.cell (World.block_lt_of_cell? w _ hx116_0)).trans hx116_0
                        replace hx116_1 := (HB.out.cell (World.block_lt_of_cell? w _ hx116_1)).trans hx116_1
                        replace hx116_2 := (HB.out.cell (World.block_lt_of_cell? w _ hx116_2)).trans hx116_2
                        replace p116 := eq_true p116
                        replace q116 := eq_true q116
                        go_wp2_with (first | ((with_reducible refine gate_dst (N := 7) rfl ?_); (try (refine gate_guard (by rfl) ?_; dsimp only)); refine box_event ?hg (N := 7) ?hd (cs := #[.int .i64 0, .int .i64 0, .int .u8 0]) (t := 47) ?hr ?_; (case hd => rfl); (case hg => rfl); (case hr => first | (go_simp; done) | (go_simp; rfl)); intro gb117 hg w65 hbox hb; have n0_ := Aside0.mk (Kd.R_below (by (with_reducible repeat (first | apply Kd.R_alloc | apply Kd.R_drewN | apply Kd.R_drew)); exact HO_4.out) hb); have n1_ := Aside0.mk (below_step (by repeat (first | (with_reducible first | exact HB.out | apply below_alloc | apply pw_below_drewN | apply below_drew1) | exact HB.out)) hb); have n2_ := Aside0.mk (hbox); have n3_ := Aside0.mk ((by rw [hg]; exact (below_size (by repeat (first | (with_reducible first | exact HB.out | apply below_alloc | apply pw_below_drewN | apply below_drew1) | exact HB.out))) : w.heap.size ≤ gb117)); have n4_ := Aside0.mk ((by rw [hg]; exact (below_size (by repeat (first | (with_reducible first | exact HB.out | apply below_alloc | apply pw_below_drewN | apply below_drew1) | exact HB.out))) : w.heap.size ≤ gb117)); clear HO_4; clear HB; have HO_4 := n0_; have HB := n1_; have BK117 := n2_; have GW117 := n3_; have GE117 := n4_; clear n0_ n1_ n2_ n3_ n4_; clear hb hbox hg; have hcz66_0 : w65.cell? ⟨gb117, 0, none⟩ = some (.int .i64 0) := (blk_cell BK117.out 0).trans rfl; have hcz66_1 : w65.cell? ⟨gb117, 1, none⟩ = some (.int .i64 0) := (blk_cell BK117.out 1).trans rfl; have hcz66_2 : w65.cell? ⟨gb117, 2, none⟩ = some (.int .u8 0) := (blk_cell BK117.out 2).trans rfl; have hfz66_0 := blk_frozen BK117.out 0; have hfz66_1 := blk_frozen BK117.out 1; have hfz66_2 := blk_frozen BK117.out 2))
                        go_roundg k1
                        case measure => have := HK1.out; omega
                        case rel => exact ⟨(wrap64 (x6_1 + 1)), (by first | rfl | (simp; done) | (simp [*]; done)), H', ⟨by have := HK1.out; omega⟩, ⟨by (with_reducible repeat (first | apply Kd.R_alloc | apply Kd.R_drewN | apply Kd.R_drew)); exact Kd.R_mono (Kd.R_far (p := ⟨gb117, 2, none⟩) (Kd.R_far (p := ⟨gb117, 1, none⟩) (Kd.R_far (p := ⟨gb117, 0, none⟩) (Kd.R_types HO_4.out BK117.out (by decide)) (fun _ hk => hk.2) (.int .i64 ((rd_T47 l0 x6_1).f0))) (fun _ hk => hk.2) (.int .i64 ((rd_T47 l0 x6_1).f1))) (fun _ hk => hk.2) (.int .u8 ((rd_T47 l0 x6_1).f2))) (fun _ hk => trivial)⟩, ⟨by repeat (first | (with_reducible first | exact HB.out | apply below_alloc | apply pw_below_drewN | apply below_drew1 | refine below_set ?_ GE117.out) | exact HB.out)⟩⟩
                      · rw [if_neg c64] at H
                        have c64b0 : (((rd_T47 l0 x6_1).f1) == 0) = false := beq_eq_false_iff_ne.mpr c64
                        have c64b1 : (((rd_T47 l0 x6_1).f1) != 0) = true := bne_iff_ne.mpr c64
                        replace H := Option.bind_eq_some_iff.mp H
                        obtain ⟨t121, A670, H⟩ := H
                        replace H : (if t121 = 100 then (some ((t111.length : Int) == 0)) else (some false)) = some r := H
                        have A67 := Aside0.mk A670
                        clear A670
                        by_cases c68 : t121 = 100
                        · rw [if_pos c68] at H
                          have c68b0 : (t121 == 100) = true := beq_iff_eq.mpr c68
                          have c68b1 : (t121 != 100) = false := bne_eq_false_iff_eq.mpr c68
                          clear c68
                          obtain rfl := Option.some.inj H
                          have p116 : 0 ≤ (x6_1 : Int) := of_decide_eq_true (by first | (with_reducible assumption) | assumption)
                          have q116 : x6_1 < (l0.length : Int) := of_decide_eq_true (by first | (with_reducible assumption) | assumption)
                          obtain ⟨ad116, e116, hx116_0, hx116_1, hx116_2⟩ := at_T47 HR0.out x6_1 p116 q116
                          cases e116
                          replace hx116_0 := (HB.out.cell (World.block_lt_of_cell? w _ hx116_0)).trans hx116_0
                          replace hx116_1 := (HB.out.cell (World.block_lt_of_cell? w _ hx116_1)).trans hx116_1
                          replace hx116_2 := (HB.out.cell (World.block_lt_of_cell? w _ hx116_2)).trans hx116_2
                          replace p116 := eq_true p116
                          replace q116 := eq_true q116
                          go_wp2_with (first | ((with_reducible refine gate_dst (N := 7) rfl ?_); (try (refine gate_guard (by rfl) ?_; dsimp only)); refine box_event ?hg (N := 7) ?hd (cs := #[.int .i64 0, .int .i64 0, .int .u8 0]) (t := 47) ?hr ?_; (case hd => rfl); (case hg => rfl); (case hr => first | (go_simp; done) | (go_simp; rfl)); intro gb117 hg w69 hbox hb; have n0_ := Aside0.mk (Kd.R_below (by (with_reducible repeat (first | apply Kd.R_alloc | apply Kd.R_drewN | apply Kd.R_drew)); exact HO_4.out) hb); have n1_ := Aside0.mk (below_step (by repeat (first | (with_reducible first | exact HB.out | apply below_alloc | apply pw_below_drewN | apply below_drew1) | exact HB.out)) hb); have n2_ := Aside0.mk (hbox); have n3_ := Aside0.mk ((by rw [hg]; exact (below_size (by repeat (first | (with_reducible first | exact HB.out | apply below_alloc | apply pw_below_drewN | apply below_drew1) | exact HB.out))) : w.heap.size ≤ gb117)); have n4_ := Aside0.mk ((by rw [hg]; exact (below_size (by repeat (first | (with_reducible first | exact HB.out | apply below_alloc | apply pw_below_drewN | apply below_drew1) | exact HB.out))) : w.heap.size ≤ gb117)); clear HO_4; clear HB; have HO_4 := n0_; have HB := n1_; have BK117 := n2_; have GW117 := n3_; have GE117 := n4_; clear n0_ n1_ n2_ n3_ n4_; clear hb hbox hg; have hcz70_0 : w69.cell? ⟨gb117, 0, none⟩ = some (.int .i64 0) := (blk_cell BK117.out 0).trans rfl; have hcz70_1 : w69.cell? ⟨gb117, 1, none⟩ = some (.int .i64 0) := (blk_cell BK117.out 1).trans rfl; have hcz70_2 : w69.cell? ⟨gb117, 2, none⟩ = some (.int .u8 0) := (blk_cell BK117.out 2).trans rfl; have hfz70_0 := blk_frozen BK117.out 0; have hfz70_1 := blk_frozen BK117.out 1; have hfz70_2 := blk_frozen BK117.out 2) | ((with_reducible refine gate_callee (f := 22) rfl ?_); refine goesL_ (some 85) rfl rfl Try.func22 (by kernel_rfl) rfl #[.int .i64 t112] rfl (by (try simp only [List.map_toArray, List.map_cons, List.map_nil]); first | done | rfl | (simp only [List.length_drop, List.length_take]; rfl)) ?_; (with_reducible refine (valiselaw11_num.calls t112 t121 _ A67.out).mono ?_); rintro e w' ⟨rfl, ⟨nd, rfl⟩⟩; refine ⟨_, rfl, ?_⟩; obtain ⟨Ao71, co71, eo71⟩ := Kd.R_slice HO_4.out; subst eo71))
                          go_ret
                          exact ⟨by first | rfl | (simp [errW_none, errW_some] <;> rfl) | (simp [*, errW_none, errW_some] <;> rfl), by repeat (first | (with_reducible first | exact HB.out | apply below_alloc | apply pw_below_drewN | apply below_drew1 | refine below_set ?_ GE117.out) | exact HB.out)⟩
                        · rw [if_neg c68] at H
                          have c68b0 : (t121 == 100) = false := beq_eq_false_iff_ne.mpr c68
                          have c68b1 : (t121 != 100) = true := bne_iff_ne.mpr c68
                          obtain rfl := Option.some.inj H
                          have p116 : 0 ≤ (x6_1 : Int) := of_decide_eq_true (by first | (with_reducible assumption) | assumption)
                          have q116 : x6_1 < (l0.length : Int) := of_decide_eq_true (by first | (with_reducible assumption) | assumption)
                          obtain ⟨ad116, e116, hx116_0, hx116_1, hx116_2⟩ := at_T47 HR0.out x6_1 p116 q116
                          cases e116
                          replace hx116_0 := (HB.out.cell (World.block_lt_of_cell? w _ hx116_0)).trans hx116_0
                          replace hx116_1 := (HB.out.cell (World.block_lt_of_cell? w _ hx116_1)).trans hx116_1
                          replace hx116_2 := (HB.out.cell (World.block_lt_of_cell? w _ hx116_2)).trans hx116_2
                          replace p116 := eq_true p116
                          replace q116 := eq_true q116
                          go_wp2_with (first | ((with_reducible refine gate_dst (N := 7) rfl ?_); (try (refine gate_guard (by rfl) ?_; dsimp only)); refine box_event ?hg (N := 7) ?hd (cs := #[.int .i64 0, .int .i64 0, .int .u8 0]) (t := 47) ?hr ?_; (case hd => rfl); (case hg => rfl); (case hr => first | (go_simp; done) | (go_simp; rfl)); intro gb117 hg w72 hbox hb; have n0_ := Aside0.mk (Kd.R_below (by (with_reducible repeat (first | apply Kd.R_alloc | apply Kd.R_drewN | apply Kd.R_drew)); exact HO_4.out) hb); have n1_ := Aside0.mk (below_step (by repeat (first | (with_reducible first | exact HB.out | apply below_alloc | apply pw_below_drewN | apply below_drew1) | exact HB.out)) hb); have n2_ := Aside0.mk (hbox); have n3_ := Aside0.mk ((by rw [hg]; exact (below_size (by repeat (first | (with_reducible first | exact HB.out | apply below_alloc | apply pw_below_drewN | apply below_drew1) | exact HB.out))) : w.heap.size ≤ gb117)); have n4_ := Aside0.mk ((by rw [hg]; exact (below_size (by repeat (first | (with_reducible first | exact HB.out | apply below_alloc | apply pw_below_drewN | apply below_drew1) | exact HB.out))) : w.heap.size ≤ gb117)); clear HO_4; clear HB; have HO_4 := n0_; have HB := n1_; have BK117 := n2_; have GW117 := n3_; have GE117 := n4_; clear n0_ n1_ n2_ n3_ n4_; clear hb hbox hg; have hcz73_0 : w72.cell? ⟨gb117, 0, none⟩ = some (.int .i64 0) := (blk_cell BK117.out 0).trans rfl; have hcz73_1 : w72.cell? ⟨gb117, 1, none⟩ = some (.int .i64 0) := (blk_cell BK117.out 1).trans rfl; have hcz73_2 : w72.cell? ⟨gb117, 2, none⟩ = some (.int .u8 0) := (blk_cell BK117.out 2).trans rfl; have hfz73_0 := blk_frozen BK117.out 0; have hfz73_1 := blk_frozen BK117.out 1; have hfz73_2 := blk_frozen BK117.out 2) | ((with_reducible refine gate_callee (f := 22) rfl ?_); refine goesL_ (some 85) rfl rfl Try.func22 (by kernel_rfl) rfl #[.int .i64 t112] rfl (by (try simp only [List.map_toArray, List.map_cons, List.map_nil]); first | done | rfl | (simp only [List.length_drop, List.length_take]; rfl)) ?_; (with_reducible refine (valiselaw11_num.calls t112 t121 _ A67.out).mono ?_); rintro e w' ⟨rfl, ⟨nd, rfl⟩⟩; refine ⟨_, rfl, ?_⟩))
                          go_ret
                          exact ⟨by first | rfl | (simp [errW_none, errW_some] <;> rfl) | (simp [*, errW_none, errW_some] <;> rfl), by repeat (first | (with_reducible first | exact HB.out | apply below_alloc | apply pw_below_drewN | apply below_drew1 | refine below_set ?_ GE117.out) | exact HB.out)⟩
                  · rw [if_neg c27] at H
                    have c27b0 : decide (3 ≤ ((rd_T47 l0 x6_1).f0)) = false := decide_eq_false c27
                    clear c27
                    by_cases c74 : (((rd_T47 l0 x6_1).f1) = 0)
                    · rw [if_pos c74] at H
                      have c74b0 : (((rd_T47 l0 x6_1).f1) == 0) = true := beq_iff_eq.mpr c74
                      have c74b1 : (((rd_T47 l0 x6_1).f1) != 0) = false := bne_eq_false_iff_eq.mpr c74
                      clear c74
                      have H' := Aside0.mk H
                      clear H
                      have p116 : 0 ≤ (x6_1 : Int) := of_decide_eq_true (by first | (with_reducible assumption) | assumption)
                      have q116 : x6_1 < (l0.length : Int) := of_decide_eq_true (by first | (with_reducible assumption) | assumption)
                      obtain ⟨ad116, e116, hx116_0, hx116_1, hx116_2⟩ := at_T47 HR0.out x6_1 p116 q116
                      cases e116
                      replace hx116_0 := (HB.out.cell (World.block_lt_of_cell? w _ hx116_0)).trans hx116_0
                      replace hx116_1 := (HB.out.cell (World.block_lt_of_cell? w _ hx116_1)).trans hx116_1
                      replace hx116_2 := (HB.out.cell (World.block_lt_of_cell? w _ hx116_2)).trans hx116_2
                      replace p116 := eq_true p116
                      replace q116 := eq_true q116
                      go_wp2_with (first | ((with_reducible refine gate_dst (N := 7) rfl ?_); (try (refine gate_guard (by rfl) ?_; dsimp only)); refine box_event ?hg (N := 7) ?hd (cs := #[.int .i64 0, .int .i64 0, .int .u8 0]) (t := 47) ?hr ?_; (case hd => rfl); (case hg => rfl); (case hr => first | (go_simp; done) | (go_simp; rfl)); intro gb117 hg w75 hbox hb; have n0_ := Aside0.mk (Kd.R_below (by (with_reducible repeat (first | apply Kd.R_alloc | apply Kd.R_drewN | apply Kd.R_drew)); exact HO_4.out) hb); have n1_ := Aside0.mk (below_step (by repeat (first | (with_reducible first | exact HB.out | apply below_alloc | apply pw_below_drewN | apply below_drew1) | exact HB.out)) hb); have n2_ := Aside0.mk (hbox); have n3_ := Aside0.mk ((by rw [hg]; exact (below_size (by repeat (first | (with_reducible first | exact HB.out | apply below_alloc | apply pw_below_drewN | apply below_drew1) | exact HB.out))) : w.heap.size ≤ gb117)); have n4_ := Aside0.mk ((by rw [hg]; exact (below_size (by repeat (first | (with_reducible first | exact HB.out | apply below_alloc | apply pw_below_drewN | apply below_drew1) | exact HB.out))) : w.heap.size ≤ gb117)); clear HO_4; clear HB; have HO_4 := n0_; have HB := n1_; have BK117 := n2_; have GW117 := n3_; have GE117 := n4_; clear n0_ n1_ n2_ n3_ n4_; clear hb hbox hg; have hcz76_0 : w75.cell? ⟨gb117, 0, none⟩ = some (.int .i64 0) := (blk_cell BK117.out 0).trans rfl; have hcz76_1 : w75.cell? ⟨gb117, 1, none⟩ = some (.int .i64 0) := (blk_cell BK117.out 1).trans rfl; have hcz76_2 : w75.cell? ⟨gb117, 2, none⟩ = some (.int .u8 0) := (blk_cell BK117.out 2).trans rfl; have hfz76_0 := blk_frozen BK117.out 0; have hfz76_1 := blk_frozen BK117.out 1; have hfz76_2 := blk_frozen BK117.out 2))
                      go_roundg k1
                      case measure => have := HK1.out; omega
                      case rel => exact ⟨(wrap64 (x6_1 + 1)), (by first | rfl | (simp; done) | (simp [*]; done)), H', ⟨by have := HK1.out; omega⟩, ⟨by (with_reducible repeat (first | apply Kd.R_alloc | apply Kd.R_drewN | apply Kd.R_drew)); exact Kd.R_mono (Kd.R_far (p := ⟨gb117, 2, none⟩) (Kd.R_far (p := ⟨gb117, 1, none⟩) (Kd.R_far (p := ⟨gb117, 0, none⟩) (Kd.R_types HO_4.out BK117.out (by decide)) (fun _ hk => hk.2) (.int .i64 ((rd_T47 l0 x6_1).f0))) (fun _ hk => hk.2) (.int .i64 ((rd_T47 l0 x6_1).f1))) (fun _ hk => hk.2) (.int .u8 ((rd_T47 l0 x6_1).f2))) (fun _ hk => trivial)⟩, ⟨by repeat (first | (with_reducible first | exact HB.out | apply below_alloc | apply pw_below_drewN | apply below_drew1 | refine below_set ?_ GE117.out) | exact HB.out)⟩⟩
                    · rw [if_neg c74] at H
                      have c74b0 : (((rd_T47 l0 x6_1).f1) == 0) = false := beq_eq_false_iff_ne.mpr c74
                      have c74b1 : (((rd_T47 l0 x6_1).f1) != 0) = true := bne_iff_ne.mpr c74
                      replace H := Option.bind_eq_some_iff.mp H
                      obtain ⟨t122, A770, H⟩ := H
                      replace H : (if t122 = 100 then (some ((t111.length : Int) == 0)) else (some false)) = some r := H
                      have A77 := Aside0.mk A770
                      clear A770
                      by_cases c78 : t122 = 100
                      · rw [if_pos c78] at H
                        have c78b0 : (t122 == 100) = true := beq_iff_eq.mpr c78
                        have c78b1 : (t122 != 100) = false := bne_eq_false_iff_eq.mpr c78
                        clear c78
                        obtain rfl := Option.some.inj H
                        have p116 : 0 ≤ (x6_1 : Int) := of_decide_eq_true (by first | (with_reducible assumption) | assumption)
                        have q116 : x6_1 < (l0.length : Int) := of_decide_eq_true (by first | (with_reducible assumption) | assumption)
                        obtain ⟨ad116, e116, hx116_0, hx116_1, hx116_2⟩ := at_T47 HR0.out x6_1 p116 q116
                        cases e116
                        replace hx116_0 := (HB.out.cell (World.block_lt_of_cell? w _ hx116_0)).trans hx116_0
                        replace hx116_1 := (HB.out.cell (World.block_lt_of_cell? w _ hx116_1)).trans hx116_1
                        replace hx116_2 := (HB.out.cell (World.block_lt_of_cell? w _ hx116_2)).trans hx116_2
                        replace p116 := eq_true p116
                        replace q116 := eq_true q116
                        go_wp2_with (first | ((with_reducible refine gate_dst (N := 7) rfl ?_); (try (refine gate_guard (by rfl) ?_; dsimp only)); refine box_event ?hg (N := 7) ?hd (cs := #[.int .i64 0, .int .i64 0, .int .u8 0]) (t := 47) ?hr ?_; (case hd => rfl); (case hg => rfl); (case hr => first | (go_simp; done) | (go_simp; rfl)); intro gb117 hg w79 hbox hb; have n0_ := Aside0.mk (Kd.R_below (by (with_reducible repeat (first | apply Kd.R_alloc | apply Kd.R_drewN | apply Kd.R_drew)); exact HO_4.out) hb); have n1_ := Aside0.mk (below_step (by repeat (first | (with_reducible first | exact HB.out | apply below_alloc | apply pw_below_drewN | apply below_drew1) | exact HB.out)) hb); have n2_ := Aside0.mk (hbox); have n3_ := Aside0.mk ((by rw [hg]; exact (below_size (by repeat (first | (with_reducible first | exact HB.out | apply below_alloc | apply pw_below_drewN | apply below_drew1) | exact HB.out))) : w.heap.size ≤ gb117)); have n4_ := Aside0.mk ((by rw [hg]; exact (below_size (by repeat (first | (with_reducible first | exact HB.out | apply below_alloc | apply pw_below_drewN | apply below_drew1) | exact HB.out))) : w.heap.size ≤ gb117)); clear HO_4; clear HB; have HO_4 := n0_; have HB := n1_; have BK117 := n2_; have GW117 := n3_; have GE117 := n4_; clear n0_ n1_ n2_ n3_ n4_; clear hb hbox hg; have hcz80_0 : w79.cell? ⟨gb117, 0, none⟩ = some (.int .i64 0) := (blk_cell BK117.out 0).trans rfl; have hcz80_1 : w79.cell? ⟨gb117, 1, none⟩ = some (.int .i64 0) := (blk_cell BK117.out 1).trans rfl; have hcz80_2 : w79.cell? ⟨gb117, 2, none⟩ = some (.int .u8 0) := (blk_cell BK117.out 2).trans rfl; have hfz80_0 := blk_frozen BK117.out 0; have hfz80_1 := blk_frozen BK117.out 1; have hfz80_2 := blk_frozen BK117.out 2) | ((with_reducible refine gate_callee (f := 22) rfl ?_); refine goesL_ (some 85) rfl rfl Try.func22 (by kernel_rfl) rfl #[.int .i64 t112] rfl (by (try simp only [List.map_toArray, List.map_cons, List.map_nil]); first | done | rfl | (simp only [List.length_drop, List.length_take]; rfl)) ?_; (with_reducible refine (valiselaw11_num.calls t112 t122 _ A77.out).mono ?_); rintro e w' ⟨rfl, ⟨nd, rfl⟩⟩; refine ⟨_, rfl, ?_⟩; obtain ⟨Ao81, co81, eo81⟩ := Kd.R_slice HO_4.out; subst eo81))
                        go_ret
                        exact ⟨by first | rfl | (simp [errW_none, errW_some] <;> rfl) | (simp [*, errW_none, errW_some] <;> rfl), by repeat (first | (with_reducible first | exact HB.out | apply below_alloc | apply pw_below_drewN | apply below_drew1 | refine below_set ?_ GE117.out) | exact HB.out)⟩
                      · rw [if_neg c78] at H
                        have c78b0 : (t122 == 100) = false := beq_eq_false_iff_ne.mpr c78
                        have c78b1 : (t122 != 100) = true := bne_iff_ne.mpr c78
                        obtain rfl := Option.some.inj H
                        have p116 : 0 ≤ (x6_1 : Int) := of_decide_eq_true (by first | (with_reducible assumption) | assumption)
                        have q116 : x6_1 < (l0.length : Int) := of_decide_eq_true (by first | (with_reducible assumption) | assumption)
                        obtain ⟨ad116, e116, hx116_0, hx116_1, hx116_2⟩ := at_T47 HR0.out x6_1 p116 q116
                        cases e116
                        replace hx116_0 := (HB.out.cell (World.block_lt_of_cell? w _ hx116_0)).trans hx116_0
                        replace hx116_1 := (HB.out.cell (World.block_lt_of_cell? w _ hx116_1)).trans hx116_1
                        replace hx116_2 := (HB.out.cell (World.block_lt_of_cell? w _ hx116_2)).trans hx116_2
                        replace p116 := eq_true p116
                        replace q116 := eq_true q116
                        go_wp2_with (first | ((with_reducible refine gate_dst (N := 7) rfl ?_); (try (refine gate_guard (by rfl) ?_; dsimp only)); refine box_event ?hg (N := 7) ?hd (cs := #[.int .i64 0, .int .i64 0, .int .u8 0]) (t := 47) ?hr ?_; (case hd => rfl); (case hg => rfl); (case hr => first | (go_simp; done) | (go_simp; rfl)); intro gb117 hg w82 hbox hb; have n0_ := Aside0.mk (Kd.R_below (by (with_reducible repeat (first | apply Kd.R_alloc | apply Kd.R_drewN | apply Kd.R_drew)); exact HO_4.out) hb); have n1_ := Aside0.mk (below_step (by repeat (first | (with_reducible first | exact HB.out | apply below_alloc | apply pw_below_drewN | apply below_drew1) | exact HB.out)) hb); have n2_ := Aside0.mk (hbox); have n3_ := Aside0.mk ((by rw [hg]; exact (below_size (by repeat (first | (with_reducible first | exact HB.out | apply below_alloc | apply pw_below_drewN | apply below_drew1) | exact HB.out))) : w.heap.size ≤ gb117)); have n4_ := Aside0.mk ((by rw [hg]; exact (below_size (by repeat (first | (with_reducible first | exact HB.out | apply below_alloc | apply pw_below_drewN | apply below_drew1) | exact HB.out))) : w.heap.size ≤ gb117)); clear HO_4; clear HB; have HO_4 := n0_; have HB := n1_; have BK117 := n2_; have GW117 := n3_; have GE117 := n4_; clear n0_ n1_ n2_ n3_ n4_; clear hb hbox hg; have hcz83_0 : w82.cell? ⟨gb117, 0, none⟩ = some (.int .i64 0) := (blk_cell BK117.out 0).trans rfl; have hcz83_1 : w82.cell? ⟨gb117, 1, none⟩ = some (.int .i64 0) := (blk_cell BK117.out 1).trans rfl; have hcz83_2 : w82.cell? ⟨gb117, 2, none⟩ = some (.int .u8 0) := (blk_cell BK117.out 2).trans rfl; have hfz83_0 := blk_frozen BK117.out 0; have hfz83_1 := blk_frozen BK117.out 1; have hfz83_2 := blk_frozen BK117.out 2) | ((with_reducible refine gate_callee (f := 22) rfl ?_); refine goesL_ (some 85) rfl rfl Try.func22 (by kernel_rfl) rfl #[.int .i64 t112] rfl (by (try simp only [List.map_toArray, List.map_cons, List.map_nil]); first | done | rfl | (simp only [List.length_drop, List.length_take]; rfl)) ?_; (with_reducible refine (valiselaw11_num.calls t112 t122 _ A77.out).mono ?_); rintro e w' ⟨rfl, ⟨nd, rfl⟩⟩; refine ⟨_, rfl, ?_⟩))
                        go_ret
                        exact ⟨by first | rfl | (simp [errW_none, errW_some] <;> rfl) | (simp [*, errW_none, errW_some] <;> rfl), by repeat (first | (with_reducible first | exact HB.out | apply below_alloc | apply pw_below_drewN | apply below_drew1 | refine below_set ?_ GE117.out) | exact HB.out)⟩
                · rw [if_neg c26] at H
                  have c26b0 : (((rd_T47 l0 x6_1).f0) == 0) = false := beq_eq_false_iff_ne.mpr c26
                  have c26b1 : (((rd_T47 l0 x6_1).f0) != 0) = true := bne_iff_ne.mpr c26
                  by_cases c84 : ((rd_T47 l0 x6_1).f0) ≥ 3
                  · rw [if_pos c84] at H
                    have c84b0 : decide (3 ≤ ((rd_T47 l0 x6_1).f0)) = true := decide_eq_true c84
                    clear c84
                    by_cases c85 : ((rd_T47 l0 x6_1).f0) ≤ 258
                    · rw [if_pos c85] at H
                      have c85b0 : decide (((rd_T47 l0 x6_1).f0) ≤ 258) = true := decide_eq_true c85
                      clear c85
                      by_cases c86 : ((rd_T47 l0 x6_1).f1) ≥ 1
                      · rw [if_pos c86] at H
                        have c86b0 : decide (1 ≤ ((rd_T47 l0 x6_1).f1)) = true := decide_eq_true c86
                        clear c86
                        by_cases c87 : ((rd_T47 l0 x6_1).f1) ≤ 32768
                        · rw [if_pos c87] at H
                          have c87b0 : decide (((rd_T47 l0 x6_1).f1) ≤ 32768) = true := decide_eq_true c87
                          clear c87
                          by_cases c88 : (((rd_T47 l0 x6_1).f2) = 0)
                          · rw [if_pos c88] at H
                            have c88b0 : (((rd_T47 l0 x6_1).f2) == 0) = true := beq_iff_eq.mpr c88
                            have c88b1 : (((rd_T47 l0 x6_1).f2) != 0) = false := bne_eq_false_iff_eq.mpr c88
                            clear c88
                            have H' := Aside0.mk H
                            clear H
                            have p116 : 0 ≤ (x6_1 : Int) := of_decide_eq_true (by first | (with_reducible assumption) | assumption)
                            have q116 : x6_1 < (l0.length : Int) := of_decide_eq_true (by first | (with_reducible assumption) | assumption)
                            obtain ⟨ad116, e116, hx116_0, hx116_1, hx116_2⟩ := at_T47 HR0.out x6_1 p116 q116
                            cases e116
                            replace hx116_0 := (HB.out.cell (World.block_lt_of_cell? w _ hx116_0)).trans hx116_0
                            replace hx116_1 := (HB.out.cell (World.block_lt_of_cell? w _ hx116_1)).trans hx116_1
                            replace hx116_2 := (HB.out.cell (World.block_lt_of_cell? w _ hx116_2)).trans hx116_2
                            replace p116 := eq_true p116
                            replace q116 := eq_true q116
                            go_wp2_with (first | ((with_reducible refine gate_dst (N := 7) rfl ?_); (try (refine gate_guard (by rfl) ?_; dsimp only)); refine box_event ?hg (N := 7) ?hd (cs := #[.int .i64 0, .int .i64 0, .int .u8 0]) (t := 47) ?hr ?_; (case hd => rfl); (case hg => rfl); (case hr => first | (go_simp; done) | (go_simp; rfl)); intro gb117 hg w89 hbox hb; have n0_ := Aside0.mk (Kd.R_below (by (with_reducible repeat (first | apply Kd.R_alloc | apply Kd.R_drewN | apply Kd.R_drew)); exact HO_4.out) hb); have n1_ := Aside0.mk (below_step (by repeat (first | (with_reducible first | exact HB.out | apply below_alloc | apply pw_below_drewN | apply below_drew1) | exact HB.out)) hb); have n2_ := Aside0.mk (hbox); have n3_ := Aside0.mk ((by rw [hg]; exact (below_size (by repeat (first | (with_reducible first | exact HB.out | apply below_alloc | apply pw_below_drewN | apply below_drew1) | exact HB.out))) : w.heap.size ≤ gb117)); have n4_ := Aside0.mk ((by rw [hg]; exact (below_size (by repeat (first | (with_reducible first | exact HB.out | apply below_alloc | apply pw_below_drewN | apply below_drew1) | exact HB.out))) : w.heap.size ≤ gb117)); clear HO_4; clear HB; have HO_4 := n0_; have HB := n1_; have BK117 := n2_; have GW117 := n3_; have GE117 := n4_; clear n0_ n1_ n2_ n3_ n4_; clear hb hbox hg; have hcz90_0 : w89.cell? ⟨gb117, 0, none⟩ = some (.int .i64 0) := (blk_cell BK117.out 0).trans rfl; have hcz90_1 : w89.cell? ⟨gb117, 1, none⟩ = some (.int .i64 0) := (blk_cell BK117.out 1).trans rfl; have hcz90_2 : w89.cell? ⟨gb117, 2, none⟩ = some (.int .u8 0) := (blk_cell BK117.out 2).trans rfl; have hfz90_0 := blk_frozen BK117.out 0; have hfz90_1 := blk_frozen BK117.out 1; have hfz90_2 := blk_frozen BK117.out 2))
                            go_roundg k1
                            case measure => have := HK1.out; omega
                            case rel => exact ⟨(wrap64 (x6_1 + 1)), (by first | rfl | (simp; done) | (simp [*]; done)), H', ⟨by have := HK1.out; omega⟩, ⟨by (with_reducible repeat (first | apply Kd.R_alloc | apply Kd.R_drewN | apply Kd.R_drew)); exact Kd.R_mono (Kd.R_far (p := ⟨gb117, 2, none⟩) (Kd.R_far (p := ⟨gb117, 1, none⟩) (Kd.R_far (p := ⟨gb117, 0, none⟩) (Kd.R_types HO_4.out BK117.out (by decide)) (fun _ hk => hk.2) (.int .i64 ((rd_T47 l0 x6_1).f0))) (fun _ hk => hk.2) (.int .i64 ((rd_T47 l0 x6_1).f1))) (fun _ hk => hk.2) (.int .u8 ((rd_T47 l0 x6_1).f2))) (fun _ hk => trivial)⟩, ⟨by repeat (first | (with_reducible first | exact HB.out | apply below_alloc | apply pw_below_drewN | apply below_drew1 | refine below_set ?_ GE117.out) | exact HB.out)⟩⟩
                          · rw [if_neg c88] at H
                            have c88b0 : (((rd_T47 l0 x6_1).f2) == 0) = false := beq_eq_false_iff_ne.mpr c88
                            have c88b1 : (((rd_T47 l0 x6_1).f2) != 0) = true := bne_iff_ne.mpr c88
                            replace H := Option.bind_eq_some_iff.mp H
                            obtain ⟨t123, A910, H⟩ := H
                            replace H : (if t123 = 100 then (some ((t111.length : Int) == 0)) else (some false)) = some r := H
                            have A91 := Aside0.mk A910
                            clear A910
                            by_cases c92 : t123 = 100
                            · rw [if_pos c92] at H
                              have c92b0 : (t123 == 100) = true := beq_iff_eq.mpr c92
                              have c92b1 : (t123 != 100) = false := bne_eq_false_iff_eq.mpr c92
                              clear c92
                              obtain rfl := Option.some.inj H
                              have p116 : 0 ≤ (x6_1 : Int) := of_decide_eq_true (by first | (with_reducible assumption) | assumption)
                              have q116 : x6_1 < (l0.length : Int) := of_decide_eq_true (by first | (with_reducible assumption) | assumption)
                              obtain ⟨ad116, e116, hx116_0, hx116_1, hx116_2⟩ := at_T47 HR0.out x6_1 p116 q116
                              cases e116
                              replace hx116_0 := (HB.out.cell (World.block_lt_of_cell? w _ hx116_0)).trans hx116_0
                              replace hx116_1 := (HB.out.cell (World.block_lt_of_cell? w _ hx116_1)).trans hx116_1
                              replace hx116_2 := (HB.out.cell (World.block_lt_of_cell? w _ hx116_2)).trans hx116_2
                              replace p116 := eq_true p116
                              replace q116 := eq_true q116
                              go_wp2_with (first | ((with_reducible refine gate_dst (N := 7) rfl ?_); (try (refine gate_guard (by rfl) ?_; dsimp only)); refine box_event ?hg (N := 7) ?hd (cs := #[.int .i64 0, .int .i64 0, .int .u8 0]) (t := 47) ?hr ?_; (case hd => rfl); (case hg => rfl); (case hr => first | (go_simp; done) | (go_simp; rfl)); intro gb117 hg w93 hbox hb; have n0_ := Aside0.mk (Kd.R_below (by (with_reducible repeat (first | apply Kd.R_alloc | apply Kd.R_drewN | apply Kd.R_drew)); exact HO_4.out) hb); have n1_ := Aside0.mk (below_step (by repeat (first | (with_reducible first | exact HB.out | apply below_alloc | apply pw_below_drewN | apply below_drew1) | exact HB.out)) hb); have n2_ := Aside0.mk (hbox); have n3_ := Aside0.mk ((by rw [hg]; exact (below_size (by repeat (first | (with_reducible first | exact HB.out | apply below_alloc | apply pw_below_drewN | apply below_drew1) | exact HB.out))) : w.heap.size ≤ gb117)); have n4_ := Aside0.mk ((by rw [hg]; exact (below_size (by repeat (first | (with_reducible first | exact HB.out | apply below_alloc | apply pw_below_drewN | apply below_drew1) | exact HB.out))) : w.heap.size ≤ gb117)); clear HO_4; clear HB; have HO_4 := n0_; have HB := n1_; have BK117 := n2_; have GW117 := n3_; have GE117 := n4_; clear n0_ n1_ n2_ n3_ n4_; clear hb hbox hg; have hcz94_0 : w93.cell? ⟨gb117, 0, none⟩ = some (.int .i64 0) := (blk_cell BK117.out 0).trans rfl; have hcz94_1 : w93.cell? ⟨gb117, 1, none⟩ = some (.int .i64 0) := (blk_cell BK117.out 1).trans rfl; have hcz94_2 : w93.cell? ⟨gb117, 2, none⟩ = some (.int .u8 0) := (blk_cell BK117.out 2).trans rfl; have hfz94_0 := blk_frozen BK117.out 0; have hfz94_1 := blk_frozen BK117.out 1; have hfz94_2 := blk_frozen BK117.out 2) | ((with_reducible refine gate_callee (f := 22) rfl ?_); refine goesL_ (some 85) rfl rfl Try.func22 (by kernel_rfl) rfl #[.int .i64 t112] rfl (by (try simp only [List.map_toArray, List.map_cons, List.map_nil]); first | done | rfl | (simp only [List.length_drop, List.length_take]; rfl)) ?_; (with_reducible refine (valiselaw11_num.calls t112 t123 _ A91.out).mono ?_); rintro e w' ⟨rfl, ⟨nd, rfl⟩⟩; refine ⟨_, rfl, ?_⟩; obtain ⟨Ao95, co95, eo95⟩ := Kd.R_slice HO_4.out; subst eo95))
                              go_ret
                              exact ⟨by first | rfl | (simp [errW_none, errW_some] <;> rfl) | (simp [*, errW_none, errW_some] <;> rfl), by repeat (first | (with_reducible first | exact HB.out | apply below_alloc | apply pw_below_drewN | apply below_drew1 | refine below_set ?_ GE117.out) | exact HB.out)⟩
                            · rw [if_neg c92] at H
                              have c92b0 : (t123 == 100) = false := beq_eq_false_iff_ne.mpr c92
                              have c92b1 : (t123 != 100) = true := bne_iff_ne.mpr c92
                              obtain rfl := Option.some.inj H
                              have p116 : 0 ≤ (x6_1 : Int) := of_decide_eq_true (by first | (with_reducible assumption) | assumption)
                              have q116 : x6_1 < (l0.length : Int) := of_decide_eq_true (by first | (with_reducible assumption) | assumption)
                              obtain ⟨ad116, e116, hx116_0, hx116_1, hx116_2⟩ := at_T47 HR0.out x6_1 p116 q116
                              cases e116
                              replace hx116_0 := (HB.out.cell (World.block_lt_of_cell? w _ hx116_0)).trans hx116_0
                              replace hx116_1 := (HB.out.cell (World.block_lt_of_cell? w _ hx116_1)).trans hx116_1
                              replace hx116_2 := (HB.out.cell (World.block_lt_of_cell? w _ hx116_2)).trans hx116_2
                              replace p116 := eq_true p116
                              replace q116 := eq_true q116
                              go_wp2_with (first | ((with_reducible refine gate_dst (N := 7) rfl ?_); (try (refine gate_guard (by rfl) ?_; dsimp only)); refine box_event ?hg (N := 7) ?hd (cs := #[.int .i64 0, .int .i64 0, .int .u8 0]) (t := 47) ?hr ?_; (case hd => rfl); (case hg => rfl); (case hr => first | (go_simp; done) | (go_simp; rfl)); intro gb117 hg w96 hbox hb; have n0_ := Aside0.mk (Kd.R_below (by (with_reducible repeat (first | apply Kd.R_alloc | apply Kd.R_drewN | apply Kd.R_drew)); exact HO_4.out) hb); have n1_ := Aside0.mk (below_step (by repeat (first | (with_reducible first | exact HB.out | apply below_alloc | apply pw_below_drewN | apply below_drew1) | exact HB.out)) hb); have n2_ := Aside0.mk (hbox); have n3_ := Aside0.mk ((by rw [hg]; exact (below_size (by repeat (first | (with_reducible first | exact HB.out | apply below_alloc | apply pw_below_drewN | apply below_drew1) | exact HB.out))) : w.heap.size ≤ gb117)); have n4_ := Aside0.mk ((by rw [hg]; exact (below_size (by repeat (first | (with_reducible first | exact HB.out | apply below_alloc | apply pw_below_drewN | apply below_drew1) | exact HB.out))) : w.heap.size ≤ gb117)); clear HO_4; clear HB; have HO_4 := n0_; have HB := n1_; have BK117 := n2_; have GW117 := n3_; have GE117 := n4_; clear n0_ n1_ n2_ n3_ n4_; clear hb hbox hg; have hcz97_0 : w96.cell? ⟨gb117, 0, none⟩ = some (.int .i64 0) := (blk_cell BK117.out 0).trans rfl; have hcz97_1 : w96.cell? ⟨gb117, 1, none⟩ = some (.int .i64 0) := (blk_cell BK117.out 1).trans rfl; have hcz97_2 : w96.cell? ⟨gb117, 2, none⟩ = some (.int .u8 0) := (blk_cell BK117.out 2).trans rfl; have hfz97_0 := blk_frozen BK117.out 0; have hfz97_1 := blk_frozen BK117.out 1; have hfz97_2 := blk_frozen BK117.out 2) | ((with_reducible refine gate_callee (f := 22) rfl ?_); refine goesL_ (some 85) rfl rfl Try.func22 (by kernel_rfl) rfl #[.int .i64 t112] rfl (by (try simp only [List.map_toArray, List.map_cons, List.map_nil]); first | done | rfl | (simp only [List.length_drop, List.length_take]; rfl)) ?_; (with_reducible refine (valiselaw11_num.calls t112 t123 _ A91.out).mono ?_); rintro e w' ⟨rfl, ⟨nd, rfl⟩⟩; refine ⟨_, rfl, ?_⟩))
                              go_ret
                              exact ⟨by first | rfl | (simp [errW_none, errW_some] <;> rfl) | (simp [*, errW_none, errW_some] <;> rfl), by repeat (first | (with_reducible first | exact HB.out | apply below_alloc | apply pw_below_drewN | apply below_drew1 | refine below_set ?_ GE117.out) | exact HB.out)⟩
                        · rw [if_neg c87] at H
                          have c87b0 : decide (((rd_T47 l0 x6_1).f1) ≤ 32768) = false := decide_eq_false c87
                          clear c87
                          replace H := Option.bind_eq_some_iff.mp H
                          obtain ⟨t124, A980, H⟩ := H
                          replace H : (if t124 = 100 then (some ((t111.length : Int) == 0)) else (some false)) = some r := H
                          have A98 := Aside0.mk A980
                          clear A980
                          by_cases c99 : t124 = 100
                          · rw [if_pos c99] at H
                            have c99b0 : (t124 == 100) = true := beq_iff_eq.mpr c99
                            have c99b1 : (t124 != 100) = false := bne_eq_false_iff_eq.mpr c99
                            clear c99
                            obtain rfl := Option.some.inj H
                            have p116 : 0 ≤ (x6_1 : Int) := of_decide_eq_true (by first | (with_reducible assumption) | assumption)
                            have q116 : x6_1 < (l0.length : Int) := of_decide_eq_true (by first | (with_reducible assumption) | assumption)
                            obtain ⟨ad116, e116, hx116_0, hx116_1, hx116_2⟩ := at_T47 HR0.out x6_1 p116 q116
                            cases e116
                            replace hx116_0 := (HB.out.cell (World.block_lt_of_cell? w _ hx116_0)).trans hx116_0
                            replace hx116_1 := (HB.out.cell (World.block_lt_of_cell? w _ hx116_1)).trans hx116_1
                            replace hx116_2 := (HB.out.cell (World.block_lt_of_cell? w _ hx116_2)).trans hx116_2
                            replace p116 := eq_true p116
                            replace q116 := eq_true q116
                            go_wp2_with (first | ((with_reducible refine gate_dst (N := 7) rfl ?_); (try (refine gate_guard (by rfl) ?_; dsimp only)); refine box_event ?hg (N := 7) ?hd (cs := #[.int .i64 0, .int .i64 0, .int .u8 0]) (t := 47) ?hr ?_; (case hd => rfl); (case hg => rfl); (case hr => first | (go_simp; done) | (go_simp; rfl)); intro gb117 hg w100 hbox hb; have n0_ := Aside0.mk (Kd.R_below (by (with_reducible repeat (first | apply Kd.R_alloc | apply Kd.R_drewN | apply Kd.R_drew)); exact HO_4.out) hb); have n1_ := Aside0.mk (below_step (by repeat (first | (with_reducible first | exact HB.out | apply below_alloc | apply pw_below_drewN | apply below_drew1) | exact HB.out)) hb); have n2_ := Aside0.mk (hbox); have n3_ := Aside0.mk ((by rw [hg]; exact (below_size (by repeat (first | (with_reducible first | exact HB.out | apply below_alloc | apply pw_below_drewN | apply below_drew1) | exact HB.out))) : w.heap.size ≤ gb117)); have n4_ := Aside0.mk ((by rw [hg]; exact (below_size (by repeat (first | (with_reducible first | exact HB.out | apply below_alloc | apply pw_below_drewN | apply below_drew1) | exact HB.out))) : w.heap.size ≤ gb117)); clear HO_4; clear HB; have HO_4 := n0_; have HB := n1_; have BK117 := n2_; have GW117 := n3_; have GE117 := n4_; clear n0_ n1_ n2_ n3_ n4_; clear hb hbox hg; have hcz101_0 : w100.cell? ⟨gb117, 0, none⟩ = some (.int .i64 0) := (blk_cell BK117.out 0).trans rfl; have hcz101_1 : w100.cell? ⟨gb117, 1, none⟩ = some (.int .i64 0) := (blk_cell BK117.out 1).trans rfl; have hcz101_2 : w100.cell? ⟨gb117, 2, none⟩ = some (.int .u8 0) := (blk_cell BK117.out 2).trans rfl; have hfz101_0 := blk_frozen BK117.out 0; have hfz101_1 := blk_frozen BK117.out 1; have hfz101_2 := blk_frozen BK117.out 2) | ((with_reducible refine gate_callee (f := 22) rfl ?_); refine goesL_ (some 85) rfl rfl Try.func22 (by kernel_rfl) rfl #[.int .i64 t112] rfl (by (try simp only [List.map_toArray, List.map_cons, List.map_nil]); first | done | rfl | (simp only [List.length_drop, List.length_take]; rfl)) ?_; (with_reducible refine (valiselaw11_num.calls t112 t124 _ A98.out).mono ?_); rintro e w' ⟨rfl, ⟨nd, rfl⟩⟩; refine ⟨_, rfl, ?_⟩; obtain ⟨Ao102, co102, eo102⟩ := Kd.R_slice HO_4.out; subst eo102))
                            go_ret
                            exact ⟨by first | rfl | (simp [errW_none, errW_some] <;> rfl) | (simp [*, errW_none, errW_some] <;> rfl), by repeat (first | (with_reducible first | exact HB.out | apply below_alloc | apply pw_below_drewN | apply below_drew1 | refine below_set ?_ GE117.out) | exact HB.out)⟩
                          · rw [if_neg c99] at H
                            have c99b0 : (t124 == 100) = false := beq_eq_false_iff_ne.mpr c99
                            have c99b1 : (t124 != 100) = true := bne_iff_ne.mpr c99
                            obtain rfl := Option.some.inj H
                            have p116 : 0 ≤ (x6_1 : Int) := of_decide_eq_true (by first | (with_reducible assumption) | assumption)
                            have q116 : x6_1 < (l0.length : Int) := of_decide_eq_true (by first | (with_reducible assumption) | assumption)
                            obtain ⟨ad116, e116, hx116_0, hx116_1, hx116_2⟩ := at_T47 HR0.out x6_1 p116 q116
                            cases e116
                            replace hx116_0 := (HB.out.cell (World.block_lt_of_cell? w _ hx116_0)).trans hx116_0
                            replace hx116_1 := (HB.out.cell (World.block_lt_of_cell? w _ hx116_1)).trans hx116_1
                            replace hx116_2 := (HB.out.cell (World.block_lt_of_cell? w _ hx116_2)).trans hx116_2
                            replace p116 := eq_true p116
                            replace q116 := eq_true q116
                            go_wp2_with (first | ((with_reducible refine gate_dst (N := 7) rfl ?_); (try (refine gate_guard (by rfl) ?_; dsimp only)); refine box_event ?hg (N := 7) ?hd (cs := #[.int .i64 0, .int .i64 0, .int .u8 0]) (t := 47) ?hr ?_; (case hd => rfl); (case hg => rfl); (case hr => first | (go_simp; done) | (go_simp; rfl)); intro gb117 hg w103 hbox hb; have n0_ := Aside0.mk (Kd.R_below (by (with_reducible repeat (first | apply Kd.R_alloc | apply Kd.R_drewN | apply Kd.R_drew)); exact HO_4.out) hb); have n1_ := Aside0.mk (below_step (by repeat (first | (with_reducible first | exact HB.out | apply below_alloc | apply pw_below_drewN | apply below_drew1) | exact HB.out)) hb); have n2_ := Aside0.mk (hbox); have n3_ := Aside0.mk ((by rw [hg]; exact (below_size (by repeat (first | (with_reducible first | exact HB.out | apply below_alloc | apply pw_below_drewN | apply below_drew1) | exact HB.out))) : w.heap.size ≤ gb117)); have n4_ := Aside0.mk ((by rw [hg]; exact (below_size (by repeat (first | (with_reducible first | exact HB.out | apply below_alloc | apply pw_below_drewN | apply below_drew1) | exact HB.out))) : w.heap.size ≤ gb117)); clear HO_4; clear HB; have HO_4 := n0_; have HB := n1_; have BK117 := n2_; have GW117 := n3_; have GE117 := n4_; clear n0_ n1_ n2_ n3_ n4_; clear hb hbox hg; have hcz104_0 : w103.cell? ⟨gb117, 0, none⟩ = some (.int .i64 0) := (blk_cell BK117.out 0).trans rfl; have hcz104_1 : w103.cell? ⟨gb117, 1, none⟩ = some (.int .i64 0) := (blk_cell BK117.out 1).trans rfl; have hcz104_2 : w103.cell? ⟨gb117, 2, none⟩ = some (.int .u8 0) := (blk_cell BK117.out 2).trans rfl; have hfz104_0 := blk_frozen BK117.out 0; have hfz104_1 := blk_frozen BK117.out 1; have hfz104_2 := blk_frozen BK117.out 2) | ((with_reducible refine gate_callee (f := 22) rfl ?_); refine goesL_ (some 85) rfl rfl Try.func22 (by kernel_rfl) rfl #[.int .i64 t112] rfl (by (try simp only [List.map_toArray, List.map_cons, List.map_nil]); first | done | rfl | (simp only [List.length_drop, List.length_take]; rfl)) ?_; (with_reducible refine (valiselaw11_num.calls t112 t124 _ A98.out).mono ?_); rintro e w' ⟨rfl, ⟨nd, rfl⟩⟩; refine ⟨_, rfl, ?_⟩))
                            go_ret
                            exact ⟨by first | rfl | (simp [errW_none, errW_some] <;> rfl) | (simp [*, errW_none, errW_some] <;> rfl), by repeat (first | (with_reducible first | exact HB.out | apply below_alloc | apply pw_below_drewN | apply below_drew1 | refine below_set ?_ GE117.out) | exact HB.out)⟩
                      · rw [if_neg c86] at H
                        have c86b0 : decide (1 ≤ ((rd_T47 l0 x6_1).f1)) = false := decide_eq_false c86
                        clear c86
                        replace H := Option.bind_eq_some_iff.mp H
                        obtain ⟨t125, A1050, H⟩ := H
                        replace H : (if t125 = 100 then (some ((t111.length : Int) == 0)) else (some false)) = some r := H
                        have A105 := Aside0.mk A1050
                        clear A1050
                        by_cases c106 : t125 = 100
                        · rw [if_pos c106] at H
                          have c106b0 : (t125 == 100) = true := beq_iff_eq.mpr c106
                          have c106b1 : (t125 != 100) = false := bne_eq_false_iff_eq.mpr c106
                          clear c106
                          obtain rfl := Option.some.inj H
                          have p116 : 0 ≤ (x6_1 : Int) := of_decide_eq_true (by first | (with_reducible assumption) | assumption)
                          have q116 : x6_1 < (l0.length : Int) := of_decide_eq_true (by first | (with_reducible assumption) | assumption)
                          obtain ⟨ad116, e116, hx116_0, hx116_1, hx116_2⟩ := at_T47 HR0.out x6_1 p116 q116
                          cases e116
                          replace hx116_0 := (HB.out.cell (World.block_lt_of_cell? w _ hx116_0)).trans hx116_0
                          replace hx116_1 := (HB.out.cell (World.block_lt_of_cell? w _ hx116_1)).trans hx116_1
                          replace hx116_2 := (HB.out.cell (World.block_lt_of_cell? w _ hx116_2)).trans hx116_2
                          replace p116 := eq_true p116
                          replace q116 := eq_true q116
                          go_wp2_with (first | ((with_reducible refine gate_dst (N := 7) rfl ?_); (try (refine gate_guard (by rfl) ?_; dsimp only)); refine box_event ?hg (N := 7) ?hd (cs := #[.int .i64 0, .int .i64 0, .int .u8 0]) (t := 47) ?hr ?_; (case hd => rfl); (case hg => rfl); (case hr => first | (go_simp; done) | (go_simp; rfl)); intro gb117 hg w107 hbox hb; have n0_ := Aside0.mk (Kd.R_below (by (with_reducible repeat (first | apply Kd.R_alloc | apply Kd.R_drewN | apply Kd.R_drew)); exact HO_4.out) hb); have n1_ := Aside0.mk (below_step (by repeat (first | (with_reducible first | exact HB.out | apply below_alloc | apply pw_below_drewN | apply below_drew1) | exact HB.out)) hb); have n2_ := Aside0.mk (hbox); have n3_ := Aside0.mk ((by rw [hg]; exact (below_size (by repeat (first | (with_reducible first | exact HB.out | apply below_alloc | apply pw_below_drewN | apply below_drew1) | exact HB.out))) : w.heap.size ≤ gb117)); have n4_ := Aside0.mk ((by rw [hg]; exact (below_size (by repeat (first | (with_reducible first | exact HB.out | apply below_alloc | apply pw_below_drewN | apply below_drew1) | exact HB.out))) : w.heap.size ≤ gb117)); clear HO_4; clear HB; have HO_4 := n0_; have HB := n1_; have BK117 := n2_; have GW117 := n3_; have GE117 := n4_; clear n0_ n1_ n2_ n3_ n4_; clear hb hbox hg; have hcz108_0 : w107.cell? ⟨gb117, 0, none⟩ = some (.int .i64 0) := (blk_cell BK117.out 0).trans rfl; have hcz108_1 : w107.cell? ⟨gb117, 1, none⟩ = some (.int .i64 0) := (blk_cell BK117.out 1).trans rfl; have hcz108_2 : w107.cell? ⟨gb117, 2, none⟩ = some (.int .u8 0) := (blk_cell BK117.out 2).trans rfl; have hfz108_0 := blk_frozen BK117.out 0; have hfz108_1 := blk_frozen BK117.out 1; have hfz108_2 := blk_frozen BK117.out 2) | ((with_reducible refine gate_callee (f := 22) rfl ?_); refine goesL_ (some 85) rfl rfl Try.func22 (by kernel_rfl) rfl #[.int .i64 t112] rfl (by (try simp only [List.map_toArray, List.map_cons, List.map_nil]); first | done | rfl | (simp only [List.length_drop, List.length_take]; rfl)) ?_; (with_reducible refine (valiselaw11_num.calls t112 t125 _ A105.out).mono ?_); rintro e w' ⟨rfl, ⟨nd, rfl⟩⟩; refine ⟨_, rfl, ?_⟩; obtain ⟨Ao109, co109, eo109⟩ := Kd.R_slice HO_4.out; subst eo109))
                          go_ret
                          exact ⟨by first | rfl | (simp [errW_none, errW_some] <;> rfl) | (simp [*, errW_none, errW_some] <;> rfl), by repeat (first | (with_reducible first | exact HB.out | apply below_alloc | apply pw_below_drewN | apply below_drew1 | refine below_set ?_ GE117.out) | exact HB.out)⟩
                        · rw [if_neg c106] at H
                          have c106b0 : (t125 == 100) = false := beq_eq_false_iff_ne.mpr c106
                          have c106b1 : (t125 != 100) = true := bne_iff_ne.mpr c106
                          obtain rfl := Option.some.inj H
                          have p116 : 0 ≤ (x6_1 : Int) := of_decide_eq_true (by first | (with_reducible assumption) | assumption)
                          have q116 : x6_1 < (l0.length : Int) := of_decide_eq_true (by first | (with_reducible assumption) | assumption)
                          obtain ⟨ad116, e116, hx116_0, hx116_1, hx116_2⟩ := at_T47 HR0.out x6_1 p116 q116
                          cases e116
                          replace hx116_0 := (HB.out.cell (World.block_lt_of_cell? w _ hx116_0)).trans hx116_0
                          replace hx116_1 := (HB.out.cell (World.block_lt_of_cell? w _ hx116_1)).trans hx116_1
                          replace hx116_2 := (HB.out.cell (World.block_lt_of_cell? w _ hx116_2)).trans hx116_2
                          replace p116 := eq_true p116
                          replace q116 := eq_true q116
                          go_wp2_with (first | ((with_reducible refine gate_dst (N := 7) rfl ?_); (try (refine gate_guard (by rfl) ?_; dsimp only)); refine box_event ?hg (N := 7) ?hd (cs := #[.int .i64 0, .int .i64 0, .int .u8 0]) (t := 47) ?hr ?_; (case hd => rfl); (case hg => rfl); (case hr => first | (go_simp; done) | (go_simp; rfl)); intro gb117 hg w110 hbox hb; have n0_ := Aside0.mk (Kd.R_below (by (with_reducible repeat (first | apply Kd.R_alloc | apply Kd.R_drewN | apply Kd.R_drew)); exact HO_4.out) hb); have n1_ := Aside0.mk (below_step (by repeat (first | (with_reducible first | exact HB.out | apply below_alloc | apply pw_below_drewN | apply below_drew1) | exact HB.out)) hb); have n2_ := Aside0.mk (hbox); have n3_ := Aside0.mk ((by rw [hg]; exact (below_size (by repeat (first | (with_reducible first | exact HB.out | apply below_alloc | apply pw_below_drewN | apply below_drew1) | exact HB.out))) : w.heap.size ≤ gb117)); have n4_ := Aside0.mk ((by rw [hg]; exact (below_size (by repeat (first | (with_reducible first | exact HB.out | apply below_alloc | apply pw_below_drewN | apply below_drew1) | exact HB.out))) : w.heap.size ≤ gb117)); clear HO_4; clear HB; have HO_4 := n0_; have HB := n1_; have BK117 := n2_; have GW117 := n3_; have GE117 := n4_; clear n0_ n1_ n2_ n3_ n4_; clear hb hbox hg; have hcz111_0 : w110.cell? ⟨gb117, 0, none⟩ = some (.int .i64 0) := (blk_cell BK117.out 0).trans rfl; have hcz111_1 : w110.cell? ⟨gb117, 1, none⟩ = some (.int .i64 0) := (blk_cell BK117.out 1).trans rfl; have hcz111_2 : w110.cell? ⟨gb117, 2, none⟩ = some (.int .u8 0) := (blk_cell BK117.out 2).trans rfl; have hfz111_0 := blk_frozen BK117.out 0; have hfz111_1 := blk_frozen BK117.out 1; have hfz111_2 := blk_frozen BK117.out 2) | ((with_reducible refine gate_callee (f := 22) rfl ?_); refine goesL_ (some 85) rfl rfl Try.func22 (by kernel_rfl) rfl #[.int .i64 t112] rfl (by (try simp only [List.map_toArray, List.map_cons, List.map_nil]); first | done | rfl | (simp only [List.length_drop, List.length_take]; rfl)) ?_; (with_reducible refine (valiselaw11_num.calls t112 t125 _ A105.out).mono ?_); rintro e w' ⟨rfl, ⟨nd, rfl⟩⟩; refine ⟨_, rfl, ?_⟩))
                          go_ret
                          exact ⟨by first | rfl | (simp [errW_none, errW_some] <;> rfl) | (simp [*, errW_none, errW_some] <;> rfl), by repeat (first | (with_reducible first | exact HB.out | apply below_alloc | apply pw_below_drewN | apply below_drew1 | refine below_set ?_ GE117.out) | exact HB.out)⟩
                    · rw [if_neg c85] at H
                      have c85b0 : decide (((rd_T47 l0 x6_1).f0) ≤ 258) = false := decide_eq_false c85
                      clear c85
                      replace H := Option.bind_eq_some_iff.mp H
                      obtain ⟨t126, A1120, H⟩ := H
                      replace H : (if t126 = 100 then (some ((t111.length : Int) == 0)) else (some false)) = some r := H
                      have A112 := Aside0.mk A1120
                      clear A1120
                      by_cases c113 : t126 = 100
                      · rw [if_pos c113] at H
                        have c113b0 : (t126 == 100) = true := beq_iff_eq.mpr c113
                        have c113b1 : (t126 != 100) = false := bne_eq_false_iff_eq.mpr c113
                        clear c113
                        obtain rfl := Option.some.inj H
                        have p116 : 0 ≤ (x6_1 : Int) := of_decide_eq_true (by first | (with_reducible assumption) | assumption)
                        have q116 : x6_1 < (l0.length : Int) := of_decide_eq_true (by first | (with_reducible assumption) | assumption)
                        obtain ⟨ad116, e116, hx116_0, hx116_1, hx116_2⟩ := at_T47 HR0.out x6_1 p116 q116
                        cases e116
                        replace hx116_0 := (HB.out.cell (World.block_lt_of_cell? w _ hx116_0)).trans hx116_0
                        replace hx116_1 := (HB.out.cell (World.block_lt_of_cell? w _ hx116_1)).trans hx116_1
                        replace hx116_2 := (HB.out.cell (World.block_lt_of_cell? w _ hx116_2)).trans hx116_2
                        replace p116 := eq_true p116
                        replace q116 := eq_true q116
                        go_wp2_with (first | ((with_reducible refine gate_dst (N := 7) rfl ?_); (try (refine gate_guard (by rfl) ?_; dsimp only)); refine box_event ?hg (N := 7) ?hd (cs := #[.int .i64 0, .int .i64 0, .int .u8 0]) (t := 47) ?hr ?_; (case hd => rfl); (case hg => rfl); (case hr => first | (go_simp; done) | (go_simp; rfl)); intro gb117 hg w114 hbox hb; have n0_ := Aside0.mk (Kd.R_below (by (with_reducible repeat (first | apply Kd.R_alloc | apply Kd.R_drewN | apply Kd.R_drew)); exact HO_4.out) hb); have n1_ := Aside0.mk (below_step (by repeat (first | (with_reducible first | exact HB.out | apply below_alloc | apply pw_below_drewN | apply below_drew1) | exact HB.out)) hb); have n2_ := Aside0.mk (hbox); have n3_ := Aside0.mk ((by rw [hg]; exact (below_size (by repeat (first | (with_reducible first | exact HB.out | apply below_alloc | apply pw_below_drewN | apply below_drew1) | exact HB.out))) : w.heap.size ≤ gb117)); have n4_ := Aside0.mk ((by rw [hg]; exact (below_size (by repeat (first | (with_reducible first | exact HB.out | apply below_alloc | apply pw_below_drewN | apply below_drew1) | exact HB.out))) : w.heap.size ≤ gb117)); clear HO_4; clear HB; have HO_4 := n0_; have HB := n1_; have BK117 := n2_; have GW117 := n3_; have GE117 := n4_; clear n0_ n1_ n2_ n3_ n4_; clear hb hbox hg; have hcz115_0 : w114.cell? ⟨gb117, 0, none⟩ = some (.int .i64 0) := (blk_cell BK117.out 0).trans rfl; have hcz115_1 : w114.cell? ⟨gb117, 1, none⟩ = some (.int .i64 0) := (blk_cell BK117.out 1).trans rfl; have hcz115_2 : w114.cell? ⟨gb117, 2, none⟩ = some (.int .u8 0) := (blk_cell BK117.out 2).trans rfl; have hfz115_0 := blk_frozen BK117.out 0; have hfz115_1 := blk_frozen BK117.out 1; have hfz115_2 := blk_frozen BK117.out 2) | ((with_reducible refine gate_callee (f := 22) rfl ?_); refine goesL_ (some 85) rfl rfl Try.func22 (by kernel_rfl) rfl #[.int .i64 t112] rfl (by (try simp only [List.map_toArray, List.map_cons, List.map_nil]); first | done | rfl | (simp only [List.length_drop, List.length_take]; rfl)) ?_; (with_reducible refine (valiselaw11_num.calls t112 t126 _ A112.out).mono ?_); rintro e w' ⟨rfl, ⟨nd, rfl⟩⟩; refine ⟨_, rfl, ?_⟩; obtain ⟨Ao116, co116, eo116⟩ := Kd.R_slice HO_4.out; subst eo116))
                        go_ret
                        exact ⟨by first | rfl | (simp [errW_none, errW_some] <;> rfl) | (simp [*, errW_none, errW_some] <;> rfl), by repeat (first | (with_reducible first | exact HB.out | apply below_alloc | apply pw_below_drewN | apply below_drew1 | refine below_set ?_ GE117.out) | exact HB.out)⟩
                      · rw [if_neg c113] at H
                        have c113b0 : (t126 == 100) = false := beq_eq_false_iff_ne.mpr c113
                        have c113b1 : (t126 != 100) = true := bne_iff_ne.mpr c113
                        obtain rfl := Option.some.inj H
                        have p116 : 0 ≤ (x6_1 : Int) := of_decide_eq_true (by first | (with_reducible assumption) | assumption)
                        have q116 : x6_1 < (l0.length : Int) := of_decide_eq_true (by first | (with_reducible assumption) | assumption)
                        obtain ⟨ad116, e116, hx116_0, hx116_1, hx116_2⟩ := at_T47 HR0.out x6_1 p116 q116
                        cases e116
                        replace hx116_0 := (HB.out.cell (World.block_lt_of_cell? w _ hx116_0)).trans hx116_0
                        replace hx116_1 := (HB.out.cell (World.block_lt_of_cell? w _ hx116_1)).trans hx116_1
                        replace hx116_2 := (HB.out.cell (World.block_lt_of_cell? w _ hx116_2)).trans hx116_2
                        replace p116 := eq_true p116
                        replace q116 := eq_true q116
                        go_wp2_with (first | ((with_reducible refine gate_dst (N := 7) rfl ?_); (try (refine gate_guard (by rfl) ?_; dsimp only)); refine box_event ?hg (N := 7) ?hd (cs := #[.int .i64 0, .int .i64 0, .int .u8 0]) (t := 47) ?hr ?_; (case hd => rfl); (case hg => rfl); (case hr => first | (go_simp; done) | (go_simp; rfl)); intro gb117 hg w117 hbox hb; have n0_ := Aside0.mk (Kd.R_below (by (with_reducible repeat (first | apply Kd.R_alloc | apply Kd.R_drewN | apply Kd.R_drew)); exact HO_4.out) hb); have n1_ := Aside0.mk (below_step (by repeat (first | (with_reducible first | exact HB.out | apply below_alloc | apply pw_below_drewN | apply below_drew1) | exact HB.out)) hb); have n2_ := Aside0.mk (hbox); have n3_ := Aside0.mk ((by rw [hg]; exact (below_size (by repeat (first | (with_reducible first | exact HB.out | apply below_alloc | apply pw_below_drewN | apply below_drew1) | exact HB.out))) : w.heap.size ≤ gb117)); have n4_ := Aside0.mk ((by rw [hg]; exact (below_size (by repeat (first | (with_reducible first | exact HB.out | apply below_alloc | apply pw_below_drewN | apply below_drew1) | exact HB.out))) : w.heap.size ≤ gb117)); clear HO_4; clear HB; have HO_4 := n0_; have HB := n1_; have BK117 := n2_; have GW117 := n3_; have GE117 := n4_; clear n0_ n1_ n2_ n3_ n4_; clear hb hbox hg; have hcz118_0 : w117.cell? ⟨gb117, 0, none⟩ = some (.int .i64 0) := (blk_cell BK117.out 0).trans rfl; have hcz118_1 : w117.cell? ⟨gb117, 1, none⟩ = some (.int .i64 0) := (blk_cell BK117.out 1).trans rfl; have hcz118_2 : w117.cell? ⟨gb117, 2, none⟩ = some (.int .u8 0) := (blk_cell BK117.out 2).trans rfl; have hfz118_0 := blk_frozen BK117.out 0; have hfz118_1 := blk_frozen BK117.out 1; have hfz118_2 := blk_frozen BK117.out 2) | ((with_reducible refine gate_callee (f := 22) rfl ?_); refine goesL_ (some 85) rfl rfl Try.func22 (by kernel_rfl) rfl #[.int .i64 t112] rfl (by (try simp only [List.map_toArray, List.map_cons, List.map_nil]); first | done | rfl | (simp only [List.length_drop, List.length_take]; rfl)) ?_; (with_reducible refine (valiselaw11_num.calls t112 t126 _ A112.out).mono ?_); rintro e w' ⟨rfl, ⟨nd, rfl⟩⟩; refine ⟨_, rfl, ?_⟩))
                        go_ret
                        exact ⟨by first | rfl | (simp [errW_none, errW_some] <;> rfl) | (simp [*, errW_none, errW_some] <;> rfl), by repeat (first | (with_reducible first | exact HB.out | apply below_alloc | apply pw_below_drewN | apply below_drew1 | refine below_set ?_ GE117.out) | exact HB.out)⟩
                  · rw [if_neg c84] at H
                    have c84b0 : decide (3 ≤ ((rd_T47 l0 x6_1).f0)) = false := decide_eq_false c84
                    clear c84
                    replace H := Option.bind_eq_some_iff.mp H
                    obtain ⟨t127, A1190, H⟩ := H
                    replace H : (if t127 = 100 then (some ((t111.length : Int) == 0)) else (some false)) = some r := H
                    have A119 := Aside0.mk A1190
                    clear A1190
                    by_cases c120 : t127 = 100
                    · rw [if_pos c120] at H
                      have c120b0 : (t127 == 100) = true := beq_iff_eq.mpr c120
                      have c120b1 : (t127 != 100) = false := bne_eq_false_iff_eq.mpr c120
                      clear c120
                      obtain rfl := Option.some.inj H
                      have p116 : 0 ≤ (x6_1 : Int) := of_decide_eq_true (by first | (with_reducible assumption) | assumption)
                      have q116 : x6_1 < (l0.length : Int) := of_decide_eq_true (by first | (with_reducible assumption) | assumption)
                      obtain ⟨ad116, e116, hx116_0, hx116_1, hx116_2⟩ := at_T47 HR0.out x6_1 p116 q116
                      cases e116
                      replace hx116_0 := (HB.out.cell (World.block_lt_of_cell? w _ hx116_0)).trans hx116_0
                      replace hx116_1 := (HB.out.cell (World.block_lt_of_cell? w _ hx116_1)).trans hx116_1
                      replace hx116_2 := (HB.out.cell (World.block_lt_of_cell? w _ hx116_2)).trans hx116_2
                      replace p116 := eq_true p116
                      replace q116 := eq_true q116
                      go_wp2_with (first | ((with_reducible refine gate_dst (N := 7) rfl ?_); (try (refine gate_guard (by rfl) ?_; dsimp only)); refine box_event ?hg (N := 7) ?hd (cs := #[.int .i64 0, .int .i64 0, .int .u8 0]) (t := 47) ?hr ?_; (case hd => rfl); (case hg => rfl); (case hr => first | (go_simp; done) | (go_simp; rfl)); intro gb117 hg w121 hbox hb; have n0_ := Aside0.mk (Kd.R_below (by (with_reducible repeat (first | apply Kd.R_alloc | apply Kd.R_drewN | apply Kd.R_drew)); exact HO_4.out) hb); have n1_ := Aside0.mk (below_step (by repeat (first | (with_reducible first | exact HB.out | apply below_alloc | apply pw_below_drewN | apply below_drew1) | exact HB.out)) hb); have n2_ := Aside0.mk (hbox); have n3_ := Aside0.mk ((by rw [hg]; exact (below_size (by repeat (first | (with_reducible first | exact HB.out | apply below_alloc | apply pw_below_drewN | apply below_drew1) | exact HB.out))) : w.heap.size ≤ gb117)); have n4_ := Aside0.mk ((by rw [hg]; exact (below_size (by repeat (first | (with_reducible first | exact HB.out | apply below_alloc | apply pw_below_drewN | apply below_drew1) | exact HB.out))) : w.heap.size ≤ gb117)); clear HO_4; clear HB; have HO_4 := n0_; have HB := n1_; have BK117 := n2_; have GW117 := n3_; have GE117 := n4_; clear n0_ n1_ n2_ n3_ n4_; clear hb hbox hg; have hcz122_0 : w121.cell? ⟨gb117, 0, none⟩ = some (.int .i64 0) := (blk_cell BK117.out 0).trans rfl; have hcz122_1 : w121.cell? ⟨gb117, 1, none⟩ = some (.int .i64 0) := (blk_cell BK117.out 1).trans rfl; have hcz122_2 : w121.cell? ⟨gb117, 2, none⟩ = some (.int .u8 0) := (blk_cell BK117.out 2).trans rfl; have hfz122_0 := blk_frozen BK117.out 0; have hfz122_1 := blk_frozen BK117.out 1; have hfz122_2 := blk_frozen BK117.out 2) | ((with_reducible refine gate_callee (f := 22) rfl ?_); refine goesL_ (some 85) rfl rfl Try.func22 (by kernel_rfl) rfl #[.int .i64 t112] rfl (by (try simp only [List.map_toArray, List.map_cons, List.map_nil]); first | done | rfl | (simp only [List.length_drop, List.length_take]; rfl)) ?_; (with_reducible refine (valiselaw11_num.calls t112 t127 _ A119.out).mono ?_); rintro e w' ⟨rfl, ⟨nd, rfl⟩⟩; refine ⟨_, rfl, ?_⟩; obtain ⟨Ao123, co123, eo123⟩ := Kd.R_slice HO_4.out; subst eo123))
                      go_ret
                      exact ⟨by first | rfl | (simp [errW_none, errW_some] <;> rfl) | (simp [*, errW_none, errW_some] <;> rfl), by repeat (first | (with_reducible first | exact HB.out | apply below_alloc | apply pw_below_drewN | apply below_drew1 | refine below_set ?_ GE117.out) | exact HB.out)⟩
                    · rw [if_neg c120] at H
                      have c120b0 : (t127 == 100) = false := beq_eq_false_iff_ne.mpr c120
                      have c120b1 : (t127 != 100) = true := bne_iff_ne.mpr c120
                      obtain rfl := Option.some.inj H
                      have p116 : 0 ≤ (x6_1 : Int) := of_decide_eq_true (by first | (with_reducible assumption) | assumption)
                      have q116 : x6_1 < (l0.length : Int) := of_decide_eq_true (by first | (with_reducible assumption) | assumption)
                      obtain ⟨ad116, e116, hx116_0, hx116_1, hx116_2⟩ := at_T47 HR0.out x6_1 p116 q116
                      cases e116
                      replace hx116_0 := (HB.out.cell (World.block_lt_of_cell? w _ hx116_0)).trans hx116_0
                      replace hx116_1 := (HB.out.cell (World.block_lt_of_cell? w _ hx116_1)).trans hx116_1
                      replace hx116_2 := (HB.out.cell (World.block_lt_of_cell? w _ hx116_2)).trans hx116_2
                      replace p116 := eq_true p116
                      replace q116 := eq_true q116
                      go_wp2_with (first | ((with_reducible refine gate_dst (N := 7) rfl ?_); (try (refine gate_guard (by rfl) ?_; dsimp only)); refine box_event ?hg (N := 7) ?hd (cs := #[.int .i64 0, .int .i64 0, .int .u8 0]) (t := 47) ?hr ?_; (case hd => rfl); (case hg => rfl); (case hr => first | (go_simp; done) | (go_simp; rfl)); intro gb117 hg w124 hbox hb; have n0_ := Aside0.mk (Kd.R_below (by (with_reducible repeat (first | apply Kd.R_alloc | apply Kd.R_drewN | apply Kd.R_drew)); exact HO_4.out) hb); have n1_ := Aside0.mk (below_step (by repeat (first | (with_reducible first | exact HB.out | apply below_alloc | apply pw_below_drewN | apply below_drew1) | exact HB.out)) hb); have n2_ := Aside0.mk (hbox); have n3_ := Aside0.mk ((by rw [hg]; exact (below_size (by repeat (first | (with_reducible first | exact HB.out | apply below_alloc | apply pw_below_drewN | apply below_drew1) | exact HB.out))) : w.heap.size ≤ gb117)); have n4_ := Aside0.mk ((by rw [hg]; exact (below_size (by repeat (first | (with_reducible first | exact HB.out | apply below_alloc | apply pw_below_drewN | apply below_drew1) | exact HB.out))) : w.heap.size ≤ gb117)); clear HO_4; clear HB; have HO_4 := n0_; have HB := n1_; have BK117 := n2_; have GW117 := n3_; have GE117 := n4_; clear n0_ n1_ n2_ n3_ n4_; clear hb hbox hg; have hcz125_0 : w124.cell? ⟨gb117, 0, none⟩ = some (.int .i64 0) := (blk_cell BK117.out 0).trans rfl; have hcz125_1 : w124.cell? ⟨gb117, 1, none⟩ = some (.int .i64 0) := (blk_cell BK117.out 1).trans rfl; have hcz125_2 : w124.cell? ⟨gb117, 2, none⟩ = some (.int .u8 0) := (blk_cell BK117.out 2).trans rfl; have hfz125_0 := blk_frozen BK117.out 0; have hfz125_1 := blk_frozen BK117.out 1; have hfz125_2 := blk_frozen BK117.out 2) | ((with_reducible refine gate_callee (f := 22) rfl ?_); refine goesL_ (some 85) rfl rfl Try.func22 (by kernel_rfl) rfl #[.int .i64 t112] rfl (by (try simp only [List.map_toArray, List.map_cons, List.map_nil]); first | done | rfl | (simp only [List.length_drop, List.length_take]; rfl)) ?_; (with_reducible refine (valiselaw11_num.calls t112 t127 _ A119.out).mono ?_); rintro e w' ⟨rfl, ⟨nd, rfl⟩⟩; refine ⟨_, rfl, ?_⟩))
                      go_ret
                      exact ⟨by first | rfl | (simp [errW_none, errW_some] <;> rfl) | (simp [*, errW_none, errW_some] <;> rfl), by repeat (first | (with_reducible first | exact HB.out | apply below_alloc | apply pw_below_drewN | apply below_drew1 | refine below_set ?_ GE117.out) | exact HB.out)⟩
              · rw [if_neg c25] at H
                exact absurd H (by simp)
            · rw [if_neg c24] at H
              have c24b0 : decide (x6_1 < (l0.length : Int)) = false := decide_eq_false c24
              clear c24
              have HC126 := Aside0.mk H
              clear H
              go_upto_region 14 with (fail)
              go_cut [99] (fun v99 wc => ∃ (kq : Nat) (x99_125 : Bool), v99 = .bool x99_125 ∧ Aside0 (valiselaw11_DeflateSums.j1 kq l0 t111 x99_125 = some r) ∧ Aside0 (kq ≤ k1) ∧ Aside0 (Kd.R (Kd.int .i64) 3 wc w.heap.size (fun _ => True) v113 t111) ∧ Aside0 (Below w.heap.size w wc))
              case first =>
                have H := HC126.out
                clear HC126
                replace H := Option.bind_eq_some_iff.mp H
                obtain ⟨t128, A1270, H⟩ := H
                replace H : (if t128 = 0 then (valiselaw11_DeflateSums.j1 k1 l0 t111 ((t111.length : Int) == 0)) else (valiselaw11_DeflateSums.j1 k1 l0 t111 true)) = some r := H
                have A127 := Aside0.mk A1270
                clear A1270
                by_cases c128 : t128 = 0
                · rw [if_pos c128] at H
                  have c128b0 : (t128 == 0) = true := beq_iff_eq.mpr c128
                  have c128b1 : (t128 != 0) = false := bne_eq_false_iff_eq.mpr c128
                  clear c128
                  (first | rw [c128b0] | (simp only [i64_w, i32_w]; rw [c128b0]) | skip)
                  have H' := Aside0.mk H
                  clear H
                  go_wp2_with (first | ((with_reducible refine gate_callee (f := 22) rfl ?_); refine goesL_ (some 93) rfl rfl Try.func22 (by kernel_rfl) rfl #[.int .i64 t112] rfl (by (try simp only [List.map_toArray, List.map_cons, List.map_nil]); first | done | rfl | (simp only [List.length_drop, List.length_take]; rfl)) ?_; (with_reducible refine (valiselaw11_num.calls t112 t128 _ A127.out).mono ?_); rintro e w' ⟨rfl, ⟨nd, rfl⟩⟩; refine ⟨_, rfl, ?_⟩; obtain ⟨Ao129, co129, eo129⟩ := Kd.R_slice HO_4.out; subst eo129))
                  go_meet
                  case rel => exact ⟨_, (((t111.length : Int) == 0)), (by first | rfl | (simp; done) | (simp [*]; done)), H', ⟨by have := HK1.out; first | omega | exact Nat.le_refl _⟩, ⟨by (with_reducible repeat (first | apply Kd.R_alloc | apply Kd.R_drewN | apply Kd.R_drew)); exact HO_4.out⟩, ⟨by repeat (first | (with_reducible first | exact HB.out | apply below_alloc | apply pw_below_drewN | apply below_drew1) | exact HB.out)⟩⟩
                · rw [if_neg c128] at H
                  have c128b0 : (t128 == 0) = false := beq_eq_false_iff_ne.mpr c128
                  have c128b1 : (t128 != 0) = true := bne_iff_ne.mpr c128
                  (first | rw [c128b0] | (simp only [i64_w, i32_w]; rw [c128b0]) | skip)
                  have H' := Aside0.mk H
                  clear H
                  go_wp2_with (first | ((with_reducible refine gate_callee (f := 22) rfl ?_); refine goesL_ (some 93) rfl rfl Try.func22 (by kernel_rfl) rfl #[.int .i64 t112] rfl (by (try simp only [List.map_toArray, List.map_cons, List.map_nil]); first | done | rfl | (simp only [List.length_drop, List.length_take]; rfl)) ?_; (with_reducible refine (valiselaw11_num.calls t112 t128 _ A127.out).mono ?_); rintro e w' ⟨rfl, ⟨nd, rfl⟩⟩; refine ⟨_, rfl, ?_⟩))
                  go_meet
                  case rel => exact ⟨_, (true), (by first | rfl | (simp; done) | (simp [*]; done)), H', ⟨by have := HK1.out; first | omega | exact Nat.le_refl _⟩, ⟨by (with_reducible repeat (first | apply Kd.R_alloc | apply Kd.R_drewN | apply Kd.R_drew)); exact HO_4.out⟩, ⟨by repeat (first | (with_reducible first | exact HB.out | apply below_alloc | apply pw_below_drewN | apply below_drew1) | exact HB.out)⟩⟩
              case rest =>
                clear HC126
                try clear c1
                try clear p1
                try clear q1
                try clear hx1
                try clear c2
                try clear p2
                try clear c3
                try clear c4
                try clear c5
                try clear c6
                try clear p6
                try clear c7
                try clear c8
                try clear c9
                try clear c10
                try clear c11
                try clear p11
                try clear q11
                try clear hx11
                try clear c12
                try clear c22
                try clear c24
                try clear c24b0
                try clear c25
                try clear c26
                try clear c26b0
                try clear c26b1
                try clear c27
                try clear c27b0
                try clear c28
                try clear c28b0
                try clear c29
                try clear c29b0
                try clear c30
                try clear c30b0
                try clear c34
                try clear c34b0
                try clear c34b1
                try clear c38
                try clear c38b0
                try clear c38b1
                try clear c44
                try clear c44b0
                try clear c44b1
                try clear c48
                try clear c48b0
                try clear c48b1
                try clear c54
                try clear c54b0
                try clear c54b1
                try clear c58
                try clear c58b0
                try clear c58b1
                try clear c64
                try clear c64b0
                try clear c64b1
                try clear p64
                try clear c68
                try clear c68b0
                try clear c68b1
                try clear c74
                try clear c74b0
                try clear c74b1
                try clear c78
                try clear c78b0
                try clear c78b1
                try clear c84
                try clear c84b0
                try clear c85
                try clear c85b0
                try clear c86
                try clear c86b0
                try clear c87
                try clear c87b0
                try clear c88
                try clear c88b0
                try clear c88b1
                try clear c92
                try clear c92b0
                try clear c92b1
                try clear c99
                try clear c99b0
                try clear c99b1
                try clear c106
                try clear c106b0
                try clear c106b1
                try clear c113
                try clear c113b0
                try clear c113b1
                try clear p116
                try clear q116
                try clear hx116
                try clear c120
                try clear c120b0
                try clear c120b1
                try clear c128
                try clear c128b0
                try clear c128b1
                try clear hcz101_0
                try clear hcz101_1
                try clear hcz101_2
                try clear hcz104_0
                try clear hcz104_1
                try clear hcz104_2
                try clear hcz108_0
                try clear hcz108_1
                try clear hcz108_2
                try clear hcz111_0
                try clear hcz111_1
                try clear hcz111_2
                try clear hcz115_0
                try clear hcz115_1
                try clear hcz115_2
                try clear hcz118_0
                try clear hcz118_1
                try clear hcz118_2
                try clear hcz122_0
                try clear hcz122_1
                try clear hcz122_2
                try clear hcz125_0
                try clear hcz125_1
                try clear hcz125_2
                try clear hcz36_0
                try clear hcz36_1
                try clear hcz36_2
                try clear hcz40_0
                try clear hcz40_1
                try clear hcz40_2
                try clear hcz43_0
                try clear hcz43_1
                try clear hcz43_2
                try clear hcz46_0
                try clear hcz46_1
                try clear hcz46_2
                try clear hcz50_0
                try clear hcz50_1
                try clear hcz50_2
                try clear hcz53_0
                try clear hcz53_1
                try clear hcz53_2
                try clear hcz56_0
                try clear hcz56_1
                try clear hcz56_2
                try clear hcz60_0
                try clear hcz60_1
                try clear hcz60_2
                try clear hcz63_0
                try clear hcz63_1
                try clear hcz63_2
                try clear hcz66_0
                try clear hcz66_1
                try clear hcz66_2
                try clear hcz70_0
                try clear hcz70_1
                try clear hcz70_2
                try clear hcz73_0
                try clear hcz73_1
                try clear hcz73_2
                try clear hcz76_0
                try clear hcz76_1
                try clear hcz76_2
                try clear hcz80_0
                try clear hcz80_1
                try clear hcz80_2
                try clear hcz83_0
                try clear hcz83_1
                try clear hcz83_2
                try clear hcz90_0
                try clear hcz90_1
                try clear hcz90_2
                try clear hcz94_0
                try clear hcz94_1
                try clear hcz94_2
                try clear hcz97_0
                try clear hcz97_1
                try clear hcz97_2
                try clear hfz101_0
                try clear hfz101_1
                try clear hfz101_2
                try clear hfz104_0
                try clear hfz104_1
                try clear hfz104_2
                try clear hfz108_0
                try clear hfz108_1
                try clear hfz108_2
                try clear hfz111_0
                try clear hfz111_1
                try clear hfz111_2
                try clear hfz115_0
                try clear hfz115_1
                try clear hfz115_2
                try clear hfz118_0
                try clear hfz118_1
                try clear hfz118_2
                try clear hfz122_0
                try clear hfz122_1
                try clear hfz122_2
                try clear hfz125_0
                try clear hfz125_1
                try clear hfz125_2
                try clear hfz36_0
                try clear hfz36_1
                try clear hfz36_2
                try clear hfz40_0
                try clear hfz40_1
                try clear hfz40_2
                try clear hfz43_0
                try clear hfz43_1
                try clear hfz43_2
                try clear hfz46_0
                try clear hfz46_1
                try clear hfz46_2
                try clear hfz50_0
                try clear hfz50_1
                try clear hfz50_2
                try clear hfz53_0
                try clear hfz53_1
                try clear hfz53_2
                try clear hfz56_0
                try clear hfz56_1
                try clear hfz56_2
                try clear hfz60_0
                try clear hfz60_1
                try clear hfz60_2
                try clear hfz63_0
                try clear hfz63_1
                try clear hfz63_2
                try clear hfz66_0
                try clear hfz66_1
                try clear hfz66_2
                try clear hfz70_0
                try clear hfz70_1
                try clear hfz70_2
                try clear hfz73_0
                try clear hfz73_1
                try clear hfz73_2
                try clear hfz76_0
                try clear hfz76_1
                try clear hfz76_2
                try clear hfz80_0
                try clear hfz80_1
                try clear hfz80_2
                try clear hfz83_0
                try clear hfz83_1
                try clear hfz83_2
                try clear hfz90_0
                try clear hfz90_1
                try clear hfz90_2
                try clear hfz94_0
                try clear hfz94_1
                try clear hfz94_2
                try clear hfz97_0
                try clear hfz97_1
                try clear hfz97_2
                try clear hx116_0
                try clear hx116_1
                try clear hx116_2
                try clear p116
                try clear q116
                obtain ⟨kq, x99_125, rfl, HA, HJ125, HO_4, HB⟩ := hcut
                cases kq with
                | zero => exact absurd HA.out (by simp [valiselaw11_DeflateSums.j1])
                | succ kj125 =>
                  have H := HA.out
                  clear HA
                  simp only [valiselaw11_DeflateSums.j1] at H
                  by_cases c130 : x99_125 = true
                  · subst c130
                    have H1 : (some false) = some r := by rw [if_pos rfl] at H; exact H
                    clear H
                    have H := H1
                    clear H1
                    obtain rfl := Option.some.inj H
                    go_wp2
                    go_ret
                    exact ⟨by first | rfl | (simp [errW_none, errW_some] <;> rfl) | (simp [*, errW_none, errW_some] <;> rfl), by repeat (first | (with_reducible first | exact HB.out | apply below_alloc | apply pw_below_drewN | apply below_drew1) | exact HB.out)⟩
                  · replace c130 := Bool.eq_false_iff.mpr c130
                    subst c130
                    have H1 : (valiselaw11_DeflateSums.l1 kj125 l0 t111 0 0) = some r := by rw [if_neg (show ¬ (false = true) by decide)] at H; exact H
                    clear H
                    have H := H1
                    clear H1
                    have H' := Aside0.mk H
                    clear H
                    go_wp2
                    go_loopg [10, 11] kj125 (fun kq v10 v11 w' => ∃ (x10_3 : Int) (x11_3 : Int), v10 = .int .i64 x10_3 ∧ v11 = .int .i64 x11_3 ∧ Aside0 (valiselaw11_DeflateSums.l1 kq l0 t111 x10_3 x11_3 = some r) ∧ Aside0 (kq ≤ kj125) ∧ Aside0 (Kd.R (Kd.int .i64) 3 w' w.heap.size (fun _ => True) v113 t111) ∧ Aside0 (Below w.heap.size w w'))
                    case atStart => exact ⟨(0), (0), (by first | rfl | (simp; done) | (simp [*]; done)), (by first | rfl | (simp; done) | (simp [*]; done)), H', ⟨Nat.le_refl _⟩, ⟨by (with_reducible repeat (first | apply Kd.R_alloc | apply Kd.R_drewN | apply Kd.R_drew)); exact HO_4.out⟩, ⟨by repeat (first | (with_reducible first | exact HB.out | apply below_alloc | apply pw_below_drewN | apply below_drew1) | exact HB.out)⟩⟩
                    case round =>
                      clear H'
                      try clear c1
                      try clear p1
                      try clear q1
                      try clear hx1
                      try clear c2
                      try clear p2
                      try clear c3
                      try clear c4
                      try clear c5
                      try clear c6
                      try clear p6
                      try clear c7
                      try clear c8
                      try clear c9
                      try clear c10
                      try clear c11
                      try clear p11
                      try clear q11
                      try clear hx11
                      try clear c12
                      try clear c13
                      try clear c22
                      try clear c24
                      try clear c24b0
                      try clear c25
                      try clear c26
                      try clear c26b0
                      try clear c26b1
                      try clear c27
                      try clear c27b0
                      try clear c28
                      try clear c28b0
                      try clear c29
                      try clear c29b0
                      try clear c30
                      try clear c30b0
                      try clear c34
                      try clear c34b0
                      try clear c34b1
                      try clear c38
                      try clear c38b0
                      try clear c38b1
                      try clear c44
                      try clear c44b0
                      try clear c44b1
                      try clear c48
                      try clear c48b0
                      try clear c48b1
                      try clear c54
                      try clear c54b0
                      try clear c54b1
                      try clear c58
                      try clear c58b0
                      try clear c58b1
                      try clear c64
                      try clear c64b0
                      try clear c64b1
                      try clear p64
                      try clear c68
                      try clear c68b0
                      try clear c68b1
                      try clear c74
                      try clear c74b0
                      try clear c74b1
                      try clear c78
                      try clear c78b0
                      try clear c78b1
                      try clear c84
                      try clear c84b0
                      try clear c85
                      try clear c85b0
                      try clear c86
                      try clear c86b0
                      try clear c87
                      try clear c87b0
                      try clear c88
                      try clear c88b0
                      try clear c88b1
                      try clear c92
                      try clear c92b0
                      try clear c92b1
                      try clear c99
                      try clear c99b0
                      try clear c99b1
                      try clear c106
                      try clear c106b0
                      try clear c106b1
                      try clear c113
                      try clear c113b0
                      try clear c113b1
                      try clear p116
                      try clear q116
                      try clear hx116
                      try clear c120
                      try clear c120b0
                      try clear c120b1
                      try clear c128
                      try clear c128b0
                      try clear c128b1
                      try clear c130
                      try clear hcz101_0
                      try clear hcz101_1
                      try clear hcz101_2
                      try clear hcz104_0
                      try clear hcz104_1
                      try clear hcz104_2
                      try clear hcz108_0
                      try clear hcz108_1
                      try clear hcz108_2
                      try clear hcz111_0
                      try clear hcz111_1
                      try clear hcz111_2
                      try clear hcz115_0
                      try clear hcz115_1
                      try clear hcz115_2
                      try clear hcz118_0
                      try clear hcz118_1
                      try clear hcz118_2
                      try clear hcz122_0
                      try clear hcz122_1
                      try clear hcz122_2
                      try clear hcz125_0
                      try clear hcz125_1
                      try clear hcz125_2
                      try clear hcz36_0
                      try clear hcz36_1
                      try clear hcz36_2
                      try clear hcz40_0
                      try clear hcz40_1
                      try clear hcz40_2
                      try clear hcz43_0
                      try clear hcz43_1
                      try clear hcz43_2
                      try clear hcz46_0
                      try clear hcz46_1
                      try clear hcz46_2
                      try clear hcz50_0
                      try clear hcz50_1
                      try clear hcz50_2
                      try clear hcz53_0
                      try clear hcz53_1
                      try clear hcz53_2
                      try clear hcz56_0
                      try clear hcz56_1
                      try clear hcz56_2
                      try clear hcz60_0
                      try clear hcz60_1
                      try clear hcz60_2
                      try clear hcz63_0
                      try clear hcz63_1
                      try clear hcz63_2
                      try clear hcz66_0
                      try clear hcz66_1
                      try clear hcz66_2
                      try clear hcz70_0
                      try clear hcz70_1
                      try clear hcz70_2
                      try clear hcz73_0
                      try clear hcz73_1
                      try clear hcz73_2
                      try clear hcz76_0
                      try clear hcz76_1
                      try clear hcz76_2
                      try clear hcz80_0
                      try clear hcz80_1
                      try clear hcz80_2
                      try clear hcz83_0
                      try clear hcz83_1
                      try clear hcz83_2
                      try clear hcz90_0
                      try clear hcz90_1
                      try clear hcz90_2
                      try clear hcz94_0
                      try clear hcz94_1
                      try clear hcz94_2
                      try clear hcz97_0
                      try clear hcz97_1
                      try clear hcz97_2
                      try clear hfz101_0
                      try clear hfz101_1
                      try clear hfz101_2
                      try clear hfz104_0
                      try clear hfz104_1
                      try clear hfz104_2
                      try clear hfz108_0
                      try clear hfz108_1
                      try clear hfz108_2
                      try clear hfz111_0
                      try clear hfz111_1
                      try clear hfz111_2
                      try clear hfz115_0
                      try clear hfz115_1
                      try clear hfz115_2
                      try clear hfz118_0
                      try clear hfz118_1
                      try clear hfz118_2
                      try clear hfz122_0
                      try clear hfz122_1
                      try clear hfz122_2
                      try clear hfz125_0
                      try clear hfz125_1
                      try clear hfz125_2
                      try clear hfz36_0
                      try clear hfz36_1
                      try clear hfz36_2
                      try clear hfz40_0
                      try clear hfz40_1
                      try clear hfz40_2
                      try clear hfz43_0
                      try clear hfz43_1
                      try clear hfz43_2
                      try clear hfz46_0
                      try clear hfz46_1
                      try clear hfz46_2
                      try clear hfz50_0
                      try clear hfz50_1
                      try clear hfz50_2
                      try clear hfz53_0
                      try clear hfz53_1
                      try clear hfz53_2
                      try clear hfz56_0
                      try clear hfz56_1
                      try clear hfz56_2
                      try clear hfz60_0
                      try clear hfz60_1
                      try clear hfz60_2
                      try clear hfz63_0
                      try clear hfz63_1
                      try clear hfz63_2
                      try clear hfz66_0
                      try clear hfz66_1
                      try clear hfz66_2
                      try clear hfz70_0
                      try clear hfz70_1
                      try clear hfz70_2
                      try clear hfz73_0
                      try clear hfz73_1
                      try clear hfz73_2
                      try clear hfz76_0
                      try clear hfz76_1
                      try clear hfz76_2
                      try clear hfz80_0
                      try clear hfz80_1
                      try clear hfz80_2
                      try clear hfz83_0
                      try clear hfz83_1
                      try clear hfz83_2
                      try clear hfz90_0
                      try clear hfz90_1
                      try clear hfz90_2
                      try clear hfz94_0
                      try clear hfz94_1
                      try clear hfz94_2
                      try clear hfz97_0
                      try clear hfz97_1
                      try clear hfz97_2
                      try clear hx116_0
                      try clear hx116_1
                      try clear hx116_2
                      try clear p1
                      try clear p11
                      try clear p116
                      try clear p2
                      try clear p6
                      try clear p64
                      try clear q1
                      try clear q11
                      try clear q116
                      obtain ⟨x10_3, x11_3, rfl, rfl, HA, HK3, HO_4, HB⟩ := hrel
                      cases gk with
                      | zero => exact absurd HA.out (by simp [valiselaw11_DeflateSums.l1])
                      | succ k3 =>
                        have H := HA.out
                        clear HA
                        simp only [valiselaw11_DeflateSums.l1] at H
                        by_cases c131 : x11_3 < (t111.length : Int)
                        · rw [if_pos c131] at H
                          have c131b0 : decide (x11_3 < (t111.length : Int)) = true := decide_eq_true c131
                          clear c131
                          by_cases c132 : 0 ≤ x11_3
                          · rw [if_pos c132] at H
                            have c132b0 : decide (0 ≤ x11_3) = true := decide_eq_true c132
                            clear c132
                            have HC133 := Aside0.mk H
                            clear H
                            obtain ⟨Ao134, co134, eo134⟩ := Kd.R_slice HO_4.out
                            subst eo134
                            have p129 : 0 ≤ (x11_3 : Int) := of_decide_eq_true (by first | (with_reducible assumption) | assumption)
                            have q129 : x11_3 < (t111.length : Int) := of_decide_eq_true (by first | (with_reducible assumption) | assumption)
                            obtain ⟨ad129, e129, hx129_0⟩ := Kd.at_int (Kd.R_reads' HO_4.out).2.2 x11_3 p129 q129
                            cases e129
                            replace p129 := eq_true p129
                            replace q129 := eq_true q129
                            go_upto_region 21 with (fail)
                            go_cut [144] (fun v144 wc => ∃ (kq : Nat) (x144_132 : Bool), v144 = .bool x144_132 ∧ Aside0 (valiselaw11_DeflateSums.j3 kq l0 t111 x10_3 x11_3 (rd t111 x11_3) x144_132 = some r) ∧ Aside0 (kq ≤ k3) ∧ Aside0 (Kd.R (Kd.int .i64) 3 wc w.heap.size (fun _ => True) (.slice (some ad129) t111.length co134) t111) ∧ Aside0 (Below w.heap.size w wc))
                            case first =>
                              have H := HC133.out
                              clear HC133
                              by_cases c135 : (rd t111 x11_3) < 0
                              · rw [if_pos c135] at H
                                have c135b0 : decide ((rd t111 x11_3) < 0) = true := decide_eq_true c135
                                clear c135
                                (first | rw [c135b0] | (simp only [i64_w, i32_w]; rw [c135b0]) | skip)
                                have H' := Aside0.mk H
                                clear H
                                go_wp2
                                go_meet
                                case rel => exact ⟨_, (true), (by first | rfl | (simp; done) | (simp [*]; done)), H', ⟨by have := HK1.out; have := HJ125.out; have := HK3.out; first | omega | exact Nat.le_refl _⟩, ⟨by (with_reducible repeat (first | apply Kd.R_alloc | apply Kd.R_drewN | apply Kd.R_drew)); exact HO_4.out⟩, ⟨by repeat (first | (with_reducible first | exact HB.out | apply below_alloc | apply pw_below_drewN | apply below_drew1) | exact HB.out)⟩⟩
                              · rw [if_neg c135] at H
                                have c135b0 : decide ((rd t111 x11_3) < 0) = false := decide_eq_false c135
                                clear c135
                                (first | rw [c135b0] | (simp only [i64_w, i32_w]; rw [c135b0]) | skip)
                                by_cases c136 : (rd t111 x11_3) > 8192
                                · rw [if_pos c136] at H
                                  have c136b0 : decide (8192 < (rd t111 x11_3)) = true := decide_eq_true c136
                                  clear c136
                                  have H' := Aside0.mk H
                                  clear H
                                  go_wp2
                                  go_meet
                                  case rel => exact ⟨_, (true), (by first | rfl | (simp; done) | (simp [*]; done)), H', ⟨by have := HK1.out; have := HJ125.out; have := HK3.out; first | omega | exact Nat.le_refl _⟩, ⟨by (with_reducible repeat (first | apply Kd.R_alloc | apply Kd.R_drewN | apply Kd.R_drew)); exact HO_4.out⟩, ⟨by repeat (first | (with_reducible first | exact HB.out | apply below_alloc | apply pw_below_drewN | apply below_drew1) | exact HB.out)⟩⟩
                                · rw [if_neg c136] at H
                                  have c136b0 : decide (8192 < (rd t111 x11_3)) = false := decide_eq_false c136
                                  clear c136
                                  by_cases c137 : (rd t111 x11_3) > (wrap64 ((l0.length : Int) - x10_3))
                                  · rw [if_pos c137] at H
                                    have c137b0 : decide ((wrap64 ((l0.length : Int) - x10_3)) < (rd t111 x11_3)) = true := decide_eq_true c137
                                    clear c137
                                    have H' := Aside0.mk H
                                    clear H
                                    go_wp2
                                    go_meet
                                    case rel => exact ⟨_, (true), (by first | rfl | (simp; done) | (simp [*]; done)), H', ⟨by have := HK1.out; have := HJ125.out; have := HK3.out; first | omega | exact Nat.le_refl _⟩, ⟨by (with_reducible repeat (first | apply Kd.R_alloc | apply Kd.R_drewN | apply Kd.R_drew)); exact HO_4.out⟩, ⟨by repeat (first | (with_reducible first | exact HB.out | apply below_alloc | apply pw_below_drewN | apply below_drew1) | exact HB.out)⟩⟩
                                  · rw [if_neg c137] at H
                                    have c137b0 : decide ((wrap64 ((l0.length : Int) - x10_3)) < (rd t111 x11_3)) = false := decide_eq_false c137
                                    clear c137
                                    by_cases c138 : (rd t111 x11_3) = 0
                                    · rw [if_pos c138] at H
                                      have c138b0 : ((rd t111 x11_3) == 0) = true := beq_iff_eq.mpr c138
                                      have c138b1 : ((rd t111 x11_3) != 0) = false := bne_eq_false_iff_eq.mpr c138
                                      clear c138
                                      by_cases c139 : (l0.length : Int) > 0
                                      · rw [if_pos c139] at H
                                        have c139b0 : decide (0 < (l0.length : Int)) = true := decide_eq_true c139
                                        have c139b1 : decide (0 < l0.length) = true := decide_eq_true (by omega)
                                        clear c139
                                        have H' := Aside0.mk H
                                        clear H
                                        go_wp2
                                        go_meet
                                        case rel => exact ⟨_, (true), (by first | rfl | (simp; done) | (simp [*]; done)), H', ⟨by have := HK1.out; have := HJ125.out; have := HK3.out; first | omega | exact Nat.le_refl _⟩, ⟨by (with_reducible repeat (first | apply Kd.R_alloc | apply Kd.R_drewN | apply Kd.R_drew)); exact HO_4.out⟩, ⟨by repeat (first | (with_reducible first | exact HB.out | apply below_alloc | apply pw_below_drewN | apply below_drew1) | exact HB.out)⟩⟩
                                      · rw [if_neg c139] at H
                                        have c139b0 : decide (0 < (l0.length : Int)) = false := decide_eq_false c139
                                        have c139b1 : decide (0 < l0.length) = false := decide_eq_false (by omega)
                                        clear c139
                                        by_cases c140 : (Int.tmod (rd t111 x11_3) 128) = 0
                                        · rw [if_pos c140] at H
                                          have c140b0 : ((Int.tmod (rd t111 x11_3) 128) == 0) = true := beq_iff_eq.mpr c140
                                          have c140b1 : ((Int.tmod (rd t111 x11_3) 128) != 0) = false := bne_eq_false_iff_eq.mpr c140
                                          clear c140
                                          have H' := Aside0.mk H
                                          clear H
                                          go_wp2
                                          go_meet
                                          case rel => exact ⟨_, (false), (by first | rfl | (simp; done) | (simp [*]; done)), H', ⟨by have := HK1.out; have := HJ125.out; have := HK3.out; first | omega | exact Nat.le_refl _⟩, ⟨by (with_reducible repeat (first | apply Kd.R_alloc | apply Kd.R_drewN | apply Kd.R_drew)); exact HO_4.out⟩, ⟨by repeat (first | (with_reducible first | exact HB.out | apply below_alloc | apply pw_below_drewN | apply below_drew1) | exact HB.out)⟩⟩
                                        · rw [if_neg c140] at H
                                          have c140b0 : ((Int.tmod (rd t111 x11_3) 128) == 0) = false := beq_eq_false_iff_ne.mpr c140
                                          have c140b1 : ((Int.tmod (rd t111 x11_3) 128) != 0) = true := bne_iff_ne.mpr c140
                                          have H' := Aside0.mk H
                                          clear H
                                          go_wp2
                                          go_meet
                                          case rel => exact ⟨_, (decide (x11_3 < (wrap64 ((t111.length : Int) - 1)))), (by first | rfl | (simp; done) | (simp [*]; done)), H', ⟨by have := HK1.out; have := HJ125.out; have := HK3.out; first | omega | exact Nat.le_refl _⟩, ⟨by (with_reducible repeat (first | apply Kd.R_alloc | apply Kd.R_drewN | apply Kd.R_drew)); exact HO_4.out⟩, ⟨by repeat (first | (with_reducible first | exact HB.out | apply below_alloc | apply pw_below_drewN | apply below_drew1) | exact HB.out)⟩⟩
                                    · rw [if_neg c138] at H
                                      have c138b0 : ((rd t111 x11_3) == 0) = false := beq_eq_false_iff_ne.mpr c138
                                      have c138b1 : ((rd t111 x11_3) != 0) = true := bne_iff_ne.mpr c138
                                      by_cases c141 : (Int.tmod (rd t111 x11_3) 128) = 0
                                      · rw [if_pos c141] at H
                                        have c141b0 : ((Int.tmod (rd t111 x11_3) 128) == 0) = true := beq_iff_eq.mpr c141
                                        have c141b1 : ((Int.tmod (rd t111 x11_3) 128) != 0) = false := bne_eq_false_iff_eq.mpr c141
                                        clear c141
                                        have H' := Aside0.mk H
                                        clear H
                                        go_wp2
                                        go_meet
                                        case rel => exact ⟨_, (false), (by first | rfl | (simp; done) | (simp [*]; done)), H', ⟨by have := HK1.out; have := HJ125.out; have := HK3.out; first | omega | exact Nat.le_refl _⟩, ⟨by (with_reducible repeat (first | apply Kd.R_alloc | apply Kd.R_drewN | apply Kd.R_drew)); exact HO_4.out⟩, ⟨by repeat (first | (with_reducible first | exact HB.out | apply below_alloc | apply pw_below_drewN | apply below_drew1) | exact HB.out)⟩⟩
                                      · rw [if_neg c141] at H
                                        have c141b0 : ((Int.tmod (rd t111 x11_3) 128) == 0) = false := beq_eq_false_iff_ne.mpr c141
                                        have c141b1 : ((Int.tmod (rd t111 x11_3) 128) != 0) = true := bne_iff_ne.mpr c141
                                        have H' := Aside0.mk H
                                        clear H
                                        go_wp2
                                        go_meet
                                        case rel => exact ⟨_, (decide (x11_3 < (wrap64 ((t111.length : Int) - 1)))), (by first | rfl | (simp; done) | (simp [*]; done)), H', ⟨by have := HK1.out; have := HJ125.out; have := HK3.out; first | omega | exact Nat.le_refl _⟩, ⟨by (with_reducible repeat (first | apply Kd.R_alloc | apply Kd.R_drewN | apply Kd.R_drew)); exact HO_4.out⟩, ⟨by repeat (first | (with_reducible first | exact HB.out | apply below_alloc | apply pw_below_drewN | apply below_drew1) | exact HB.out)⟩⟩
                            case rest =>
                              clear HC133
                              try clear c1
                              try clear p1
                              try clear q1
                              try clear hx1
                              try clear c2
                              try clear p2
                              try clear c3
                              try clear c4
                              try clear c5
                              try clear c6
                              try clear p6
                              try clear c7
                              try clear c8
                              try clear c9
                              try clear c10
                              try clear c11
                              try clear p11
                              try clear q11
                              try clear hx11
                              try clear c12
                              try clear p12
                              try clear q12
                              try clear hx12
                              try clear c13
                              try clear c14
                              try clear c22
                              try clear c24
                              try clear c24b0
                              try clear c25
                              try clear c26
                              try clear c26b0
                              try clear c26b1
                              try clear c27
                              try clear c27b0
                              try clear c28
                              try clear c28b0
                              try clear c29
                              try clear c29b0
                              try clear c30
                              try clear c30b0
                              try clear c34
                              try clear c34b0
                              try clear c34b1
                              try clear c38
                              try clear c38b0
                              try clear c38b1
                              try clear c44
                              try clear c44b0
                              try clear c44b1
                              try clear c48
                              try clear c48b0
                              try clear c48b1
                              try clear c54
                              try clear c54b0
                              try clear c54b1
                              try clear c58
                              try clear c58b0
                              try clear c58b1
                              try clear c64
                              try clear c64b0
                              try clear c64b1
                              try clear p64
                              try clear c68
                              try clear c68b0
                              try clear c68b1
                              try clear c74
                              try clear c74b0
                              try clear c74b1
                              try clear c78
                              try clear c78b0
                              try clear c78b1
                              try clear c84
                              try clear c84b0
                              try clear c85
                              try clear c85b0
                              try clear c86
                              try clear c86b0
                              try clear c87
                              try clear c87b0
                              try clear c88
                              try clear c88b0
                              try clear c88b1
                              try clear c92
                              try clear c92b0
                              try clear c92b1
                              try clear c99
                              try clear c99b0
                              try clear c99b1
                              try clear c106
                              try clear c106b0
                              try clear c106b1
                              try clear c113
                              try clear c113b0
                              try clear c113b1
                              try clear p116
                              try clear q116
                              try clear hx116
                              try clear c120
                              try clear c120b0
                              try clear c120b1
                              try clear c128
                              try clear c128b0
                              try clear c128b1
                              try clear p129
                              try clear q129
                              try clear hx129
                              try clear c130
                              try clear c131
                              try clear c131b0
                              try clear c132
                              try clear c132b0
                              try clear c135
                              try clear c135b0
                              try clear c136
                              try clear c136b0
                              try clear c137
                              try clear c137b0
                              try clear c138
                              try clear c138b0
                              try clear c138b1
                              try clear c139
                              try clear c139b0
                              try clear c139b1
                              try clear c140
                              try clear c140b0
                              try clear c140b1
                              try clear c141
                              try clear c141b0
                              try clear c141b1
                              try clear hcz101_0
                              try clear hcz101_1
                              try clear hcz101_2
                              try clear hcz104_0
                              try clear hcz104_1
                              try clear hcz104_2
                              try clear hcz108_0
                              try clear hcz108_1
                              try clear hcz108_2
                              try clear hcz111_0
                              try clear hcz111_1
                              try clear hcz111_2
                              try clear hcz115_0
                              try clear hcz115_1
                              try clear hcz115_2
                              try clear hcz118_0
                              try clear hcz118_1
                              try clear hcz118_2
                              try clear hcz122_0
                              try clear hcz122_1
                              try clear hcz122_2
                              try clear hcz125_0
                              try clear hcz125_1
                              try clear hcz125_2
                              try clear hcz36_0
                              try clear hcz36_1
                              try clear hcz36_2
                              try clear hcz40_0
                              try clear hcz40_1
                              try clear hcz40_2
                              try clear hcz43_0
                              try clear hcz43_1
                              try clear hcz43_2
                              try clear hcz46_0
                              try clear hcz46_1
                              try clear hcz46_2
                              try clear hcz50_0
                              try clear hcz50_1
                              try clear hcz50_2
                              try clear hcz53_0
                              try clear hcz53_1
                              try clear hcz53_2
                              try clear hcz56_0
                              try clear hcz56_1
                              try clear hcz56_2
                              try clear hcz60_0
                              try clear hcz60_1
                              try clear hcz60_2
                              try clear hcz63_0
                              try clear hcz63_1
                              try clear hcz63_2
                              try clear hcz66_0
                              try clear hcz66_1
                              try clear hcz66_2
                              try clear hcz70_0
                              try clear hcz70_1
                              try clear hcz70_2
                              try clear hcz73_0
                              try clear hcz73_1
                              try clear hcz73_2
                              try clear hcz76_0
                              try clear hcz76_1
                              try clear hcz76_2
                              try clear hcz80_0
                              try clear hcz80_1
                              try clear hcz80_2
                              try clear hcz83_0
                              try clear hcz83_1
                              try clear hcz83_2
                              try clear hcz90_0
                              try clear hcz90_1
                              try clear hcz90_2
                              try clear hcz94_0
                              try clear hcz94_1
                              try clear hcz94_2
                              try clear hcz97_0
                              try clear hcz97_1
                              try clear hcz97_2
                              try clear hfz101_0
                              try clear hfz101_1
                              try clear hfz101_2
                              try clear hfz104_0
                              try clear hfz104_1
                              try clear hfz104_2
                              try clear hfz108_0
                              try clear hfz108_1
                              try clear hfz108_2
                              try clear hfz111_0
                              try clear hfz111_1
                              try clear hfz111_2
                              try clear hfz115_0
                              try clear hfz115_1
                              try clear hfz115_2
                              try clear hfz118_0
                              try clear hfz118_1
                              try clear hfz118_2
                              try clear hfz122_0
                              try clear hfz122_1
                              try clear hfz122_2
                              try clear hfz125_0
                              try clear hfz125_1
                              try clear hfz125_2
                              try clear hfz36_0
                              try clear hfz36_1
                              try clear hfz36_2
                              try clear hfz40_0
                              try clear hfz40_1
                              try clear hfz40_2
                              try clear hfz43_0
                              try clear hfz43_1
                              try clear hfz43_2
                              try clear hfz46_0
                              try clear hfz46_1
                              try clear hfz46_2
                              try clear hfz50_0
                              try clear hfz50_1
                              try clear hfz50_2
                              try clear hfz53_0
                              try clear hfz53_1
                              try clear hfz53_2
                              try clear hfz56_0
                              try clear hfz56_1
                              try clear hfz56_2
                              try clear hfz60_0
                              try clear hfz60_1
                              try clear hfz60_2
                              try clear hfz63_0
                              try clear hfz63_1
                              try clear hfz63_2
                              try clear hfz66_0
                              try clear hfz66_1
                              try clear hfz66_2
                              try clear hfz70_0
                              try clear hfz70_1
                              try clear hfz70_2
                              try clear hfz73_0
                              try clear hfz73_1
                              try clear hfz73_2
                              try clear hfz76_0
                              try clear hfz76_1
                              try clear hfz76_2
                              try clear hfz80_0
                              try clear hfz80_1
                              try clear hfz80_2
                              try clear hfz83_0
                              try clear hfz83_1
                              try clear hfz83_2
                              try clear hfz90_0
                              try clear hfz90_1
                              try clear hfz90_2
                              try clear hfz94_0
                              try clear hfz94_1
                              try clear hfz94_2
                              try clear hfz97_0
                              try clear hfz97_1
                              try clear hfz97_2
                              try clear hx116_0
                              try clear hx116_1
                              try clear hx116_2
                              try clear hx129_0
                              try clear p1
                              try clear p11
                              try clear p116
                              try clear p129
                              try clear p2
                              try clear p6
                              try clear p64
                              try clear q1
                              try clear q11
                              try clear q116
                              try clear q129
                              obtain ⟨kq, x144_132, rfl, HA, HJ132, HO_4, HB⟩ := hcut
                              cases kq with
                              | zero => exact absurd HA.out (by simp [valiselaw11_DeflateSums.j3])
                              | succ kj132 =>
                                have H := HA.out
                                clear HA
                                simp only [valiselaw11_DeflateSums.j3] at H
                                by_cases c142 : x144_132 = true
                                · subst c142
                                  have H1 : (some false) = some r := by rw [if_pos rfl] at H; exact H
                                  clear H
                                  have H := H1
                                  clear H1
                                  obtain rfl := Option.some.inj H
                                  go_wp2
                                  go_ret
                                  exact ⟨by first | rfl | (simp [errW_none, errW_some] <;> rfl) | (simp [*, errW_none, errW_some] <;> rfl), by repeat (first | (with_reducible first | exact HB.out | apply below_alloc | apply pw_below_drewN | apply below_drew1) | exact HB.out)⟩
                                · replace c142 := Bool.eq_false_iff.mpr c142
                                  subst c142
                                  have H1 : (valiselaw11_DeflateSums.l2 kj132 l0 t111 x10_3 x11_3 (rd t111 x11_3) 0 x10_3) = some r := by rw [if_neg (show ¬ (false = true) by decide)] at H; exact H
                                  clear H
                                  have H := H1
                                  clear H1
                                  have H' := Aside0.mk H
                                  clear H
                                  go_wp2
                                  go_loopg [13, 14] kj132 (fun kq v13 v14 w' => ∃ (x13_5 : Int) (x14_5 : Int), v13 = .int .i64 x13_5 ∧ v14 = .int .i64 x14_5 ∧ Aside0 (valiselaw11_DeflateSums.l2 kq l0 t111 x10_3 x11_3 (rd t111 x11_3) x13_5 x14_5 = some r) ∧ Aside0 (kq ≤ kj132) ∧ Aside0 (Kd.R (Kd.int .i64) 3 w' w.heap.size (fun _ => True) (.slice (some ad129) t111.length co134) t111) ∧ Aside0 (Below w.heap.size w w'))
                                  case atStart => exact ⟨(0), (x10_3), (by first | rfl | (simp; done) | (simp [*]; done)), (by first | rfl | (simp; done) | (simp [*]; done)), H', ⟨Nat.le_refl _⟩, ⟨by (with_reducible repeat (first | apply Kd.R_alloc | apply Kd.R_drewN | apply Kd.R_drew)); exact HO_4.out⟩, ⟨by repeat (first | (with_reducible first | exact HB.out | apply below_alloc | apply pw_below_drewN | apply below_drew1) | exact HB.out)⟩⟩
                                  case round =>
                                    clear H'
                                    try clear c1
                                    try clear p1
                                    try clear q1
                                    try clear hx1
                                    try clear c2
                                    try clear p2
                                    try clear c3
                                    try clear c4
                                    try clear c5
                                    try clear c6
                                    try clear p6
                                    try clear c7
                                    try clear c8
                                    try clear c9
                                    try clear c10
                                    try clear c11
                                    try clear p11
                                    try clear q11
                                    try clear hx11
                                    try clear c12
                                    try clear p12
                                    try clear q12
                                    try clear hx12
                                    try clear c13
                                    try clear c14
                                    try clear c22
                                    try clear c24
                                    try clear c24b0
                                    try clear c25
                                    try clear c26
                                    try clear c26b0
                                    try clear c26b1
                                    try clear c27
                                    try clear c27b0
                                    try clear c28
                                    try clear c28b0
                                    try clear c29
                                    try clear c29b0
                                    try clear c30
                                    try clear c30b0
                                    try clear c34
                                    try clear c34b0
                                    try clear c34b1
                                    try clear c38
                                    try clear c38b0
                                    try clear c38b1
                                    try clear c44
                                    try clear c44b0
                                    try clear c44b1
                                    try clear c48
                                    try clear c48b0
                                    try clear c48b1
                                    try clear c54
                                    try clear c54b0
                                    try clear c54b1
                                    try clear c58
                                    try clear c58b0
                                    try clear c58b1
                                    try clear c64
                                    try clear c64b0
                                    try clear c64b1
                                    try clear p64
                                    try clear c68
                                    try clear c68b0
                                    try clear c68b1
                                    try clear c74
                                    try clear c74b0
                                    try clear c74b1
                                    try clear c78
                                    try clear c78b0
                                    try clear c78b1
                                    try clear c84
                                    try clear c84b0
                                    try clear c85
                                    try clear c85b0
                                    try clear c86
                                    try clear c86b0
                                    try clear c87
                                    try clear c87b0
                                    try clear c88
                                    try clear c88b0
                                    try clear c88b1
                                    try clear c92
                                    try clear c92b0
                                    try clear c92b1
                                    try clear c99
                                    try clear c99b0
                                    try clear c99b1
                                    try clear c106
                                    try clear c106b0
                                    try clear c106b1
                                    try clear c113
                                    try clear c113b0
                                    try clear c113b1
                                    try clear p116
                                    try clear q116
                                    try clear hx116
                                    try clear c120
                                    try clear c120b0
                                    try clear c120b1
                                    try clear c128
                                    try clear c128b0
                                    try clear c128b1
                                    try clear p129
                                    try clear q129
                                    try clear hx129
                                    try clear c130
                                    try clear c131
                                    try clear c131b0
                                    try clear c132
                                    try clear c132b0
                                    try clear c135
                                    try clear c135b0
                                    try clear c136
                                    try clear c136b0
                                    try clear c137
                                    try clear c137b0
                                    try clear c138
                                    try clear c138b0
                                    try clear c138b1
                                    try clear c139
                                    try clear c139b0
                                    try clear c139b1
                                    try clear c140
                                    try clear c140b0
                                    try clear c140b1
                                    try clear c141
                                    try clear c141b0
                                    try clear c141b1
                                    try clear c142
                                    try clear hcz101_0
                                    try clear hcz101_1
                                    try clear hcz101_2
                                    try clear hcz104_0
                                    try clear hcz104_1
                                    try clear hcz104_2
                                    try clear hcz108_0
                                    try clear hcz108_1
                                    try clear hcz108_2
                                    try clear hcz111_0
                                    try clear hcz111_1
                                    try clear hcz111_2
                                    try clear hcz115_0
                                    try clear hcz115_1
                                    try clear hcz115_2
                                    try clear hcz118_0
                                    try clear hcz118_1
                                    try clear hcz118_2
                                    try clear hcz122_0
                                    try clear hcz122_1
                                    try clear hcz122_2
                                    try clear hcz125_0
                                    try clear hcz125_1
                                    try clear hcz125_2
                                    try clear hcz36_0
                                    try clear hcz36_1
                                    try clear hcz36_2
                                    try clear hcz40_0
                                    try clear hcz40_1
                                    try clear hcz40_2
                                    try clear hcz43_0
                                    try clear hcz43_1
                                    try clear hcz43_2
                                    try clear hcz46_0
                                    try clear hcz46_1
                                    try clear hcz46_2
                                    try clear hcz50_0
                                    try clear hcz50_1
                                    try clear hcz50_2
                                    try clear hcz53_0
                                    try clear hcz53_1
                                    try clear hcz53_2
                                    try clear hcz56_0
                                    try clear hcz56_1
                                    try clear hcz56_2
                                    try clear hcz60_0
                                    try clear hcz60_1
                                    try clear hcz60_2
                                    try clear hcz63_0
                                    try clear hcz63_1
                                    try clear hcz63_2
                                    try clear hcz66_0
                                    try clear hcz66_1
                                    try clear hcz66_2
                                    try clear hcz70_0
                                    try clear hcz70_1
                                    try clear hcz70_2
                                    try clear hcz73_0
                                    try clear hcz73_1
                                    try clear hcz73_2
                                    try clear hcz76_0
                                    try clear hcz76_1
                                    try clear hcz76_2
                                    try clear hcz80_0
                                    try clear hcz80_1
                                    try clear hcz80_2
                                    try clear hcz83_0
                                    try clear hcz83_1
                                    try clear hcz83_2
                                    try clear hcz90_0
                                    try clear hcz90_1
                                    try clear hcz90_2
                                    try clear hcz94_0
                                    try clear hcz94_1
                                    try clear hcz94_2
                                    try clear hcz97_0
                                    try clear hcz97_1
                                    try clear hcz97_2
                                    try clear hfz101_0
                                    try clear hfz101_1
                                    try clear hfz101_2
                                    try clear hfz104_0
                                    try clear hfz104_1
                                    try clear hfz104_2
                                    try clear hfz108_0
                                    try clear hfz108_1
                                    try clear hfz108_2
                                    try clear hfz111_0
                                    try clear hfz111_1
                                    try clear hfz111_2
                                    try clear hfz115_0
                                    try clear hfz115_1
                                    try clear hfz115_2
                                    try clear hfz118_0
                                    try clear hfz118_1
                                    try clear hfz118_2
                                    try clear hfz122_0
                                    try clear hfz122_1
                                    try clear hfz122_2
                                    try clear hfz125_0
                                    try clear hfz125_1
                                    try clear hfz125_2
                                    try clear hfz36_0
                                    try clear hfz36_1
                                    try clear hfz36_2
                                    try clear hfz40_0
                                    try clear hfz40_1
                                    try clear hfz40_2
                                    try clear hfz43_0
                                    try clear hfz43_1
                                    try clear hfz43_2
                                    try clear hfz46_0
                                    try clear hfz46_1
                                    try clear hfz46_2
                                    try clear hfz50_0
                                    try clear hfz50_1
                                    try clear hfz50_2
                                    try clear hfz53_0
                                    try clear hfz53_1
                                    try clear hfz53_2
                                    try clear hfz56_0
                                    try clear hfz56_1
                                    try clear hfz56_2
                                    try clear hfz60_0
                                    try clear hfz60_1
                                    try clear hfz60_2
                                    try clear hfz63_0
                                    try clear hfz63_1
                                    try clear hfz63_2
                                    try clear hfz66_0
                                    try clear hfz66_1
                                    try clear hfz66_2
                                    try clear hfz70_0
                                    try clear hfz70_1
                                    try clear hfz70_2
                                    try clear hfz73_0
                                    try clear hfz73_1
                                    try clear hfz73_2
                                    try clear hfz76_0
                                    try clear hfz76_1
                                    try clear hfz76_2
                                    try clear hfz80_0
                                    try clear hfz80_1
                                    try clear hfz80_2
                                    try clear hfz83_0
                                    try clear hfz83_1
                                    try clear hfz83_2
                                    try clear hfz90_0
                                    try clear hfz90_1
                                    try clear hfz90_2
                                    try clear hfz94_0
                                    try clear hfz94_1
                                    try clear hfz94_2
                                    try clear hfz97_0
                                    try clear hfz97_1
                                    try clear hfz97_2
                                    try clear hx116_0
                                    try clear hx116_1
                                    try clear hx116_2
                                    try clear hx129_0
                                    try clear p1
                                    try clear p11
                                    try clear p116
                                    try clear p12
                                    try clear p129
                                    try clear p2
                                    try clear p6
                                    try clear p64
                                    try clear q1
                                    try clear q11
                                    try clear q116
                                    try clear q12
                                    try clear q129
                                    obtain ⟨x13_5, x14_5, rfl, rfl, HA, HK5, HO_4, HB⟩ := hrel
                                    cases gk with
                                    | zero => exact absurd HA.out (by simp [valiselaw11_DeflateSums.l2])
                                    | succ k5 =>
                                      have H := HA.out
                                      clear HA
                                      simp only [valiselaw11_DeflateSums.l2] at H
                                      by_cases c143 : x14_5 < (wrap64 (x10_3 + (rd t111 x11_3)))
                                      · rw [if_pos c143] at H
                                        have c143b0 : decide (x14_5 < (wrap64 (x10_3 + (rd t111 x11_3)))) = true := decide_eq_true c143
                                        clear c143
                                        by_cases c144 : 0 ≤ x14_5
                                        · rw [if_pos c144] at H
                                          have c144b0 : decide (0 ≤ x14_5) = true := decide_eq_true c144
                                          clear c144
                                          by_cases c145 : x14_5 < (l0.length : Int)
                                          · rw [if_pos c145] at H
                                            have c145b0 : decide (x14_5 < (l0.length : Int)) = true := decide_eq_true c145
                                            clear c145
                                            obtain ⟨ji146, hji146⟩ : ∃ j_ : Int, (mx 1 ((rd_T47 l0 x14_5).f0)) = j_ := ⟨_, rfl⟩
                                            replace H : (valiselaw11_DeflateSums.l2 k5 l0 t111 x10_3 x11_3 (rd t111 x11_3) (wrap64 (x13_5 + (ji146))) (wrap64 (x14_5 + 1))) = some r := by first | (rw [hji146] at H; exact H) | (simp only [hji146] at H ⊢; exact H)
                                            have hji146_ : (if 1 < ((rd_T47 l0 x14_5).f0) then ((rd_T47 l0 x14_5).f0) else 1) = ji146 := hji146
                                            have H' := Aside0.mk H
                                            clear H
                                            have p130 : 0 ≤ (x14_5 : Int) := of_decide_eq_true (by first | (with_reducible assumption) | assumption)
                                            have q130 : x14_5 < (l0.length : Int) := of_decide_eq_true (by first | (with_reducible assumption) | assumption)
                                            obtain ⟨ad130, e130, hx130_0, hx130_1, hx130_2⟩ := at_T47 HR0.out x14_5 p130 q130
                                            cases e130
                                            replace hx130_0 := (HB.out.cell (World.block_lt_of_cell? w _ hx130_0)).trans hx130_0
                                            replace hx130_1 := (HB.out.cell (World.block_lt_of_cell? w _ hx130_1)).trans hx130_1
                                            replace hx130_2 := (HB.out.cell (World.block_lt_of_cell? w _ hx130_2)).trans hx130_2
                                            replace p130 := eq_true p130
                                            replace q130 := eq_true q130
                                            go_wp2
                                            go_roundg k5
                                            case measure => have := HK1.out; have := HJ125.out; have := HK3.out; have := HJ132.out; have := HK5.out; omega
                                            case rel => exact ⟨(wrap64 (x13_5 + (ji146))), (wrap64 (x14_5 + 1)), (by first | rfl | (simp; done) | (simp only [← hji146] <;> (first | rfl | simp)) | (simp [*]; done)), (by first | rfl | (simp; done) | (simp [*]; done)), H', ⟨by have := HK1.out; have := HJ125.out; have := HK3.out; have := HJ132.out; have := HK5.out; omega⟩, ⟨by (with_reducible repeat (first | apply Kd.R_alloc | apply Kd.R_drewN | apply Kd.R_drew)); exact HO_4.out⟩, ⟨by repeat (first | (with_reducible first | exact HB.out | apply below_alloc | apply pw_below_drewN | apply below_drew1) | exact HB.out)⟩⟩
                                          · rw [if_neg c145] at H
                                            exact absurd H (by simp)
                                        · rw [if_neg c144] at H
                                          exact absurd H (by simp)
                                      · rw [if_neg c143] at H
                                        have c143b0 : decide (x14_5 < (wrap64 (x10_3 + (rd t111 x11_3)))) = false := decide_eq_false c143
                                        clear c143
                                        by_cases c147 : x13_5 > 65535
                                        · rw [if_pos c147] at H
                                          have c147b0 : decide (65535 < x13_5) = true := decide_eq_true c147
                                          clear c147
                                          obtain rfl := Option.some.inj H
                                          go_wp2
                                          go_ret
                                          exact ⟨by first | rfl | (simp [errW_none, errW_some] <;> rfl) | (simp [*, errW_none, errW_some] <;> rfl), by repeat (first | (with_reducible first | exact HB.out | apply below_alloc | apply pw_below_drewN | apply below_drew1) | exact HB.out)⟩
                                        · rw [if_neg c147] at H
                                          have c147b0 : decide (65535 < x13_5) = false := decide_eq_false c147
                                          clear c147
                                          have H' := Aside0.mk H
                                          clear H
                                          go_wp2
                                          go_roundg k5
                                          case measure => have := HK1.out; have := HJ125.out; have := HK3.out; have := HJ132.out; have := HK5.out; omega
                                          case rel => exact ⟨(wrap64 (x10_3 + (rd t111 x11_3))), (wrap64 (x11_3 + 1)), (by first | rfl | (simp; done) | (simp [*]; done)), (by first | rfl | (simp; done) | (simp [*]; done)), H', ⟨by have := HK1.out; have := HJ125.out; have := HK3.out; have := HJ132.out; have := HK5.out; omega⟩, ⟨by (with_reducible repeat (first | apply Kd.R_alloc | apply Kd.R_drewN | apply Kd.R_drew)); exact HO_4.out⟩, ⟨by repeat (first | (with_reducible first | exact HB.out | apply below_alloc | apply pw_below_drewN | apply below_drew1) | exact HB.out)⟩⟩
                          · rw [if_neg c132] at H
                            exact absurd H (by simp)
                        · rw [if_neg c131] at H
                          have c131b0 : decide (x11_3 < (t111.length : Int)) = false := decide_eq_false c131
                          clear c131
                          obtain rfl := Option.some.inj H
                          obtain ⟨Ao148, co148, eo148⟩ := Kd.R_slice HO_4.out
                          subst eo148
                          go_wp2
                          go_ret
                          exact ⟨by first | rfl | (simp [errW_none, errW_some] <;> rfl) | (simp [*, errW_none, errW_some] <;> rfl), by repeat (first | (with_reducible first | exact HB.out | apply below_alloc | apply pw_below_drewN | apply below_drew1) | exact HB.out)⟩
    · rw [if_neg c3] at H
      exact absurd H (by simp)
  · rw [if_neg c2] at H
    exact absurd H (by simp)

end Go.Proofs.Ytpndhoefmepfdaa.PSu
