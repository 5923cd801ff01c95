-- WRITTEN BY myprint.py (this claim's own program, over the kit's printer): Lean checks it.
import Derived.Test.YtpndhoefmepfdaaDoorPSqx0
import Derived.Test.YtpndhoefmepfdaaDoorPSqx1
namespace Go.Proofs.YtpndhoefmepfdaaDoor.PSq
open Go.RowKit Go.Proofs.YtpndhoefmepfdaaDoorW.PrintWords Go.Proofs.YtpndhoefmepfdaaDoorW.PrintLast Go.Proofs.YtpndhoefmepfdaaDoorW.PrintMore
open Go.Proofs.YtpndhoefmepfdaaDoor.More Go.Proofs.YtpndhoefmepfdaaDoor.TS
attribute [local go_sem] max2_int min2_int max_two min_two max_three min_three max_four min_four   -- for this text's walks alone
set_option linter.unusedVariables false
set_option linter.unusedSimpArgs false

/-! ### valiselaw21_list: function 15 -/
def valiselaw21_list.f (l0 : List (S56)) : Option ((List (S56))) := if 0 ≤ (l0.length : Int) then (if ((l0.length : Int) : Int).toNat ≤ 11728124029610 then ((some (List.replicate ((l0.length : Int) : Int).toNat z56 : List (S56))).bind fun y101 => (some (l0.take (min l0.length y101.length) ++ y101.drop (min l0.length y101.length)))) else (none)) else (none)
set_option maxHeartbeats 8000000 in
set_option maxRecDepth 100000 in
theorem valiselaw21_list.calls (A0 : Option Addr) (c0 : Nat) (l0 : List (S56)) (r : List (S56)) (w : World) (hr0 : Kd.C k56 w A0 l0.length l0) (hc0 : l0.length ≤ c0) (h : valiselaw21_list.f l0 = some r) :
    Calls Tryd.prog 15 #[.slice A0 l0.length c0] w fun e w' => ∃ v0_ : Value, e = .returned (v0_) ∧ Kd.R k56 56 w' w.heap.size (fun _ => True) v0_ r ∧ Below w.heap.size w w' := by
  have HR0 := Aside0.mk hr0
  have HC0 := Aside0.mk hc0
  clear hr0 hc0
  have HB := Aside0.mk (Below.refl w.heap.size w)
  have H : (if 0 ≤ (l0.length : Int) then (if ((l0.length : Int) : Int).toNat ≤ 11728124029610 then ((some (List.replicate ((l0.length : Int) : Int).toNat z56 : List (S56))).bind fun y101 => (some (l0.take (min l0.length y101.length) ++ y101.drop (min l0.length y101.length)))) else (none)) else (none)) = some r := h
  clear h
  by_cases c2 : 0 ≤ (l0.length : Int)
  · rw [if_pos c2] at H
    have c2b0 := eq_true c2
    have c2b1 : decide (0 ≤ (l0.length : Int)) = true := decide_eq_true c2
    clear c2
    by_cases c3 : ((l0.length : Int) : Int).toNat ≤ 11728124029610
    · rw [if_pos c3] at H
      have c3b0 := eq_true c3
      have c3b1 : decide (((l0.length : Int) : Int).toNat ≤ 11728124029610) = true := decide_eq_true c3
      clear c3
      obtain ⟨y101, hy101⟩ : ∃ y_ : List (S56), y_ = (List.replicate ((l0.length : Int) : Int).toNat z56) := ⟨_, rfl⟩
      replace H : (some (l0.take (min l0.length y101.length) ++ y101.drop (min l0.length y101.length))) = some r := by first | (rw [hy101]; with_reducible exact H) | (have H2_ := (Option.bind_some _ _).symm.trans H; rw [hy101]; with_reducible exact H2_) | (have H2_ := (Option.bind_some _ _).symm.trans H; with_reducible exact H2_) | with_reducible exact H | (rw [hy101]; exact H) | exact H
      have Ny101 := Aside0.mk hy101
      clear hy101
      obtain ⟨y104, hy104⟩ : ∃ y_ : List (S56), y_ = (l0.take (min l0.length y101.length) ++ y101.drop (min l0.length y101.length)) := ⟨_, rfl⟩
      replace H : (some y104) = some r := by first | (rw [hy104]; with_reducible exact H) | (have H2_ := (Option.bind_some _ _).symm.trans H; rw [hy104]; with_reducible exact H2_) | (have H2_ := (Option.bind_some _ _).symm.trans H; with_reducible exact H2_) | with_reducible exact H | (rw [hy104]; exact H) | exact H
      have Ny104 := Aside0.mk hy104
      clear hy104
      obtain rfl := Option.some.inj H
      go_enter Tryd.func15, Tryd.ntmps15
      go_wp2_with (first | ((with_reducible refine gate_dst (N := 6) rfl ?_); refine Kd.R_make k56 _ 56 rfl (N := 6) rfl 35 _ _ rfl (l0.length : Int) rfl rfl Tryd.underlying35 (.agg #[(.int .i64 0), (.int .i64 0), (.int .u8 0)]) 24 info56 rfl (by decide) (by omega) z56 (ok := fun _ => True) (okp := fun _ => True) (k56_mkM _ _ _ z56 ) (fun _ hk => hk) trivial (of_decide_eq_true (by first | (with_reducible assumption) | assumption)) (Nat.le_trans (Nat.mul_le_mul_right _ (of_decide_eq_true (by first | (with_reducible assumption) | assumption) : (l0.length : Int).toNat ≤ 11728124029610)) (by omega)) (Below.refl _ _) (Nat.le_refl _) ?_; intro v102 w4 ho5 hb hg_ hnew_; clear hg_ hnew_; (first | rw [← Ny101.out] at ho5 | (simp only [Int.reduceToNat] at ho5; rw [← Ny101.out] at ho5)); have n0_ := Aside0.mk (Kd.R_lower ho5 (below_size (by repeat (first | (with_reducible first | exact HB.out | apply below_alloc | apply pw_below_drewN | apply below_drew1) | exact HB.out)))); have n1_ := Aside0.mk (below_step (by repeat (first | (with_reducible first | exact HB.out | apply below_alloc | apply pw_below_drewN | apply below_drew1) | exact HB.out)) hb); clear HB; have HO103 := n0_; have HB := n1_; clear n0_ n1_; clear hb ho5) | ((with_reducible refine gate_builtin (b := .copy) (xs := #[.tmp 7, .tmp 8]) rfl ?_); refine R_copyF (P := Tryd.prog) k56 (fun _ x_ _ w_ b_ o_ hk_ => by obtain rfl := k56_open hk_; exact k56_mkM w_ b_ o_ x_) (w0 := w) w.heap.size rfl (.tmp 7) (.tmp 8) 35 35 rfl Tryd.underlying35 (size_of_info info56) (by decide) v102 y101 l0 A0 l0.length c0 (fun _ => True) rfl rfl ?aO ?aR ?aB ?aS ?_; (case aR => repeat (first | exact (Kd.C_below HR0.out HB.out) | (with_reducible refine Kd.C_alloc ?_ _) | (with_reducible refine Kd.C_drewN ?_ _) | (with_reducible refine Kd.C_drew ?_))); (case aB => exact (by repeat (first | (with_reducible first | exact HB.out | apply below_alloc | apply pw_below_drewN | apply below_drew1) | exact HB.out))); (case aO => exact (by (with_reducible repeat (first | apply Kd.R_alloc | apply Kd.R_drewN | apply Kd.R_drew)); exact HO103.out)); (case aS => exact (below_size (by repeat (first | (with_reducible first | exact HB.out | apply below_alloc | apply pw_below_drewN | apply below_drew1) | exact HB.out)))); intro w6 ho hb hg; have hat : ∀ {q_ : Prop}, (v102 : Value).ownBlock = (v102 : Value).ownBlock ∨ q_ := .inl rfl; rw [← Ny104.out] at ho; have n0_ := Aside0.mk (hb); have n1_ := Aside0.mk (ho); clear HB; clear HO103; have HB := n0_; have HO106 := n1_; clear n0_ n1_; clear ho hb hg hat))
      go_ret
      exact ⟨_, by first | rfl | (simp [errW_none, errW_some] <;> rfl) | (simp [*, errW_none, errW_some] <;> rfl), by (with_reducible repeat (first | apply Kd.R_alloc | apply Kd.R_drewN | apply Kd.R_drew)); exact HO106.out, by repeat (first | (with_reducible first | exact HB.out | apply below_alloc | apply pw_below_drewN | apply below_drew1) | exact HB.out)⟩
    · rw [if_neg c3] at H
      exact absurd H (by simp)
  · rw [if_neg c2] at H
    exact absurd H (by simp)

/-! ### valiselaw21_ints: function 16 -/
def valiselaw21_ints.f (l0 : List Int) : Option (List Int) := if 0 ≤ (l0.length : Int) then (if ((l0.length : Int) : Int).toNat ≤ 35184372088832 then ((some (List.replicate ((l0.length : Int) : Int).toNat 0 : List Int)).bind fun y107 => (some (l0.take (min l0.length y107.length) ++ y107.drop (min l0.length y107.length)))) else (none)) else (none)
set_option maxHeartbeats 8000000 in
set_option maxRecDepth 100000 in
theorem valiselaw21_ints.calls (A0 : Option Addr) (c0 : Nat) (l0 : List Int) (r : List Int) (w : World) (hr0 : Kd.C (Kd.int .i64) w A0 l0.length l0) (hc0 : l0.length ≤ c0) (h : valiselaw21_ints.f l0 = some r) :
    Calls Tryd.prog 16 #[.slice A0 l0.length c0] w fun e w' => ∃ v0_ : Value, e = .returned (v0_) ∧ Kd.R (Kd.int .i64) 3 w' w.heap.size (fun _ => True) v0_ r ∧ Below w.heap.size w w' := by
  have HR0 := Aside0.mk hr0
  have HC0 := Aside0.mk hc0
  clear hr0 hc0
  have HB := Aside0.mk (Below.refl w.heap.size w)
  have H : (if 0 ≤ (l0.length : Int) then (if ((l0.length : Int) : Int).toNat ≤ 35184372088832 then ((some (List.replicate ((l0.length : Int) : Int).toNat 0 : List Int)).bind fun y107 => (some (l0.take (min l0.length y107.length) ++ y107.drop (min l0.length y107.length)))) else (none)) else (none)) = some r := h
  clear h
  by_cases c2 : 0 ≤ (l0.length : Int)
  · rw [if_pos c2] at H
    have c2b0 := eq_true c2
    have c2b1 : decide (0 ≤ (l0.length : Int)) = true := decide_eq_true c2
    clear c2
    by_cases c3 : ((l0.length : Int) : Int).toNat ≤ 35184372088832
    · rw [if_pos c3] at H
      have c3b0 := eq_true c3
      have c3b1 : decide (((l0.length : Int) : Int).toNat ≤ 35184372088832) = true := decide_eq_true c3
      clear c3
      obtain ⟨y107, hy107⟩ : ∃ y_ : List Int, y_ = (List.replicate ((l0.length : Int) : Int).toNat 0) := ⟨_, rfl⟩
      replace H : (some (l0.take (min l0.length y107.length) ++ y107.drop (min l0.length y107.length))) = some r := by first | (rw [hy107]; with_reducible exact H) | (have H2_ := (Option.bind_some _ _).symm.trans H; rw [hy107]; with_reducible exact H2_) | (have H2_ := (Option.bind_some _ _).symm.trans H; with_reducible exact H2_) | with_reducible exact H | (rw [hy107]; exact H) | exact H
      have Ny107 := Aside0.mk hy107
      clear hy107
      obtain ⟨y110, hy110⟩ : ∃ y_ : List Int, y_ = (l0.take (min l0.length y107.length) ++ y107.drop (min l0.length y107.length)) := ⟨_, rfl⟩
      replace H : (some y110) = some r := by first | (rw [hy110]; with_reducible exact H) | (have H2_ := (Option.bind_some _ _).symm.trans H; rw [hy110]; with_reducible exact H2_) | (have H2_ := (Option.bind_some _ _).symm.trans H; with_reducible exact H2_) | with_reducible exact H | (rw [hy110]; exact H) | exact H
      have Ny110 := Aside0.mk hy110
      clear hy110
      obtain rfl := Option.some.inj H
      go_enter Tryd.func16, Tryd.ntmps16
      go_wp2_with (first | ((with_reducible refine gate_dst (N := 6) rfl ?_); refine Kd.R_make (Kd.int .i64) _ 3 rfl (N := 6) rfl 36 _ _ rfl (l0.length : Int) rfl rfl Tryd.underlying36 (.int .i64 0) 8 info3 rfl (by decide) (by omega) 0 (ok := fun _ => True) (okp := fun _ => True) rfl (fun _ hk => hk) trivial (of_decide_eq_true (by first | (with_reducible assumption) | assumption)) (Nat.le_trans (Nat.mul_le_mul_right _ (of_decide_eq_true (by first | (with_reducible assumption) | assumption) : (l0.length : Int).toNat ≤ 35184372088832)) (by omega)) (Below.refl _ _) (Nat.le_refl _) ?_; intro v108 w4 ho5 hb hg_ hnew_; clear hg_ hnew_; (first | rw [← Ny107.out] at ho5 | (simp only [Int.reduceToNat] at ho5; rw [← Ny107.out] at ho5)); have n0_ := Aside0.mk (Kd.R_lower ho5 (below_size (by repeat (first | (with_reducible first | exact HB.out | apply below_alloc | apply pw_below_drewN | apply below_drew1) | exact HB.out)))); have n1_ := Aside0.mk (below_step (by repeat (first | (with_reducible first | exact HB.out | apply below_alloc | apply pw_below_drewN | apply below_drew1) | exact HB.out)) hb); clear HB; have HO109 := n0_; have HB := n1_; clear n0_ n1_; clear hb ho5) | ((with_reducible refine gate_builtin (b := .copy) (xs := #[.tmp 7, .tmp 8]) rfl ?_); refine R_copyF (P := Tryd.prog) (Kd.int .i64) (flat_int .i64) (w0 := w) w.heap.size rfl (.tmp 7) (.tmp 8) 36 36 rfl Tryd.underlying36 (size_of_info info3) (by decide) v108 y107 l0 A0 l0.length c0 (fun _ => True) rfl rfl ?aO ?aR ?aB ?aS ?_; (case aR => repeat (first | exact (Kd.C_below HR0.out HB.out) | (with_reducible refine Kd.C_alloc ?_ _) | (with_reducible refine Kd.C_drewN ?_ _) | (with_reducible refine Kd.C_drew ?_))); (case aB => exact (by repeat (first | (with_reducible first | exact HB.out | apply below_alloc | apply pw_below_drewN | apply below_drew1) | exact HB.out))); (case aO => exact (by (with_reducible repeat (first | apply Kd.R_alloc | apply Kd.R_drewN | apply Kd.R_drew)); exact HO109.out)); (case aS => exact (below_size (by repeat (first | (with_reducible first | exact HB.out | apply below_alloc | apply pw_below_drewN | apply below_drew1) | exact HB.out)))); intro w6 ho hb hg; have hat : ∀ {q_ : Prop}, (v108 : Value).ownBlock = (v108 : Value).ownBlock ∨ q_ := .inl rfl; rw [← Ny110.out] at ho; have n0_ := Aside0.mk (hb); have n1_ := Aside0.mk (ho); clear HB; clear HO109; have HB := n0_; have HO112 := n1_; clear n0_ n1_; clear ho hb hg hat))
      go_ret
      exact ⟨_, by first | rfl | (simp [errW_none, errW_some] <;> rfl) | (simp [*, errW_none, errW_some] <;> rfl), by (with_reducible repeat (first | apply Kd.R_alloc | apply Kd.R_drewN | apply Kd.R_drew)); exact HO112.out, by repeat (first | (with_reducible first | exact HB.out | apply below_alloc | apply pw_below_drewN | apply below_drew1) | exact HB.out)⟩
    · rw [if_neg c3] at H
      exact absurd H (by simp)
  · rw [if_neg c2] at H
    exact absurd H (by simp)

/-! ### squeeze_fair: function 33 -/
/-! ### squeeze_fair, by hand: both lists have their lengths, and each price lies in 1 .. 65536 -/
def squeeze_fair.ok (l : List Int) : Bool := l.all fun p => decide (1 ≤ p) && decide (p ≤ 65536)
def squeeze_fair.g (l0 l1 : List Int) : Bool := l0.length == 286 && l1.length == 30 && squeeze_fair.ok l0 && squeeze_fair.ok l1
def squeeze_fair.f (l0 : List Int) (l1 : List Int) : Option (Bool) := some (squeeze_fair.g l0 l1)
theorem squeeze_fair.ok_of (l : List Int) (h : ∀ i : Int, 0 ≤ i → i < (l.length : Int) → 1 ≤ rd l i ∧ rd l i ≤ 65536) : squeeze_fair.ok l = true := by
  unfold squeeze_fair.ok
  rw [List.all_eq_true]
  intro x hx
  obtain ⟨j, hj, rfl⟩ := List.getElem_of_mem hx
  have := h (j : Int) (by omega) (by omega)
  unfold rd at this
  simp only [Int.toNat_natCast, List.getD_eq_getElem?_getD, List.getElem?_eq_getElem hj, Option.getD_some] at this
  simp [this.1, this.2]
theorem squeeze_fair.not_of (l : List Int) (i : Int) (h0 : 0 ≤ i) (h1 : i < (l.length : Int)) (h : rd l i < 1 ∨ 65536 < rd l i) : squeeze_fair.ok l = false := by
  cases hk : squeeze_fair.ok l with
  | false => rfl
  | true =>
    unfold squeeze_fair.ok at hk
    rw [List.all_eq_true] at hk
    have hj : i.toNat < l.length := by omega
    have := hk _ (List.getElem_mem hj)
    unfold rd at h
    simp only [List.getD_eq_getElem?_getD, List.getElem?_eq_getElem hj, Option.getD_some] at h
    simp at this
    omega
def squeeze_fair.nth (l0 l1 : List Int) (j : Nat) : List Int := if j = 0 then l0 else l1
set_option maxHeartbeats 8000000 in
set_option maxRecDepth 100000 in
theorem squeeze_fair.calls (A0 : Option Addr) (c0 : Nat) (l0 : List Int) (A1 : Option Addr) (c1 : Nat) (l1 : List Int) (r : Bool) (w : World) (hr0 : Kd.C (Kd.int .i64) w A0 l0.length l0) (hc0 : l0.length ≤ c0) (hr1 : Kd.C (Kd.int .i64) w A1 l1.length l1) (hc1 : l1.length ≤ c1) (h : squeeze_fair.f l0 l1 = some r) :
    Calls Tryd.prog 33 #[.slice A0 l0.length c0, .slice A1 l1.length c1] w fun e w' => e = .returned (.bool r) ∧ Drawn0 w w' := by
  obtain rfl : squeeze_fair.g l0 l1 = r := Option.some.inj h
  have HR0 := Aside0.mk hr0
  have HR1 := Aside0.mk hr1
  clear h hr0 hr1 hc0 hc1
  by_cases h1 : l0.length = 286
  · by_cases h2 : l1.length = 30
    · have b1 : ((l0.length : Int) != 286) = false := by rw [h1]; rfl
      have b2 : ((l1.length : Int) != 30) = false := by rw [h2]; rfl
      have HG := Aside0.mk (show squeeze_fair.g l0 l1 = (squeeze_fair.ok l0 && squeeze_fair.ok l1) by unfold squeeze_fair.g; rw [h1, h2]; simp)
      have LN := Aside0.mk (show l0.length ≤ 286 ∧ l1.length ≤ 286 by omega)
      clear h1 h2
      have i0 : ∀ w : World, (Instr.index 88 (.agg #[.slice A0 l0.length c0, .slice A1 l1.length c1]) (.int .i64 0)).run Tryd.prog w = .ok (.slice A0 l0.length c0) w := fun _ => by kernel_rfl
      have i1 : ∀ w : World, (Instr.index 88 (.agg #[.slice A0 l0.length c0, .slice A1 l1.length c1]) (.int .i64 1)).run Tryd.prog w = .ok (.slice A1 l1.length c1) w := fun _ => by kernel_rfl
      go_enter Tryd.func33, Tryd.ntmps33
      go_wp2
      go_loopg [20] 3 (fun kq v20 w' => ∃ (j : Nat), v20 = .int .i64 (j : Int) ∧ Aside0 (j + kq = 3 ∧ j ≤ 2 ∧ (1 ≤ j → squeeze_fair.ok l0 = true) ∧ (2 ≤ j → squeeze_fair.ok l1 = true)) ∧ Drawn0 w w')
      case atStart => exact ⟨0, rfl, ⟨⟨by omega, by omega, fun h => absurd h (by omega), fun h => absurd h (by omega)⟩⟩, by repeat (first | exact Drawn0.refl _ | apply Drawn0.step)⟩
      case round =>
        obtain ⟨j, rfl, HJ, ⟨m0, rfl⟩⟩ := hrel
        rcases j with _ | _ | _ | j
        · obtain ⟨k1, rfl⟩ : ∃ k1, gk = k1 + 1 := ⟨gk - 1, by have := HJ.out.1; omega⟩
          have HJ' := Aside0.mk (show k1 = 2 by have := HJ.out.1; omega)
          clear HJ
          go_wp2
          go_loopg [25] (l0.length + 1) (fun kq v25 w' => ∃ (i : Int), v25 = .int .i64 i ∧ Aside0 (0 ≤ i ∧ i ≤ (l0.length : Int) ∧ kq = ((l0.length : Int) - i).toNat + 1 ∧ ∀ m : Int, 0 ≤ m → m < i → 1 ≤ rd l0 m ∧ rd l0 m ≤ 65536) ∧ Drawn0 w w')
          case atStart => exact ⟨0, rfl, ⟨⟨by omega, by omega, by omega, fun m h0 h1 => by omega⟩⟩, by repeat (first | exact Drawn0.refl _ | apply Drawn0.step)⟩
          case round =>
            obtain ⟨i, rfl, HA, ⟨m1, rfl⟩⟩ := hrel
            cases gk with
            | zero => exact absurd HA.out.2.2.1 (by omega)
            | succ k2 =>
              have h0 := HA.out.1
              by_cases c8 : i < (l0.length : Int)
              · have c8b0 : decide (i < (l0.length : Int)) = true := decide_eq_true c8
                obtain ⟨ad1, e1, hx1⟩ := Kd.at_int HR0.out i h0 c8
                cases e1
                obtain ⟨p, hp⟩ : ∃ p : Int, rd l0 i = p := ⟨_, rfl⟩
                rw [hp] at hx1
                have HP := Aside0.mk hp
                by_cases c9 : p < 1
                · have HF := Aside0.mk (show squeeze_fair.g l0 l1 = false by rw [HG.out, squeeze_fair.not_of l0 i h0 c8 (.inl (by rw [hp]; exact c9))]; simp)
                  have c9b : decide (p < 1) = true := decide_eq_true c9
                  replace h0 := eq_true h0
                  replace c8 := eq_true c8
                  clear HA c9 hp
                  go_wp2
                  go_ret
                  exact ⟨by rw [HF.out]; rfl, by repeat (first | exact Drawn0.refl _ | apply Drawn0.step)⟩
                · by_cases c10 : 65536 < p
                  · have HF := Aside0.mk (show squeeze_fair.g l0 l1 = false by rw [HG.out, squeeze_fair.not_of l0 i h0 c8 (.inr (by rw [hp]; exact c10))]; simp)
                    have c9b : decide (p < 1) = false := decide_eq_false c9
                    have c10b : decide (65536 < p) = true := decide_eq_true c10
                    replace h0 := eq_true h0
                    replace c8 := eq_true c8
                    clear HA c9 c10 hp
                    go_wp2
                    go_ret
                    exact ⟨by rw [HF.out]; rfl, by repeat (first | exact Drawn0.refl _ | apply Drawn0.step)⟩
                  · have HW := Aside0.mk (show wrap64 (i + 1) = i + 1 by have h := LN.out; unfold wrap64; omega)
                    have HA' := Aside0.mk (show 0 ≤ i + 1 ∧ i + 1 ≤ (l0.length : Int) ∧ k2 = ((l0.length : Int) - (i + 1)).toNat + 1 ∧ ∀ m : Int, 0 ≤ m → m < i + 1 → 1 ≤ rd l0 m ∧ rd l0 m ≤ 65536 by
                      have h := HA.out
                      refine ⟨by omega, by omega, by omega, fun m hm0 hm1 => ?_⟩
                      by_cases hmi : m = i
                      · subst hmi; rw [hp]; omega
                      · exact h.2.2.2 m hm0 (by omega))
                    have c9b : decide (p < 1) = false := decide_eq_false c9
                    have c10b : decide (65536 < p) = false := decide_eq_false c10
                    replace h0 := eq_true h0
                    replace c8 := eq_true c8
                    clear HA c9 c10 hp
                    go_wp2
                    go_roundg k2
                    case measure => omega
                    case rel => exact ⟨wrap64 (i + 1), (by first | rfl | (simp; done) | (simp [*]; done)), ⟨by rw [HW.out]; exact HA'.out⟩, by repeat (first | exact Drawn0.refl _ | apply Drawn0.step)⟩
              · have c8b0 : decide (i < (l0.length : Int)) = false := decide_eq_false c8
                have HK := Aside0.mk (show squeeze_fair.ok l0 = true from squeeze_fair.ok_of l0 (fun m h0 h1 => HA.out.2.2.2 m h0 (by omega)))
                clear HA h0 c8
                go_wp2
                go_roundg k1
                case measure => omega
                case rel => exact ⟨1, rfl, ⟨⟨by have := HJ'.out; omega, by omega, fun _ => HK.out, fun h => absurd h (by omega)⟩⟩, by repeat (first | exact Drawn0.refl _ | apply Drawn0.step)⟩

        · obtain ⟨k1, rfl⟩ : ∃ k1, gk = k1 + 1 := ⟨gk - 1, by have := HJ.out.1; omega⟩
          have HJ' := Aside0.mk (show k1 = 1 by have := HJ.out.1; omega)
          have HK0 := Aside0.mk (HJ.out.2.2.1 (by omega))
          clear HJ
          go_wp2
          go_loopg [25] (l1.length + 1) (fun kq v25 w' => ∃ (i : Int), v25 = .int .i64 i ∧ Aside0 (0 ≤ i ∧ i ≤ (l1.length : Int) ∧ kq = ((l1.length : Int) - i).toNat + 1 ∧ ∀ m : Int, 0 ≤ m → m < i → 1 ≤ rd l1 m ∧ rd l1 m ≤ 65536) ∧ Drawn0 w w')
          case atStart => exact ⟨0, rfl, ⟨⟨by omega, by omega, by omega, fun m h0 h1 => by omega⟩⟩, by repeat (first | exact Drawn0.refl _ | apply Drawn0.step)⟩
          case round =>
            obtain ⟨i, rfl, HA, ⟨m1, rfl⟩⟩ := hrel
            cases gk with
            | zero => exact absurd HA.out.2.2.1 (by omega)
            | succ k2 =>
              have h0 := HA.out.1
              by_cases c8 : i < (l1.length : Int)
              · have c8b0 : decide (i < (l1.length : Int)) = true := decide_eq_true c8
                obtain ⟨ad1, e1, hx1⟩ := Kd.at_int HR1.out i h0 c8
                cases e1
                obtain ⟨p, hp⟩ : ∃ p : Int, rd l1 i = p := ⟨_, rfl⟩
                rw [hp] at hx1
                have HP := Aside0.mk hp
                by_cases c9 : p < 1
                · have HF := Aside0.mk (show squeeze_fair.g l0 l1 = false by rw [HG.out, squeeze_fair.not_of l1 i h0 c8 (.inl (by rw [hp]; exact c9))]; simp)
                  have c9b : decide (p < 1) = true := decide_eq_true c9
                  replace h0 := eq_true h0
                  replace c8 := eq_true c8
                  clear HA c9 hp
                  go_wp2
                  go_ret
                  exact ⟨by rw [HF.out]; rfl, by repeat (first | exact Drawn0.refl _ | apply Drawn0.step)⟩
                · by_cases c10 : 65536 < p
                  · have HF := Aside0.mk (show squeeze_fair.g l0 l1 = false by rw [HG.out, squeeze_fair.not_of l1 i h0 c8 (.inr (by rw [hp]; exact c10))]; simp)
                    have c9b : decide (p < 1) = false := decide_eq_false c9
                    have c10b : decide (65536 < p) = true := decide_eq_true c10
                    replace h0 := eq_true h0
                    replace c8 := eq_true c8
                    clear HA c9 c10 hp
                    go_wp2
                    go_ret
                    exact ⟨by rw [HF.out]; rfl, by repeat (first | exact Drawn0.refl _ | apply Drawn0.step)⟩
                  · have HW := Aside0.mk (show wrap64 (i + 1) = i + 1 by have h := LN.out; unfold wrap64; omega)
                    have HA' := Aside0.mk (show 0 ≤ i + 1 ∧ i + 1 ≤ (l1.length : Int) ∧ k2 = ((l1.length : Int) - (i + 1)).toNat + 1 ∧ ∀ m : Int, 0 ≤ m → m < i + 1 → 1 ≤ rd l1 m ∧ rd l1 m ≤ 65536 by
                      have h := HA.out
                      refine ⟨by omega, by omega, by omega, fun m hm0 hm1 => ?_⟩
                      by_cases hmi : m = i
                      · subst hmi; rw [hp]; omega
                      · exact h.2.2.2 m hm0 (by omega))
                    have c9b : decide (p < 1) = false := decide_eq_false c9
                    have c10b : decide (65536 < p) = false := decide_eq_false c10
                    replace h0 := eq_true h0
                    replace c8 := eq_true c8
                    clear HA c9 c10 hp
                    go_wp2
                    go_roundg k2
                    case measure => omega
                    case rel => exact ⟨wrap64 (i + 1), (by first | rfl | (simp; done) | (simp [*]; done)), ⟨by rw [HW.out]; exact HA'.out⟩, by repeat (first | exact Drawn0.refl _ | apply Drawn0.step)⟩
              · have c8b0 : decide (i < (l1.length : Int)) = false := decide_eq_false c8
                have HK := Aside0.mk (show squeeze_fair.ok l1 = true from squeeze_fair.ok_of l1 (fun m h0 h1 => HA.out.2.2.2 m h0 (by omega)))
                clear HA h0 c8
                go_wp2
                go_roundg k1
                case measure => omega
                case rel => exact ⟨2, rfl, ⟨⟨by have := HJ'.out; omega, by omega, fun _ => HK0.out, fun _ => HK.out⟩⟩, by repeat (first | exact Drawn0.refl _ | apply Drawn0.step)⟩

        · have HF := Aside0.mk (show squeeze_fair.g l0 l1 = true by rw [HG.out, HJ.out.2.2.1 (by omega), HJ.out.2.2.2 (by omega)]; rfl)
          clear HJ
          go_wp2
          go_ret
          exact ⟨by rw [HF.out]; rfl, by repeat (first | exact Drawn0.refl _ | apply Drawn0.step)⟩
        · exact absurd HJ.out.2.1 (by omega)
    · have b1 : ((l0.length : Int) != 286) = false := by rw [h1]; rfl
      have b2 : ((l1.length : Int) != 30) = true := by rw [bne_iff_ne]; omega
      have HF := Aside0.mk (show squeeze_fair.g l0 l1 = false by unfold squeeze_fair.g; rw [show (l1.length == 30) = false from by rw [beq_eq_false_iff_ne]; exact h2]; simp)
      clear h1 h2
      go_enter Tryd.func33, Tryd.ntmps33
      go_wp2
      go_ret
      exact ⟨by rw [HF.out]; rfl, by repeat (first | exact Drawn0.refl _ | apply Drawn0.step)⟩
  · have b1 : ((l0.length : Int) != 286) = true := by rw [bne_iff_ne]; omega
    have HF := Aside0.mk (show squeeze_fair.g l0 l1 = false by unfold squeeze_fair.g; rw [show (l0.length == 286) = false from by rw [beq_eq_false_iff_ne]; exact h1]; simp)
    clear h1
    go_enter Tryd.func33, Tryd.ntmps33
    go_wp2
    go_ret
    exact ⟨by rw [HF.out]; rfl, by repeat (first | exact Drawn0.refl _ | apply Drawn0.step)⟩

/-! ### block_LengthSymbol: function 34 -/
mutual
def block_LengthSymbol.j0 : Nat → Int → Bool → Option (Int × Int × Int × Int)
  | 0, _, _ => none
  | k + 1, x0, x12 => if x12 = true then (some (0, 0, 0, 1)) else (block_LengthSymbol.l0 k x0 28)
def block_LengthSymbol.l0 : Nat → Int → Int → Option (Int × Int × Int × Int)
  | 0, _, _ => none
  | k + 1, x0, x6 => if 0 ≤ x6 then (if x6 < 29 then (if (rd tab2 x6) > x0 then (block_LengthSymbol.l0 k x0 (wrap64 (x6 - 1))) else (some (wrap64 (257 + x6), rd tab3 x6, wrap64 (x0 - (rd tab2 x6)), 0))) else (none)) else (none)
end
def block_LengthSymbol.f (k : Nat) (a0 : Int) : Option (Int × Int × Int × Int) := if a0 < 3 then (block_LengthSymbol.j0 k a0 true) else (block_LengthSymbol.j0 k a0 (decide (a0 > 258)))
theorem block_LengthSymbol.mono_l : ∀ k, (∀ y0 y1, LeO (block_LengthSymbol.j0 k y0 y1) (block_LengthSymbol.j0 (k + 1) y0 y1)) ∧ (∀ y0 y1, LeO (block_LengthSymbol.l0 k y0 y1) (block_LengthSymbol.l0 (k + 1) y0 y1))
  | 0 => ⟨fun _ _ r h => by simp [block_LengthSymbol.j0] at h, fun _ _ r h => by simp [block_LengthSymbol.l0] at h⟩
  | k + 1 => by
    obtain ⟨ih0, ih1⟩ := block_LengthSymbol.mono_l k
    refine ⟨?_, ?_⟩
    · intro y0 y1
      unfold block_LengthSymbol.j0
      repeat' first
      | (with_reducible exact ih0 _ _)
      | (with_reducible exact ih1 _ _)
      | (with_reducible exact LeO.refl _)
      | (with_reducible exact LeO.none _)
      | (with_reducible refine LeO.ite ?_ ?_)
      | (with_reducible refine LeO.bind ?_ (fun _ => ?_))
      | exact ih0 _ _
      | exact ih1 _ _
      | exact LeO.none _
      | refine LeO.ite ?_ ?_
      | refine LeO.bind ?_ (fun _ => ?_)
    · intro y0 y1
      unfold block_LengthSymbol.l0
      repeat' first
      | (with_reducible exact ih0 _ _)
      | (with_reducible exact ih1 _ _)
      | (with_reducible exact LeO.refl _)
      | (with_reducible exact LeO.none _)
      | (with_reducible refine LeO.ite ?_ ?_)
      | (with_reducible refine LeO.bind ?_ (fun _ => ?_))
      | exact ih0 _ _
      | exact ih1 _ _
      | exact LeO.none _
      | refine LeO.ite ?_ ?_
      | refine LeO.bind ?_ (fun _ => ?_)
theorem block_LengthSymbol.mono : ∀ a0 k, LeO (block_LengthSymbol.f k a0) (block_LengthSymbol.f (k + 1) a0) := by
  intro a0 k
  obtain ⟨ih0, ih1⟩ := block_LengthSymbol.mono_l k
  unfold block_LengthSymbol.f
  repeat' first
      | (with_reducible exact ih0 _ _)
      | (with_reducible exact ih1 _ _)
      | (with_reducible exact LeO.refl _)
      | (with_reducible exact LeO.none _)
      | (with_reducible refine LeO.ite ?_ ?_)
      | (with_reducible refine LeO.bind ?_ (fun _ => ?_))
      | exact ih0 _ _
      | exact ih1 _ _
      | exact LeO.none _
      | refine LeO.ite ?_ ?_
      | refine LeO.bind ?_ (fun _ => ?_)
set_option maxHeartbeats 8000000 in
set_option maxRecDepth 100000 in
theorem block_LengthSymbol.calls (k : Nat) (a0 : Int) (r1 : Int) (r2 : Int) (r3 : Int) (r4 : Int) (w : World) (hG : Tabs w) (h : block_LengthSymbol.f k a0 = some (r1, r2, r3, r4)) :
    Calls Tryd.prog 34 #[.int .i64 a0] w fun e w' => e = .returned (.tuple #[.int .i64 r1, .int .i64 r2, .int .i64 r3, .int .i64 r4]) ∧ Drawn0 w w' := by
  have HG := Aside0.mk hG
  clear hG
  have HRtab2 := Aside0.mk (Tabs.tab2 HG.out)
  have HRtab3 := Aside0.mk (Tabs.tab3 HG.out)
  have H : (if a0 < 3 then (block_LengthSymbol.j0 k a0 true) else (block_LengthSymbol.j0 k a0 (decide (a0 > 258)))) = some (r1, r2, r3, r4) := h
  clear h
  have HC2 := Aside0.mk H
  clear H
  go_enter Tryd.func34, Tryd.ntmps34
  go_upto_region 1 with (fail)
  repeat (go_quiet (fail); go_upto_region 1 with (fail))
  go_cut [12] (fun v12 wc => ∃ (kq : Nat) (x12_1 : Bool), v12 = .bool x12_1 ∧ Aside0 (block_LengthSymbol.j0 kq a0 x12_1 = some (r1, r2, r3, r4)) ∧ Aside0 (kq ≤ k) ∧ Drawn0 w wc)
  case first =>
    have H := HC2.out
    clear HC2
    by_cases c3 : a0 < 3
    · rw [if_pos c3] at H
      have c3b0 : decide (a0 < 3) = true := decide_eq_true c3
      clear c3
      (first | rw [c3b0] | (simp only [i64_w, i32_w]; rw [c3b0]) | skip)
      have H' := Aside0.mk H
      clear H
      go_wp2
      repeat (go_quiet (fail); try go_wp2)
      go_meet
      case rel => exact ⟨_, (true), (by first | rfl | (simp; done) | (simp [*]; done)), H', ⟨by first | omega | exact Nat.le_refl _⟩, by repeat (first | exact Drawn0.refl _ | apply Drawn0.step)⟩
    · rw [if_neg c3] at H
      have c3b0 : decide (a0 < 3) = false := decide_eq_false c3
      clear c3
      (first | rw [c3b0] | (simp only [i64_w, i32_w]; rw [c3b0]) | skip)
      have H' := Aside0.mk H
      clear H
      go_wp2
      repeat (go_quiet (fail); try go_wp2)
      go_meet
      case rel => exact ⟨_, (decide (a0 > 258)), (by first | rfl | (simp; done) | (simp [*]; done)), H', ⟨by first | omega | exact Nat.le_refl _⟩, by repeat (first | exact Drawn0.refl _ | apply Drawn0.step)⟩
  case rest =>
    clear HC2
    try clear p2
    try clear c3
    try clear c3b0
    obtain ⟨kq, x12_1, rfl, HA, HJ1, ⟨mc1, rfl⟩⟩ := hcut
    cases kq with
    | zero => exact absurd HA.out (by simp [block_LengthSymbol.j0])
    | succ kj1 =>
      have H := HA.out
      clear HA
      simp only [block_LengthSymbol.j0] at H
      by_cases c4 : x12_1 = true
      · subst c4
        have H1 : (some (0, 0, 0, 1)) = some (r1, r2, r3, r4) := by rw [if_pos rfl] at H; exact H
        clear H
        have H := H1
        clear H1
        simp only [Option.some.injEq, Prod.mk.injEq] at H
        obtain ⟨rfl, rfl, rfl, rfl⟩ := H
        go_wp2
        repeat (go_quiet (fail); try go_wp2)
        refine bodyPost_ret (results_list (rs := [.tmp 2, .tmp 3, .tmp 4, .tmp 5]) rfl (by simp) (.tmp (.tmp (.tmp (.tmp .nil))))) rfl ?_
        exact ⟨by first | rfl | (simp; done) | (simp [*]; done), by repeat (first | exact Drawn0.refl _ | apply Drawn0.step)⟩
      · replace c4 := Bool.eq_false_iff.mpr c4
        subst c4
        have H1 : (block_LengthSymbol.l0 kj1 a0 28) = some (r1, r2, r3, r4) := by rw [if_neg (show ¬ (false = true) by decide)] at H; exact H
        clear H
        have H := H1
        clear H1
        have H' := Aside0.mk H
        clear H
        go_wp2
        repeat (go_quiet (fail); try go_wp2)
        go_loopg [6] kj1 (fun kq v6 w' => ∃ (x6_2 : Int), v6 = .int .i64 x6_2 ∧ Aside0 (block_LengthSymbol.l0 kq a0 x6_2 = some (r1, r2, r3, r4)) ∧ Aside0 (kq ≤ kj1) ∧ Drawn0 w w')
        case atStart => exact ⟨(28), (by first | rfl | (simp; done) | (simp [*]; done)), H', ⟨Nat.le_refl _⟩, by repeat (first | exact Drawn0.refl _ | apply Drawn0.step)⟩
        case round =>
          clear H'
          try clear c1
          try clear p2
          try clear c3
          try clear c3b0
          try clear c4
          try clear p2
          obtain ⟨x6_2, rfl, HA, HK2, ⟨m2, rfl⟩⟩ := hrel
          cases gk with
          | zero => exact absurd HA.out (by simp [block_LengthSymbol.l0])
          | succ k2 =>
            have H := HA.out
            clear HA
            simp only [block_LengthSymbol.l0] at H
            by_cases c5 : 0 ≤ x6_2
            · rw [if_pos c5] at H
              have c5b0 : decide (0 ≤ x6_2) = true := decide_eq_true c5
              clear c5
              by_cases c6 : x6_2 < 29
              · rw [if_pos c6] at H
                have c6b0 : decide (x6_2 < 29) = true := decide_eq_true c6
                clear c6
                by_cases c7 : (rd tab2 x6_2) > a0
                · rw [if_pos c7] at H
                  have c7b0 : decide (a0 < (rd tab2 x6_2)) = true := decide_eq_true c7
                  clear c7
                  have H' := Aside0.mk H
                  clear H
                  have p113 : 0 ≤ (x6_2 : Int) := of_decide_eq_true (by first | (with_reducible assumption) | assumption)
                  have q113 : x6_2 < (29 : Int) := of_decide_eq_true (by first | (with_reducible assumption) | assumption)
                  obtain ⟨ad113, e113, hx113_0⟩ := Kd.at_int HRtab2.out x6_2 p113 q113
                  obtain rfl : (⟨2, 0, none⟩ : Addr) = ad113 := (by injection e113)
                  (first | simp only [add_plain] at hx113_0 | simp only [add_at] at hx113_0 | simp only [Addr.add, Nat.zero_add] at hx113_0 | skip)
                  replace p113 := eq_true p113
                  replace q113 := eq_true q113
                  go_wp2
                  repeat (go_quiet (fail); try go_wp2)
                  go_roundg k2
                  case measure => have := HJ1.out; have := HK2.out; omega
                  case rel => exact ⟨(wrap64 (x6_2 - 1)), (by first | rfl | (simp; done) | (simp [*]; done)), H', ⟨by have := HJ1.out; have := HK2.out; omega⟩, by repeat (first | exact Drawn0.refl _ | apply Drawn0.step)⟩
                · rw [if_neg c7] at H
                  have c7b0 : decide (a0 < (rd tab2 x6_2)) = false := decide_eq_false c7
                  clear c7
                  simp only [Option.some.injEq, Prod.mk.injEq] at H
                  obtain ⟨rfl, rfl, rfl, rfl⟩ := H
                  have p113 : 0 ≤ (x6_2 : Int) := of_decide_eq_true (by first | (with_reducible assumption) | assumption)
                  have q113 : x6_2 < (29 : Int) := of_decide_eq_true (by first | (with_reducible assumption) | assumption)
                  obtain ⟨ad113, e113, hx113_0⟩ := Kd.at_int HRtab2.out x6_2 p113 q113
                  obtain rfl : (⟨2, 0, none⟩ : Addr) = ad113 := (by injection e113)
                  (first | simp only [add_plain] at hx113_0 | simp only [add_at] at hx113_0 | simp only [Addr.add, Nat.zero_add] at hx113_0 | skip)
                  replace p113 := eq_true p113
                  replace q113 := eq_true q113
                  have p114 : 0 ≤ (x6_2 : Int) := of_decide_eq_true (by first | (with_reducible assumption) | assumption)
                  have q114 : x6_2 < (29 : Int) := of_decide_eq_true (by first | (with_reducible assumption) | assumption)
                  obtain ⟨ad114, e114, hx114_0⟩ := Kd.at_int HRtab3.out x6_2 p114 q114
                  obtain rfl : (⟨3, 0, none⟩ : Addr) = ad114 := (by injection e114)
                  (first | simp only [add_plain] at hx114_0 | simp only [add_at] at hx114_0 | simp only [Addr.add, Nat.zero_add] at hx114_0 | skip)
                  replace p114 := eq_true p114
                  replace q114 := eq_true q114
                  have p115 : 0 ≤ (x6_2 : Int) := of_decide_eq_true (by first | (with_reducible assumption) | assumption)
                  have q115 : x6_2 < (29 : Int) := of_decide_eq_true (by first | (with_reducible assumption) | assumption)
                  obtain ⟨ad115, e115, hx115_0⟩ := Kd.at_int HRtab2.out x6_2 p115 q115
                  obtain rfl : (⟨2, 0, none⟩ : Addr) = ad115 := (by injection e115)
                  (first | simp only [add_plain] at hx115_0 | simp only [add_at] at hx115_0 | simp only [Addr.add, Nat.zero_add] at hx115_0 | skip)
                  replace p115 := eq_true p115
                  replace q115 := eq_true q115
                  go_wp2
                  repeat (go_quiet (fail); try go_wp2)
                  refine bodyPost_ret (results_list (rs := [.tmp 2, .tmp 3, .tmp 4, .tmp 5]) rfl (by simp) (.tmp (.tmp (.tmp (.tmp .nil))))) rfl ?_
                  exact ⟨by first | rfl | (simp; done) | (simp [*]; done), by repeat (first | exact Drawn0.refl _ | apply Drawn0.step)⟩
              · rw [if_neg c6] at H
                exact absurd H (by simp)
            · rw [if_neg c5] at H
              exact absurd H (by simp)

/-! ### block_DistSymbol: function 35 -/
mutual
def block_DistSymbol.j0 : Nat → Int → Bool → Option (Int × Int × Int × Int)
  | 0, _, _ => none
  | k + 1, x0, x12 => if x12 = true then (some (0, 0, 0, 1)) else (block_DistSymbol.l0 k x0 29)
def block_DistSymbol.l0 : Nat → Int → Int → Option (Int × Int × Int × Int)
  | 0, _, _ => none
  | k + 1, x0, x6 => if 0 ≤ x6 then (if x6 < 30 then (if (rd tab4 x6) > x0 then (block_DistSymbol.l0 k x0 (wrap64 (x6 - 1))) else (some (x6, rd tab5 x6, wrap64 (x0 - (rd tab4 x6)), 0))) else (none)) else (none)
end
def block_DistSymbol.f (k : Nat) (a0 : Int) : Option (Int × Int × Int × Int) := if a0 < 1 then (block_DistSymbol.j0 k a0 true) else (block_DistSymbol.j0 k a0 (decide (a0 > 32768)))
theorem block_DistSymbol.mono_l : ∀ k, (∀ y0 y1, LeO (block_DistSymbol.j0 k y0 y1) (block_DistSymbol.j0 (k + 1) y0 y1)) ∧ (∀ y0 y1, LeO (block_DistSymbol.l0 k y0 y1) (block_DistSymbol.l0 (k + 1) y0 y1))
  | 0 => ⟨fun _ _ r h => by simp [block_DistSymbol.j0] at h, fun _ _ r h => by simp [block_DistSymbol.l0] at h⟩
  | k + 1 => by
    obtain ⟨ih0, ih1⟩ := block_DistSymbol.mono_l k
    refine ⟨?_, ?_⟩
    · intro y0 y1
      unfold block_DistSymbol.j0
      repeat' first
      | (with_reducible exact ih0 _ _)
      | (with_reducible exact ih1 _ _)
      | (with_reducible exact LeO.refl _)
      | (with_reducible exact LeO.none _)
      | (with_reducible refine LeO.ite ?_ ?_)
      | (with_reducible refine LeO.bind ?_ (fun _ => ?_))
      | exact ih0 _ _
      | exact ih1 _ _
      | exact LeO.none _
      | refine LeO.ite ?_ ?_
      | refine LeO.bind ?_ (fun _ => ?_)
    · intro y0 y1
      unfold block_DistSymbol.l0
      repeat' first
      | (with_reducible exact ih0 _ _)
      | (with_reducible exact ih1 _ _)
      | (with_reducible exact LeO.refl _)
      | (with_reducible exact LeO.none _)
      | (with_reducible refine LeO.ite ?_ ?_)
      | (with_reducible refine LeO.bind ?_ (fun _ => ?_))
      | exact ih0 _ _
      | exact ih1 _ _
      | exact LeO.none _
      | refine LeO.ite ?_ ?_
      | refine LeO.bind ?_ (fun _ => ?_)
theorem block_DistSymbol.mono : ∀ a0 k, LeO (block_DistSymbol.f k a0) (block_DistSymbol.f (k + 1) a0) := by
  intro a0 k
  obtain ⟨ih0, ih1⟩ := block_DistSymbol.mono_l k
  unfold block_DistSymbol.f
  repeat' first
      | (with_reducible exact ih0 _ _)
      | (with_reducible exact ih1 _ _)
      | (with_reducible exact LeO.refl _)
      | (with_reducible exact LeO.none _)
      | (with_reducible refine LeO.ite ?_ ?_)
      | (with_reducible refine LeO.bind ?_ (fun _ => ?_))
      | exact ih0 _ _
      | exact ih1 _ _
      | exact LeO.none _
      | refine LeO.ite ?_ ?_
      | refine LeO.bind ?_ (fun _ => ?_)
set_option maxHeartbeats 8000000 in
set_option maxRecDepth 100000 in
theorem block_DistSymbol.calls (k : Nat) (a0 : Int) (r1 : Int) (r2 : Int) (r3 : Int) (r4 : Int) (w : World) (hG : Tabs w) (h : block_DistSymbol.f k a0 = some (r1, r2, r3, r4)) :
    Calls Tryd.prog 35 #[.int .i64 a0] w fun e w' => e = .returned (.tuple #[.int .i64 r1, .int .i64 r2, .int .i64 r3, .int .i64 r4]) ∧ Drawn0 w w' := by
  have HG := Aside0.mk hG
  clear hG
  have HRtab4 := Aside0.mk (Tabs.tab4 HG.out)
  have HRtab5 := Aside0.mk (Tabs.tab5 HG.out)
  have H : (if a0 < 1 then (block_DistSymbol.j0 k a0 true) else (block_DistSymbol.j0 k a0 (decide (a0 > 32768)))) = some (r1, r2, r3, r4) := h
  clear h
  have HC2 := Aside0.mk H
  clear H
  go_enter Tryd.func35, Tryd.ntmps35
  go_upto_region 1 with (fail)
  repeat (go_quiet (fail); go_upto_region 1 with (fail))
  go_cut [12] (fun v12 wc => ∃ (kq : Nat) (x12_1 : Bool), v12 = .bool x12_1 ∧ Aside0 (block_DistSymbol.j0 kq a0 x12_1 = some (r1, r2, r3, r4)) ∧ Aside0 (kq ≤ k) ∧ Drawn0 w wc)
  case first =>
    have H := HC2.out
    clear HC2
    by_cases c3 : a0 < 1
    · rw [if_pos c3] at H
      have c3b0 : decide (a0 < 1) = true := decide_eq_true c3
      clear c3
      (first | rw [c3b0] | (simp only [i64_w, i32_w]; rw [c3b0]) | skip)
      have H' := Aside0.mk H
      clear H
      go_wp2
      repeat (go_quiet (fail); try go_wp2)
      go_meet
      case rel => exact ⟨_, (true), (by first | rfl | (simp; done) | (simp [*]; done)), H', ⟨by first | omega | exact Nat.le_refl _⟩, by repeat (first | exact Drawn0.refl _ | apply Drawn0.step)⟩
    · rw [if_neg c3] at H
      have c3b0 : decide (a0 < 1) = false := decide_eq_false c3
      clear c3
      (first | rw [c3b0] | (simp only [i64_w, i32_w]; rw [c3b0]) | skip)
      have H' := Aside0.mk H
      clear H
      go_wp2
      repeat (go_quiet (fail); try go_wp2)
      go_meet
      case rel => exact ⟨_, (decide (a0 > 32768)), (by first | rfl | (simp; done) | (simp [*]; done)), H', ⟨by first | omega | exact Nat.le_refl _⟩, by repeat (first | exact Drawn0.refl _ | apply Drawn0.step)⟩
  case rest =>
    clear HC2
    try clear p2
    try clear c3
    try clear c3b0
    obtain ⟨kq, x12_1, rfl, HA, HJ1, ⟨mc1, rfl⟩⟩ := hcut
    cases kq with
    | zero => exact absurd HA.out (by simp [block_DistSymbol.j0])
    | succ kj1 =>
      have H := HA.out
      clear HA
      simp only [block_DistSymbol.j0] at H
      by_cases c4 : x12_1 = true
      · subst c4
        have H1 : (some (0, 0, 0, 1)) = some (r1, r2, r3, r4) := by rw [if_pos rfl] at H; exact H
        clear H
        have H := H1
        clear H1
        simp only [Option.some.injEq, Prod.mk.injEq] at H
        obtain ⟨rfl, rfl, rfl, rfl⟩ := H
        go_wp2
        repeat (go_quiet (fail); try go_wp2)
        refine bodyPost_ret (results_list (rs := [.tmp 2, .tmp 3, .tmp 4, .tmp 5]) rfl (by simp) (.tmp (.tmp (.tmp (.tmp .nil))))) rfl ?_
        exact ⟨by first | rfl | (simp; done) | (simp [*]; done), by repeat (first | exact Drawn0.refl _ | apply Drawn0.step)⟩
      · replace c4 := Bool.eq_false_iff.mpr c4
        subst c4
        have H1 : (block_DistSymbol.l0 kj1 a0 29) = some (r1, r2, r3, r4) := by rw [if_neg (show ¬ (false = true) by decide)] at H; exact H
        clear H
        have H := H1
        clear H1
        have H' := Aside0.mk H
        clear H
        go_wp2
        repeat (go_quiet (fail); try go_wp2)
        go_loopg [6] kj1 (fun kq v6 w' => ∃ (x6_2 : Int), v6 = .int .i64 x6_2 ∧ Aside0 (block_DistSymbol.l0 kq a0 x6_2 = some (r1, r2, r3, r4)) ∧ Aside0 (kq ≤ kj1) ∧ Drawn0 w w')
        case atStart => exact ⟨(29), (by first | rfl | (simp; done) | (simp [*]; done)), H', ⟨Nat.le_refl _⟩, by repeat (first | exact Drawn0.refl _ | apply Drawn0.step)⟩
        case round =>
          clear H'
          try clear c1
          try clear p2
          try clear c3
          try clear c3b0
          try clear c4
          try clear p2
          obtain ⟨x6_2, rfl, HA, HK2, ⟨m2, rfl⟩⟩ := hrel
          cases gk with
          | zero => exact absurd HA.out (by simp [block_DistSymbol.l0])
          | succ k2 =>
            have H := HA.out
            clear HA
            simp only [block_DistSymbol.l0] at H
            by_cases c5 : 0 ≤ x6_2
            · rw [if_pos c5] at H
              have c5b0 : decide (0 ≤ x6_2) = true := decide_eq_true c5
              clear c5
              by_cases c6 : x6_2 < 30
              · rw [if_pos c6] at H
                have c6b0 : decide (x6_2 < 30) = true := decide_eq_true c6
                clear c6
                by_cases c7 : (rd tab4 x6_2) > a0
                · rw [if_pos c7] at H
                  have c7b0 : decide (a0 < (rd tab4 x6_2)) = true := decide_eq_true c7
                  clear c7
                  have H' := Aside0.mk H
                  clear H
                  have p116 : 0 ≤ (x6_2 : Int) := of_decide_eq_true (by first | (with_reducible assumption) | assumption)
                  have q116 : x6_2 < (30 : Int) := of_decide_eq_true (by first | (with_reducible assumption) | assumption)
                  obtain ⟨ad116, e116, hx116_0⟩ := Kd.at_int HRtab4.out x6_2 p116 q116
                  obtain rfl : (⟨4, 0, none⟩ : Addr) = ad116 := (by injection e116)
                  (first | simp only [add_plain] at hx116_0 | simp only [add_at] at hx116_0 | simp only [Addr.add, Nat.zero_add] at hx116_0 | skip)
                  replace p116 := eq_true p116
                  replace q116 := eq_true q116
                  go_wp2
                  repeat (go_quiet (fail); try go_wp2)
                  go_roundg k2
                  case measure => have := HJ1.out; have := HK2.out; omega
                  case rel => exact ⟨(wrap64 (x6_2 - 1)), (by first | rfl | (simp; done) | (simp [*]; done)), H', ⟨by have := HJ1.out; have := HK2.out; omega⟩, by repeat (first | exact Drawn0.refl _ | apply Drawn0.step)⟩
                · rw [if_neg c7] at H
                  have c7b0 : decide (a0 < (rd tab4 x6_2)) = false := decide_eq_false c7
                  clear c7
                  simp only [Option.some.injEq, Prod.mk.injEq] at H
                  obtain ⟨rfl, rfl, rfl, rfl⟩ := H
                  have p116 : 0 ≤ (x6_2 : Int) := of_decide_eq_true (by first | (with_reducible assumption) | assumption)
                  have q116 : x6_2 < (30 : Int) := of_decide_eq_true (by first | (with_reducible assumption) | assumption)
                  obtain ⟨ad116, e116, hx116_0⟩ := Kd.at_int HRtab4.out x6_2 p116 q116
                  obtain rfl : (⟨4, 0, none⟩ : Addr) = ad116 := (by injection e116)
                  (first | simp only [add_plain] at hx116_0 | simp only [add_at] at hx116_0 | simp only [Addr.add, Nat.zero_add] at hx116_0 | skip)
                  replace p116 := eq_true p116
                  replace q116 := eq_true q116
                  have p117 : 0 ≤ (x6_2 : Int) := of_decide_eq_true (by first | (with_reducible assumption) | assumption)
                  have q117 : x6_2 < (30 : Int) := of_decide_eq_true (by first | (with_reducible assumption) | assumption)
                  obtain ⟨ad117, e117, hx117_0⟩ := Kd.at_int HRtab5.out x6_2 p117 q117
                  obtain rfl : (⟨5, 0, none⟩ : Addr) = ad117 := (by injection e117)
                  (first | simp only [add_plain] at hx117_0 | simp only [add_at] at hx117_0 | simp only [Addr.add, Nat.zero_add] at hx117_0 | skip)
                  replace p117 := eq_true p117
                  replace q117 := eq_true q117
                  have p118 : 0 ≤ (x6_2 : Int) := of_decide_eq_true (by first | (with_reducible assumption) | assumption)
                  have q118 : x6_2 < (30 : Int) := of_decide_eq_true (by first | (with_reducible assumption) | assumption)
                  obtain ⟨ad118, e118, hx118_0⟩ := Kd.at_int HRtab4.out x6_2 p118 q118
                  obtain rfl : (⟨4, 0, none⟩ : Addr) = ad118 := (by injection e118)
                  (first | simp only [add_plain] at hx118_0 | simp only [add_at] at hx118_0 | simp only [Addr.add, Nat.zero_add] at hx118_0 | skip)
                  replace p118 := eq_true p118
                  replace q118 := eq_true q118
                  go_wp2
                  repeat (go_quiet (fail); try go_wp2)
                  refine bodyPost_ret (results_list (rs := [.tmp 2, .tmp 3, .tmp 4, .tmp 5]) rfl (by simp) (.tmp (.tmp (.tmp (.tmp .nil))))) rfl ?_
                  exact ⟨by first | rfl | (simp; done) | (simp [*]; done), by repeat (first | exact Drawn0.refl _ | apply Drawn0.step)⟩
              · rw [if_neg c6] at H
                exact absurd H (by simp)
            · rw [if_neg c5] at H
              exact absurd H (by simp)

end Go.Proofs.YtpndhoefmepfdaaDoor.PSq
