/- valiselaw23.WrapAdlers returns true for every bytes, every two sums and every length, and leaves each argument as it was. Conditions: those of the row's own form alone; none is added. This text: the law's own helpers (what is lent, and whether it still stands), and the law's walk. -/
import Derived.Test.YtpndhoefmepfdaaPWrapSumsx1
import Derived.Test.YtpndhoefmepfdaaPAdlerx1
import Derived.Test.YtpndhoefmepfdaaPJoinAdlerx1
import Derived.Test.YtpndhoefmepfdaaPureWrapSums
namespace Go.Proofs.Ytpndhoefmepfdaa.AdlerLaw
open Go.RowKit Go.Proofs.YtpndhoefmepfdaaW.PrintWords Go.Proofs.YtpndhoefmepfdaaW.PrintLast Go.Proofs.YtpndhoefmepfdaaW.PrintMore
open Go.Proofs.Ytpndhoefmepfdaa.PWrapSums (valiselaw23_copied.calls valiselaw23_copied.f wrap_Adler.calls wrap_Adler.f wrap_JoinAdler.calls wrap_JoinAdler.f info5)
set_option linter.unusedVariables false
set_option linter.unusedSimpArgs false

/-- 'xs[:j]' with j within the capacity. -/
theorem cut_cap {P : Program} (t e : TypeId) (kh : IntKind) {i : TypeInfo} (ht : P.underlying t = some (.slice e)) (hi : P.info? e = some i) (A : Option Addr) (n c : Nat) (j : Int) (h0 : 0 ≤ j) (hm : j ≤ c) :
    ∀ W : World, (Instr.slice t (.slice A n c) none (some (.int kh j)) none).run P W = .ok (.slice A j.toNat c) W := by
  intro W
  have hel : P.elem t = e := by simp [Program.elem, ht]
  have hu : P.underlying t = some (.slice (P.elem t)) := by rw [hel]; exact ht
  have ha : (A.map fun x => x.add 0) = A := by cases A <;> simp [Addr.add]
  rw [run_slice_h W t A n c hu kh j h0 hm, hel]
  simp [sizeOf, typeInfo, hi, sliced, Result.andThen, ha]

/-- What is lent: the bytes with eight marks in the room behind them. -/
def full (l : List Int) : List Int := l ++ List.replicate 8 165
def LentAt (l x3 : List Int) (x4 : Int) (kq : Nat) : Prop := 0 ≤ x4 ∧ x4 ≤ 8 ∧ x3 = l ++ List.replicate x4.toNat 165 ∧ kq = (8 - x4).toNat + 1
theorem LentAt.next {l x3 : List Int} {x4 : Int} {kq : Nat} (h : LentAt l x3 x4 (kq + 1)) (h8 : x4 < 8) : LentAt l (x3 ++ [165]) (wrap64 (x4 + 1)) kq := by
  obtain ⟨h0, _, rfl, hk⟩ := h
  have e : wrap64 (x4 + 1) = x4 + 1 := by unfold wrap64; omega
  rw [e]
  refine ⟨by omega, by omega, ?_, by omega⟩
  have e2 : (x4 + 1).toNat = x4.toNat + 1 := by omega
  rw [e2, List.replicate_succ', List.append_assoc]
theorem LentAt.last {l x3 : List Int} {x4 : Int} {kq : Nat} (h : LentAt l x3 x4 kq) (h8 : ¬ x4 < 8) : x3 = full l := by
  obtain ⟨h0, h1, rfl, hk⟩ := h
  have e : x4.toNat = 8 := by omega
  rw [e]; rfl
theorem LentAt.len {l x3 : List Int} {x4 : Int} {kq : Nat} (h : LentAt l x3 x4 kq) : x3.length = l.length + x4.toNat := by
  obtain ⟨h0, h1, rfl, hk⟩ := h
  simp

set_option maxHeartbeats 8000000 in
set_option maxRecDepth 100000 in
theorem lent_calls (k : Nat) (A0 : Option Addr) (c0 : Nat) (l0 : List Int) (w : World) (hr0 : Kd.C (Kd.int .u8) w A0 l0.length l0) (hc0 : l0.length ≤ c0) (hn : l0.length ≤ 140737488351232) (h : valiselaw23_copied.f k l0 = some l0) :
    Calls Try.prog 8 #[.slice A0 l0.length c0] w fun e w' => ∃ (Ao : Option Addr) (co : Nat), e = .returned (.slice Ao l0.length co) ∧ Kd.R (Kd.int .u8) 5 w' w.heap.size (fun _ => True) (.slice Ao (full l0).length co) (full l0) ∧ Below w.heap.size w w' := by
  have HR0 := Aside0.mk hr0
  have HC0 := Aside0.mk hc0
  have HN := Aside0.mk hn
  have HS := Aside0.mk h
  clear hr0 hc0 hn h
  have HB := Aside0.mk (Below.refl w.heap.size w)
  go_enter Try.func8, Try.ntmps8
  go_wp2_with (first | ((with_reducible refine gate_callee (f := 29) rfl ?_); refine goesL_ (some 6) rfl rfl Try.func29 (by kernel_rfl) rfl #[.slice A0 l0.length c0] rfl (by (try simp only [List.map_toArray, List.map_cons, List.map_nil]); first | done | rfl | (simp only [List.length_drop, List.length_take]; rfl)) ?_; (with_reducible refine (valiselaw23_copied.calls k _ _ l0 l0 _ ?side1 ?side2 HS.out).mono ?_); (case side1 => repeat (first | exact HR0.out | (with_reducible refine Kd.C_alloc ?_ _) | (with_reducible refine Kd.C_drewN ?_ _) | (with_reducible refine Kd.C_drew ?_))); (case side2 => exact HC0.out); rintro e w3 ⟨v106, rfl, ho0, hb⟩; refine ⟨_, rfl, ?_⟩; have n0_ := Aside0.mk (Kd.R_lower ho0 (below_size (by repeat (first | (with_reducible first | exact HB.out | apply below_alloc | apply pw_below_drewN | apply below_drew1) | exact HB.out)))); have n1_ := Aside0.mk (below_step (by repeat (first | (with_reducible first | exact HB.out | apply below_alloc | apply pw_below_drewN | apply below_drew1) | exact HB.out)) hb); clear HB; have HO107 := n0_; have HB := n1_; clear n0_ n1_; (try clear hb); (try clear ho0)))
  go_loopg [3, 4] 9 (fun kq v3 v4 w' => ∃ (x3_1 : List Int) (x4_1 : Int), v4 = .int .i64 x4_1 ∧ Aside0 (LentAt l0 x3_1 x4_1 kq) ∧ Aside0 (Kd.R (Kd.int .u8) 5 w' w.heap.size (fun _ => True) v3 x3_1) ∧ Aside0 (Below w.heap.size w w'))
  case atStart => exact ⟨l0, 0, rfl, ⟨⟨by omega, by omega, by simp, by decide⟩⟩, ⟨by (with_reducible repeat (first | apply Kd.R_alloc | apply Kd.R_drewN | apply Kd.R_drew)); exact HO107.out⟩, ⟨by repeat (first | (with_reducible first | exact HB.out | apply below_alloc | apply pw_below_drewN | apply below_drew1) | exact HB.out)⟩⟩
  case round =>
    obtain ⟨x3_1, x4_1, rfl, HA, HO_3, HB⟩ := hrel
    cases gk with
    | zero => exact absurd HA.out.2.2.2 (by omega)
    | succ k1 =>
      by_cases c4 : x4_1 < 8
      · have c4b0 : decide (x4_1 < 8) = true := decide_eq_true c4
        have LM := Aside0.mk (show x3_1.length < 140737488355328 by have h1 := HA.out.len; have h2 := HN.out; have h3 := HA.out.2.1; omega)
        have HA' := Aside0.mk (HA.out.next c4)
        clear c4 HA
        obtain ⟨y108, hy108⟩ : ∃ y_ : List Int, y_ = (x3_1 ++ [165]) := ⟨_, rfl⟩
        rw [← hy108] at HA'
        have Ny108 := Aside0.mk hy108
        clear hy108
        go_wp2_with (first | ((with_reducible refine gate_builtin (b := .append) (xs := #[.tmp 11, .tmp 12]) rfl ?_); at_builtin; refine Kd.R_append (Kd.int .u8) (w0 := w) w.heap.size rfl (.tmp 11) (.tmp 12) 22 5 (.int .u8 0) 1 rfl Try.underlying22 info5 rfl (by decide) (by omega) u3 x3_1 165 [.int .u8 165] (fun _ => True) (fun _ => False) rfl rfl ?aP (fun _ hk => hk.elim) ?aF ?aO ?aB ?aS ?aL ?_; (case aP => exact rfl); (case aB => exact (by repeat (first | (with_reducible first | exact HB.out | apply below_alloc | apply pw_below_drewN | apply below_drew1) | exact HB.out))); (case aF => exact (fun _ _ => trivial)); (case aO => exact (by (with_reducible repeat (first | apply Kd.R_alloc | apply Kd.R_drewN | apply Kd.R_drew)); exact HO_3.out)); (case aS => exact (below_size (by repeat (first | (with_reducible first | exact HB.out | apply below_alloc | apply pw_below_drewN | apply below_drew1) | exact HB.out)))); (case aL => have := LM.out; omega); intro v109 w6 ho hb hg hat; rw [← Ny108.out] at ho; have n0_ := Aside0.mk (hb); have n1_ := Aside0.mk (ho); clear HB; clear HO_3; have HB := n0_; have HO110 := n1_; clear n0_ n1_; clear ho hb hg hat))
        go_roundg k1
        case measure => omega
        case rel => exact ⟨y108, (wrap64 (x4_1 + 1)), (by first | rfl | (simp; done) | (simp [*]; done)), HA', ⟨by (with_reducible repeat (first | apply Kd.R_alloc | apply Kd.R_drewN | apply Kd.R_drew)); exact HO110.out⟩, ⟨by repeat (first | (with_reducible first | exact HB.out | apply below_alloc | apply pw_below_drewN | apply below_drew1) | exact HB.out)⟩⟩
      · have c4b0 : decide (x4_1 < 8) = false := decide_eq_false c4
        have HF := HA.out.last c4
        have hlen : x3_1.length = l0.length + 8 := by rw [HF]; simp [full]
        clear c4 HA
        obtain ⟨Ao9, co9, eo9⟩ := Kd.R_slice HO_3.out
        subst eo9
        obtain ⟨i010, hi010, _, hsz10, _⟩ := info_parts info5
        have hcut10 := cut_to (P := Try.prog) 22 5 .i64 Try.underlying22 hi010 Ao9 x3_1.length co9 (l0.length : Int) (by omega) (by omega) (Kd.R_reads' HO_3.out).2.1
        rw [Int.toNat_natCast] at hcut10
        have HFF := Aside0.mk HF
        have c7b0 : decide (0 ≤ (l0.length : Int)) = true := decide_eq_true (by omega)
        have c8b0 : decide ((l0.length : Int) ≤ (x3_1.length : Int)) = true := decide_eq_true (by omega)
        clear HF hlen hi010 hsz10
        go_wp2
        go_ret
        refine ⟨Ao9, co9, rfl, ?_, by repeat (first | (with_reducible first | exact HB.out | apply below_alloc | apply pw_below_drewN | apply below_drew1) | exact HB.out)⟩
        have hR : Kd.R (Kd.int .u8) 5 wr w.heap.size (fun _ => True) (.slice Ao9 x3_1.length co9) x3_1 := HO_3.out
        rw [HFF.out] at hR
        exact hR

theorem full_len (l : List Int) : (full l).length = l.length + 8 := by simp [full]
theorem full_low (l : List Int) (i : Int) (h0 : 0 ≤ i) (h : i < (l.length : Int)) : rd (full l) i = rd l i := by
  unfold rd full
  have h1 : i.toNat < l.length := by omega
  rw [List.getD_eq_getElem?_getD, List.getD_eq_getElem?_getD, List.getElem?_append_left h1]
theorem full_high (l : List Int) (i : Int) (h : (l.length : Int) ≤ i) (h2 : i < ((full l).length : Int)) : rd (full l) i = 165 := by
  rw [full_len] at h2
  unfold rd full
  have h1 : l.length ≤ i.toNat := by omega
  have h3 : i.toNat - l.length < 8 := by omega
  rw [List.getD_eq_getElem?_getD, List.getElem?_append_right h1, List.getElem?_replicate, if_pos h3, Option.getD_some]
set_option maxHeartbeats 8000000 in
set_option maxRecDepth 100000 in
theorem still_true (Ao A1 : Option Addr) (co c1 : Nat) (l : List Int) (w : World) (hr0 : Kd.C (Kd.int .u8) w Ao (full l).length (full l)) (hc0 : (full l).length ≤ co) (hr1 : Kd.C (Kd.int .u8) w A1 l.length l) (hn : l.length ≤ 140737488351232) :
    Calls Try.prog 11 #[.slice Ao l.length co, .slice A1 l.length c1] w fun e w' => e = .returned (.bool true) ∧ Drawn0 w w' := by
  have HR0 := Aside0.mk hr0
  have HR1 := Aside0.mk hr1
  have c3b1 : ((l.length : Int) != (l.length : Int)) = false := bne_self_eq_false _
  obtain ⟨i07, hi07, _, _, _⟩ := info_parts info5
  have hcut : ∀ W : World, (Instr.slice 22 (.slice Ao l.length co) none (some (.int .i64 ((l.length : Int) + 8))) none).run Try.prog W = .ok (.slice Ao (full l).length co) W := by
    have h := cut_cap (P := Try.prog) 22 5 .i64 Try.underlying22 hi07 Ao l.length co ((l.length : Int) + 8) (by omega) (by rw [full_len] at hc0; omega)
    have e : ((l.length : Int) + 8).toNat = (full l).length := by rw [full_len]; omega
    rw [e] at h
    exact h
  have HN := Aside0.mk hn
  clear hr0 hc0 hr1 hi07
  go_enter Try.func11, Try.ntmps11
  go_wp2
  go_loopg [6] ((full l).length + 1) (fun kq v6 w' => ∃ (i : Int), v6 = .int .i64 i ∧ Aside0 (0 ≤ i ∧ i ≤ ((full l).length : Int) ∧ kq = (((full l).length : Int) - i).toNat + 1) ∧ Drawn0 w w')
  case atStart => exact ⟨0, rfl, ⟨⟨by omega, by omega, by omega⟩⟩, by repeat (first | exact Drawn0.refl _ | apply Drawn0.step)⟩
  case round =>
    obtain ⟨i, rfl, HA, ⟨m1, rfl⟩⟩ := hrel
    cases gk with
    | zero => exact absurd HA.out.2.2 (by omega)
    | succ k1 =>
      have h0 := HA.out.1
      by_cases c8 : i < ((full l).length : Int)
      · have HW := Aside0.mk (show wrap64 (i + 1) = i + 1 by have h := HN.out; have h2 := full_len l; unfold wrap64; omega)
        have HA' := Aside0.mk (show 0 ≤ i + 1 ∧ i + 1 ≤ ((full l).length : Int) ∧ k1 = (((full l).length : Int) - (i + 1)).toNat + 1 by have h := HA.out; omega)
        have c8b0 : decide (i < ((full l).length : Int)) = true := decide_eq_true c8
        obtain ⟨ad1, e1, hx1⟩ := Kd.at_int HR0.out i h0 c8
        cases e1
        by_cases c9 : i < (l.length : Int)
        · have c9b0 : decide (i < (l.length : Int)) = true := decide_eq_true c9
          have c10 : decide ((l.length : Int) ≤ i) = false := decide_eq_false (by omega)
          obtain ⟨ad2, e2, hx2⟩ := Kd.at_int HR1.out i h0 c9
          cases e2
          rw [full_low l i h0 c9] at hx1
          have c11 : (rd l i != rd l i) = false := bne_self_eq_false _
          replace h0 := eq_true h0
          replace c8 := eq_true c8
          replace c9 := eq_true c9
          clear HA
          go_wp2
          repeat (go_quiet (fail); try go_wp2)
          go_roundg k1
          case measure => omega
          case rel => exact ⟨wrap64 (i + 1), (by first | rfl | (simp; done) | (simp [*]; done)), ⟨by rw [HW.out]; exact HA'.out⟩, by repeat (first | exact Drawn0.refl _ | apply Drawn0.step)⟩
        · have c9b0 : decide (i < (l.length : Int)) = false := decide_eq_false c9
          have c10 : decide ((l.length : Int) ≤ i) = true := decide_eq_true (by omega)
          rw [full_high l i (by omega) c8] at hx1
          have c11 : ((165 : Int) != 165) = false := rfl
          replace h0 := eq_true h0
          replace c8 := eq_true c8
          clear HA c9
          go_wp2
          repeat (go_quiet (fail); try go_wp2)
          go_roundg k1
          case measure => omega
          case rel => exact ⟨wrap64 (i + 1), (by first | rfl | (simp; done) | (simp [*]; done)), ⟨by rw [HW.out]; exact HA'.out⟩, by repeat (first | exact Drawn0.refl _ | apply Drawn0.step)⟩
      · have c8b0 : decide (i < ((full l).length : Int)) = false := decide_eq_false c8
        clear HA
        go_wp2
        go_ret
        exact ⟨rfl, by repeat (first | exact Drawn0.refl _ | apply Drawn0.step)⟩


/-! The law's walk -/
open Go.Proofs.Ytpndhoefmepfdaa.PAdler (valiseref23_Adler.calls valiseref23_Adler.f)
open Go.Proofs.Ytpndhoefmepfdaa.PJoinAdler (valiseref23_JoinAdler.calls valiseref23_JoinAdler.f)
set_option maxHeartbeats 8000000 in
set_option maxRecDepth 100000 in
theorem num_calls (a0 : Int) (w : World) : Calls Try.prog 14 #[.int .i64 a0] w fun e w' => e = .returned (.int .i64 a0) ∧ Drawn0 w w' := by
  go_enter Try.func14, Try.ntmps14
  go_wp2
  go_ret
  exact ⟨rfl, Drawn0.refl _⟩
set_option maxHeartbeats 8000000 in
set_option maxRecDepth 100000 in
theorem law_walk (k : Nat) (A0 : Option Addr) (c0 : Nat) (l : List Int) (a1 a2 a3 s e : Int) (d : Int) (w : World) (hr0 : Kd.C (Kd.int .u8) w A0 l.length l) (hc0 : l.length ≤ c0) (hn : l.length ≤ 140737488351232)
    (hcop : valiselaw23_copied.f k l = some l) (h1 : wrap_Adler.f k l = some d) (h2 : valiseref23_Adler.f k l = some d) (h3 : wrap_JoinAdler.f a1 a2 a3 = some (s, e)) (h4 : valiseref23_JoinAdler.f a1 a2 a3 = some (s, e)) :
    Calls Try.prog 3 #[.slice A0 l.length c0, .int .u32 a1, .int .u32 a2, .int .i64 a3] w fun e w' => e = .returned (.bool true) ∧ Below w.heap.size w w' := by
  have HR0 := Aside0.mk hr0
  have H1 := Aside0.mk h1
  have H2 := Aside0.mk h2
  have H3 := Aside0.mk h3
  have H4 := Aside0.mk h4
  have HC := Aside0.mk hcop
  have HN := Aside0.mk hn
  have HC0 := Aside0.mk hc0
  clear hr0 h1 h2 h3 h4 hcop hn hc0
  have c1 : (d != d) = false := bne_self_eq_false _
  have c2 : (s == s) = true := beq_self_eq_true _
  have c3 : (e == e) = true := beq_self_eq_true _
  go_enter Try.func3, Try.ntmps3
  go_wp2_with fail
  go_at_call 8
  refine (lent_calls k A0 c0 l w HR0.out HC0.out HN.out HC.out).mono ?_
  rintro e0 w1 ⟨Ao, co, rfl, hR, hb⟩
  have HB := Aside0.mk hb
  have HF := Aside0.mk (Kd.R_reads' hR).2
  have HCl := Aside0.mk (show Kd.C (Kd.int .u8) w1 Ao l.length l by
    have h := Kd.C_take (k := Kd.int .u8) (m := l.length) (Kd.R_reads' hR).2.2 (by rw [full_len]; omega)
    have e : (full l).take l.length = l := by unfold full; simp
    rw [e] at h
    exact h)
  have HCa := Aside0.mk (Kd.C_below HR0.out hb)
  clear hb hR
  go_wp2_with fail
  go_at_call 9
  refine (wrap_Adler.calls k Ao co l d _ HCl.out (by have := HF.out.1; rw [full_len] at this; omega) H1.out).mono ?_
  rintro e1 w' ⟨rfl, ⟨nd, rfl⟩⟩
  go_wp2_with fail
  go_at_call 10
  refine (valiseref23_Adler.calls k A0 c0 l d _ (by repeat (first | exact HCa.out | (with_reducible refine Kd.C_drewN ?_ _) | (with_reducible refine Kd.C_drew ?_))) HC0.out H2.out).mono ?_
  rintro e1 w' ⟨rfl, ⟨nd2, rfl⟩⟩
  go_wp2_with fail
  go_at_call 11
  refine (still_true Ao A0 co c0 l _ (by repeat (first | exact HF.out.2 | (with_reducible refine Kd.C_drewN ?_ _) | (with_reducible refine Kd.C_drew ?_))) HF.out.1 (by repeat (first | exact HCa.out | (with_reducible refine Kd.C_drewN ?_ _) | (with_reducible refine Kd.C_drew ?_))) HN.out).mono ?_
  rintro e1 w' ⟨rfl, ⟨nd3, rfl⟩⟩
  go_wp2_with fail
  go_at_call 12
  refine (wrap_JoinAdler.calls a1 a2 a3 s e _ H3.out).mono ?_
  rintro e1 w' ⟨rfl, ⟨nd4, rfl⟩⟩
  go_wp2_with fail
  go_at_call 13
  refine (valiseref23_JoinAdler.calls a1 a2 a3 s e _ H4.out).mono ?_
  rintro e1 w' ⟨rfl, ⟨nd5, rfl⟩⟩
  go_wp2_with fail
  go_at_call 14
  refine (num_calls e _).mono ?_
  rintro e1 w' ⟨rfl, ⟨nd6, rfl⟩⟩
  go_wp2_with fail
  go_ret
  exact ⟨rfl, by repeat (first | (with_reducible first | exact HB.out | apply below_alloc | apply pw_below_drewN | apply below_drew1) | exact HB.out)⟩

/-! What both texts compute -/
open Go.Proofs.Ytpndhoefmepfdaa.Pure (wrap_id rd_at adl adler_eq bytes_of Bytes sm wt adler_step copied_eq and_low or_join)
theorem ref_loop : ∀ (suf pre : List Int) (a b : Int) (k : Nat), Bytes suf → 0 ≤ a → a < 65521 → 0 ≤ b → b < 65521 → (pre ++ suf).length ≤ 140737488351232 → suf.length < k →
    PAdler.valiseref23_Adler.l0 k (pre ++ suf) a b (pre.length : Int) = some (((b + (suf.length : Int) * a + wt suf) % 65521) * 65536 + (a + sm suf) % 65521) := by
  intro suf
  induction suf with
  | nil =>
    intro pre a b k _ ha0 ha hb0 hb _ hk
    obtain ⟨k, rfl⟩ : ∃ m, k = m + 1 := ⟨k - 1, by omega⟩
    simp only [PAdler.valiseref23_Adler.l0, List.append_nil]
    rw [if_neg (by omega)]
    have w1 : wrap64 (b * 65536) = b * 65536 := wrap_id (by omega) (by omega)
    have w2 : wrap64 (b * 65536 + a) = b * 65536 + a := wrap_id (by omega) (by omega)
    rw [w1, w2]
    simp only [wt, sm, List.length_nil]
    have e1 : (b + ((0 : Nat) : Int) * a + 0) % 65521 = b := by rw [Int.ofNat_zero, Int.zero_mul]; omega
    have e2 : (a + 0) % 65521 = a := by omega
    have e3 : (b * 65536 + a) % 4294967296 = b * 65536 + a := by omega
    rw [e1, e2, e3]
  | cons c t ih =>
    intro pre a b k hB ha0 ha hb0 hb hn hk
    obtain ⟨k, rfl⟩ : ∃ m, k = m + 1 := ⟨k - 1, by omega⟩
    have hc := hB c (by simp)
    have hl : ((pre ++ c :: t).length : Int) = (pre.length : Int) + (t.length : Int) + 1 := by simp; omega
    have hl' := hn
    rw [List.length_append, List.length_cons] at hl'
    simp only [PAdler.valiseref23_Adler.l0]
    rw [if_pos (by rw [hl]; omega), if_pos (by omega), rd_at]
    have e1 : wrap64 c = c := wrap_id (by omega) (by omega)
    have e2 : wrap64 (a + c) = a + c := wrap_id (by omega) (by omega)
    have e3 : Int.tmod (a + c) 65521 = (a + c) % 65521 := Int.tmod_eq_emod_of_nonneg (by omega)
    have e4 : wrap64 (b + (a + c) % 65521) = b + (a + c) % 65521 := wrap_id (by omega) (by omega)
    have e5 : Int.tmod (b + (a + c) % 65521) 65521 = (b + (a + c) % 65521) % 65521 := Int.tmod_eq_emod_of_nonneg (by omega)
    have e6 : wrap64 ((pre.length : Int) + 1) = ((pre ++ [c]).length : Int) := by rw [wrap_id (by omega) (by omega)]; simp
    have e7 : pre ++ c :: t = (pre ++ [c]) ++ t := by simp
    rw [e1, e2, e3, e4, e5, e6, e7]
    rw [ih (pre ++ [c]) _ _ k (fun x hx => hB x (List.mem_cons_of_mem _ hx)) (by omega) (by omega) (by omega) (by omega) (by rw [← e7]; exact hn) (by simp at hk; omega)]
    rw [adler_step a b c (t.length : Int) (wt t)]
    have e9 : (((c :: t).length : Nat) : Int) = (t.length : Int) + 1 := by simp
    rw [e9]
    simp only [wt, sm]
    have e8 : ((a + c) % 65521 + sm t) % 65521 = (a + (c + sm t)) % 65521 := by omega
    rw [e8]
theorem ref_eq (l : List Int) (hB : Bytes l) (hn : l.length ≤ 140737488351232) (k : Nat) (hk : l.length < k) : valiseref23_Adler.f k l = some (adl l) := by
  unfold valiseref23_Adler.f adl
  have h := ref_loop l [] 1 0 k hB (by omega) (by omega) (by omega) (by omega) (by simpa using hn) hk
  simp only [List.nil_append, List.length_nil] at h
  have e : (0 + (l.length : Int) * 1 + wt l) = (l.length : Int) + wt l := by rw [Int.mul_one]; omega
  rw [e] at h
  exact h
theorem join_same (a1 a2 n : Int) (h1 : 0 ≤ a1 ∧ a1 < 4294967296) (h2 : 0 ≤ a2 ∧ a2 < 4294967296) : ∃ s e : Int, wrap_JoinAdler.f a1 a2 n = some (s, e) ∧ valiseref23_JoinAdler.f a1 a2 n = some (s, e) := by
  unfold wrap_JoinAdler.f valiseref23_JoinAdler.f
  by_cases c1 : n < 0
  · exact ⟨0, 1, by rw [if_pos c1], by rw [if_pos c1]⟩
  by_cases c2 : n > 16777216
  · exact ⟨0, 1, by rw [if_neg c1, if_pos c2], by rw [if_neg c1, if_pos c2]⟩
  rw [if_neg c1, if_neg c2, if_neg c1, if_neg c2, and_low a1 h1.1 h1.2, and_low a2 h2.1 h2.2]
  have t1 : wrap64 a1 = a1 := wrap_id (by omega) (by omega)
  have t2 : wrap64 a2 = a2 := wrap_id (by omega) (by omega)
  have t3 : Int.tdiv a1 65536 = a1 / 65536 := Int.tdiv_eq_ediv_of_nonneg h1.1
  have t4 : Int.tdiv a2 65536 = a2 / 65536 := Int.tdiv_eq_ediv_of_nonneg h2.1
  have t5 : Int.tmod a1 65536 = a1 % 65536 := Int.tmod_eq_emod_of_nonneg h1.1
  have t6 : Int.tmod a2 65536 = a2 % 65536 := Int.tmod_eq_emod_of_nonneg h2.1
  rw [t1, t2, t3, t4, t5, t6]
  generalize hA1 : a1 % 65536 = A1
  generalize hA2 : a2 % 65536 = A2
  generalize hB1 : a1 / 65536 = B1
  generalize hB2 : a2 / 65536 = B2
  have b1 : 0 ≤ A1 ∧ A1 < 65536 := by omega
  have b2 : 0 ≤ A2 ∧ A2 < 65536 := by omega
  have b3 : 0 ≤ B1 ∧ B1 < 65536 := by omega
  have b4 : 0 ≤ B2 ∧ B2 < 65536 := by omega
  have w1 : wrap64 A1 = A1 := wrap_id (by omega) (by omega)
  have w2 : wrap64 A2 = A2 := wrap_id (by omega) (by omega)
  have w3 : wrap64 B1 = B1 := wrap_id (by omega) (by omega)
  have w4 : wrap64 B2 = B2 := wrap_id (by omega) (by omega)
  have w5 : wrap64 (A1 + A2) = A1 + A2 := wrap_id (by omega) (by omega)
  have w6 : wrap64 (A1 + A2 + 65521) = A1 + A2 + 65521 := wrap_id (by omega) (by omega)
  have w7 : wrap64 (A1 + A2 + 65521 - 1) = A1 + A2 + 65520 := by rw [wrap_id (by omega) (by omega)]; omega
  have w7' : wrap64 (A1 + A2 + 65520) = A1 + A2 + 65520 := wrap_id (by omega) (by omega)
  have w8 : wrap64 (A1 + 65521) = A1 + 65521 := wrap_id (by omega) (by omega)
  have w9 : wrap64 (A1 + 65521 - 1) = A1 + 65520 := by rw [wrap_id (by omega) (by omega)]; omega
  have w9' : wrap64 (A1 + 65520) = A1 + 65520 := wrap_id (by omega) (by omega)
  have w10 : wrap64 (B1 + B2) = B1 + B2 := wrap_id (by omega) (by omega)
  have hp : 0 ≤ n * (A1 + 65520) ∧ n * (A1 + 65520) ≤ 16777216 * 131056 := by
    constructor
    · exact Int.mul_nonneg (by omega) (by omega)
    · exact Int.mul_le_mul (by omega) (by omega) (by omega) (by omega)
  have w11 : wrap64 (n * (A1 + 65520)) = n * (A1 + 65520) := wrap_id (by omega) (by omega)
  have w12 : wrap64 (B1 + B2 + n * (A1 + 65520)) = B1 + B2 + n * (A1 + 65520) := wrap_id (by omega) (by omega)
  rw [w1, w2, w3, w4, w5, w6, w7, w7', w8, w9, w9', w10, w11, w12]
  rw [Int.tmod_eq_emod_of_nonneg (by omega), Int.tmod_eq_emod_of_nonneg (by omega)]
  generalize hX : (B1 + B2 + n * (A1 + 65520)) % 65521 = X
  generalize hY : (A1 + A2 + 65520) % 65521 = Y
  have x1 : 0 ≤ X ∧ X < 65521 := by omega
  have y1 : 0 ≤ Y ∧ Y < 65521 := by omega
  rw [or_join X Y (by omega) (by omega) (by omega) (by omega)]
  have w13 : wrap64 (X * 65536) = X * 65536 := wrap_id (by omega) (by omega)
  have w14 : wrap64 (X * 65536 + Y) = X * 65536 + Y := wrap_id (by omega) (by omega)
  have w15 : (X * 65536 + Y) % 4294967296 = X * 65536 + Y := by omega
  rw [w13, w14, w15]
  exact ⟨_, _, rfl, rfl⟩

theorem walk (a0 : Option Addr) (len0 cap0 : Nat) (z0 : List Int) (a1 : Int) (a2 : Int) (a3 : Int) (w : World) (w0 : (a0 = none ∧ len0 = 0 ∧ cap0 = 0 ∧ z0 = []) ∨ ∃ x, a0 = some x ∧ len0 ≤ cap0 ∧ cap0 ≤ maxLen ∧ z0.length = cap0 ∧ (∀ i, i < z0.length → w.cell? (x.add i) = some (.int .u8 (z0.getD i 0))) ∧ ∀ n ∈ z0, (Lit.int .u8 n).wf = true) (y0 : len0 * 1 ≤ 140737488351232) (w1 : (Lit.int .u32 a1).wf = true) (w2 : (Lit.int .u32 a2).wf = true) (w3 : (Lit.int .i64 a3).wf = true) :
    Calls Try.prog 3 #[.slice a0 len0 cap0, .int .u32 a1, .int .u32 a2, .int .i64 a3] w fun e w' => e = .returned (.bool true) ∧ Below w.heap.size w w' := by
  obtain ⟨l0, rfl, hr0, hm0, hw0, hc0⟩ := ReadsInt.ofRowC w0
  have hn : l0.length ≤ 140737488351232 := by omega
  have b0 := bytes_of l0 hw0
  have u32 : ∀ a : Int, (Lit.int .u32 a).wf = true → 0 ≤ a ∧ a < 4294967296 := by
    intro a h
    simp [Lit.wf, IntKind.min, IntKind.max, IntKind.signed, IntKind.bits] at h
    omega
  obtain ⟨s, e, h3, h4⟩ := join_same a1 a2 a3 (u32 a1 w1) (u32 a2 w2)
  exact law_walk (l0.length + 1) _ _ l0 a1 a2 a3 s e (adl l0) w (Kd.C_of_reads (d := (0 : Int)) (h1 := fun _ => rfl) hr0) hc0 hn (copied_eq l0 hn _ (by omega)) (adler_eq l0 b0 hn _ (by omega)) (ref_eq l0 b0 hn _ (by omega)) h3 h4
end Go.Proofs.Ytpndhoefmepfdaa.AdlerLaw
