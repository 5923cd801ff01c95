/- valiselaw11.DeflateSplits: what its code does, over the contracts of Split, the document's Split, sameInts and apartInts. -/
import Derived.Test.YtpndhoefmepfdaaSplitsPure
import Derived.Test.YtpndhoefmepfdaaApartInts
namespace Go.Proofs.Ytpndhoefmepfdaa.SuWalk
open Go.RowKit Go.Proofs.Ytpndhoefmepfdaa.PSu Go.Proofs.YtpndhoefmepfdaaW.PrintWords Go.Proofs.YtpndhoefmepfdaaW.PrintLast Go.Proofs.YtpndhoefmepfdaaW.PrintMore Go.Proofs.Ytpndhoefmepfdaa.More Go.Proofs.Ytpndhoefmepfdaa.SuSplits
set_option linter.unusedVariables false
theorem ints_from (l : List Int) (hl : l.length ≤ 16777217) : ∀ (n i : Nat), i + n = l.length → ∀ k, n < k → valiselaw11_sameInts.l0 k l l (i : Int) = some true := by
  intro n
  induction n with
  | zero =>
    intro i hi k hk
    obtain ⟨k, rfl⟩ : ∃ q, k = q + 1 := ⟨k - 1, by omega⟩
    rw [valiselaw11_sameInts.l0, if_neg (by omega)]
  | succ n ih =>
    intro i hi k hk
    obtain ⟨k, rfl⟩ : ∃ q, k = q + 1 := ⟨k - 1, by omega⟩
    rw [valiselaw11_sameInts.l0, if_pos (by omega), if_pos (by omega), if_pos (by omega), if_pos rfl, Go.Proofs.Ytpndhoefmepfdaa.SuSums.wrap_id (by omega) (by omega)]
    exact ih (i + 1) (by omega) k (by omega)
theorem ints_same (l : List Int) (hl : l.length ≤ 16777217) : valiselaw11_sameInts.f (l.length + 1) l l = some true := by
  unfold valiselaw11_sameInts.f
  rw [if_pos rfl]
  exact ints_from l hl l.length 0 (by omega) _ (by omega)
theorem num_ok (a : Int) : valiselaw11_num.f a = some a := rfl
set_option maxHeartbeats 8000000 in
set_option maxRecDepth 100000 in
theorem splits_calls (A0 : Option Addr) (c0 : Nat) (l0 : List S47) (w : World) (hr0 : Kd.C k47 w A0 l0.length l0) (hc0 : l0.length ≤ c0) (hb : ∀ t ∈ l0, 0 ≤ t.f2 ∧ t.f2 ≤ 255) (h24 : l0.length * 24 ≤ 140737488351232) :
    Calls Try.prog 6 #[.slice A0 l0.length c0] w fun e w' => e = .returned (.bool true) ∧ Below w.heap.size w w' := by
  have hu47 := Try.underlying47
  obtain ⟨K, rr, er, hsp, href, hrl, _⟩ := splits l0 hb
  have HR0 := Aside0.mk hr0
  have HC0 := Aside0.mk hc0
  have HSP := Aside0.mk hsp
  have HREF := Aside0.mk (href K (Nat.le_refl _))
  have HRL := Aside0.mk hrl
  have HN := Aside0.mk h24
  have HW1 := Aside0.mk (show wrap64 ((l0.length : Int) + 1) = ((l0.length + 1 : Nat) : Int) by unfold wrap64; omega)
  have HB := Aside0.mk (Below.refl w.heap.size w)
  clear hr0 hc0 hsp href hrl h24 hb
  go_enter Try.func6, Try.ntmps6
  go_upto_region 4 with (first
    | ((with_reducible refine gate_dst (N := 17) rfl ?_); refine Go.Proofs.Ytpndhoefmepfdaa.Keep.R_make_cap k47 w.heap.size 47 rfl (N := 17) rfl 45 _ _ rfl l0.length (l0.length + 1) (by omega) rfl (by first | rfl | (show Value.int .i64 (wrap64 ((l0.length : Int) + 1)) = _; rw [HW1.out])) Try.underlying45 (.agg #[(.int .i64 0), (.int .i64 0), (.int .u8 0)]) 24 info47 rfl (by decide) (by omega) z47 (ok := fun _ => True) (okp := fun _ => True) (k47_mkM _ _ _ z47) (fun _ hk => hk) trivial (by have := HN.out; omega) HB.out (Nat.le_refl _) ?_; intro gf w1 hgf ho hb hgr; have HO := Aside0.mk ho; have HB1 := Aside0.mk hb; clear HB; have HB := HB1; clear HB1 ho hb hgr)
    | ((with_reducible refine gate_builtin (b := .copy) (xs := #[.tmp 18, .tmp 19]) rfl ?_); refine R_copyF (P := Try.prog) k47 (fun _ x_ _ w_ b_ o_ hk_ => by obtain rfl := k47_open hk_; exact k47_mkM w_ b_ o_ x_) (w0 := w) w.heap.size rfl (.tmp 18) (.tmp 19) 45 45 rfl Try.underlying45 (size_of_info info47) (by decide) (.slice (some ⟨gf, 0, none⟩) l0.length (l0.length + 1)) (List.replicate l0.length z47) l0 A0 l0.length c0 (fun _ => True) rfl rfl HO.out (Kd.C_below HR0.out HB.out) HB.out (below_size HB.out) ?_; intro w2 ho hb hgr; rw [Go.Proofs.Ytpndhoefmepfdaa.SuSums.copy_whole l0 _ (by simp)] at ho; have HO1 := Aside0.mk ho; have HB1 := Aside0.mk hb; clear HB HO; have HB := HB1; have HO := HO1; clear HB1 HO1 ho hb hgr)
    | ((with_reducible refine gate_builtin (b := .append) (xs := #[.tmp 21, .tmp 23]) rfl ?_); at_builtin; refine Kd.R_append k47 (w0 := w) w.heap.size rfl (.tmp 21) (.tmp 23) 45 47 (.agg #[(.int .i64 0), (.int .i64 0), (.int .u8 0)]) 24 rfl Try.underlying45 info47 rfl (by decide) (by omega) (.slice (some ⟨gf, 0, none⟩) l0.length (l0.length + 1)) l0 ⟨77, 0, 0⟩ [.int .i64 77, .int .i64 0, .int .u8 0] (fun _ => True) (fun _ => False) rfl rfl (k47_mkM _ _ _ ⟨77, 0, 0⟩) (fun _ hk => hk.elim) (fun _ _ => trivial) HO.out HB.out (below_size HB.out) (by have := HN.out; omega) ?_; intro vf w3 ho hb hgr hat; have HO1 := Aside0.mk ho; have HB1 := Aside0.mk hb; clear HB HO; have HB := HB1; have HO := HO1; clear HB1 HO1 ho hb hgr hat)
    | fail)
  obtain ⟨Af, cf, hvf⟩ := Kd.R_slice HO.out
  subst hvf
  have hrd := Kd.R_reads' HO.out
  have hlen : (l0 ++ [(⟨77, 0, 0⟩ : S47)]).length = l0.length + 1 := by simp
  rw [hlen] at hrd
  rw [hlen]
  have hCI := Kd.C_take (m := l0.length) (show Kd.C k47 w3 Af (l0 ++ [(⟨77, 0, 0⟩ : S47)]).length (l0 ++ [⟨77, 0, 0⟩]) by rw [hlen]; exact hrd.2.2) (by omega)
  rw [List.take_left] at hCI
  obtain ⟨i0, hi0, _, hsz0, _⟩ := info_parts info47
  have hcut := cut_to (P := Try.prog) 45 47 .i64 Try.underlying45 hi0 Af (l0.length + 1) cf (l0.length : Int) (by omega) (by omega) hrd.2.1
  rw [Int.toNat_natCast] at hcut
  have HCF := Aside0.mk hrd.2.2
  have HCI := Aside0.mk hCI
  have HLC := Aside0.mk (show l0.length ≤ cf by have := hrd.2.1; omega)
  clear hrd hCI hi0 hsz0 HO hlen
  go_wp2_with fail
  go_at_call 25
  refine (deflate_Split.calls Af cf l0 rr er _ HCI.out HLC.out HSP.out).mono ?_
  rintro e w4 ⟨v5, rfl, ho5, hb5⟩
  obtain ⟨A5, c5, rfl⟩ := Kd.R_slice ho5
  have HB4 := Aside0.mk (below_step HB.out hb5)
  have HCF4 := Aside0.mk (Kd.C_below HCF.out hb5)
  have HCI4 := Aside0.mk (Kd.C_below HCI.out hb5)
  have H5 := Aside0.mk (Kd.R_lower ho5 (below_size HB.out))
  clear HB HCF HCI ho5 hb5
  go_wp2_with fail
  go_at_call 26
  refine (valiseref11_Split.calls K A0 c0 l0 rr er _ (Kd.C_below HR0.out HB4.out) HC0.out HREF.out).mono ?_
  rintro e w5 ⟨v7, rfl, ho7, hb7⟩
  obtain ⟨A7, c7, rfl⟩ := Kd.R_slice ho7
  have HB5 := Aside0.mk (below_step HB4.out hb7)
  have HCF5 := Aside0.mk (Kd.C_below HCF4.out hb7)
  have HCI5 := Aside0.mk (Kd.C_below HCI4.out hb7)
  have H55 := Aside0.mk (Kd.R_below H5.out hb7)
  have H7 := Aside0.mk (Kd.R_lower ho7 (below_size HB4.out))
  clear HB4 HCF4 HCI4 H5 ho7 hb7
  obtain ⟨ad1, e1, hx0, hx1, hx2⟩ := at_T47 HCF5.out (l0.length : Int) (by omega) (by omega)
  cases e1
  rw [show rd_T47 (l0 ++ [(⟨77, 0, 0⟩ : S47)]) (l0.length : Int) = ⟨77, 0, 0⟩ from Go.Proofs.Ytpndhoefmepfdaa.SuSums.rdT_at l0 _ []] at hx0 hx1 hx2
  have f1 : ((l0.length : Int) < ((l0.length + 1 : Nat) : Int)) = True := eq_true (by omega)
  have f3 : (0 ≤ (l0.length : Int)) = True := eq_true (by omega)
  rw [Int.toNat_natCast] at hx0
  go_wp2_with fail
  go_loopg [9] (l0.length + 1) (fun kq v9 w' => ∃ i : Int, v9 = .int .i64 i ∧ Aside0 (0 ≤ i ∧ i ≤ (l0.length : Int) ∧ kq = ((l0.length : Int) - i).toNat + 1) ∧ Drawn0 w5 w')
  case atStart => exact ⟨0, rfl, ⟨⟨by omega, by omega, by omega⟩⟩, by repeat (first | exact Drawn0.refl _ | apply Drawn0.step)⟩
  case round =>
    obtain ⟨i, rfl, HI, ⟨md, rfl⟩⟩ := hrel
    cases gk with
    | zero => exact absurd HI.out.2.2 (by omega)
    | succ k2 =>
      have h0 := HI.out.1
      by_cases c8 : i < (l0.length : Int)
      · have c8b0 : decide (i < (l0.length : Int)) = true := decide_eq_true c8
        obtain ⟨ad2, e2, hy0, hy1, hy2⟩ := at_T47 HCI5.out i h0 c8
        cases e2
        obtain ⟨ad3, e3, hz0, hz1, hz2⟩ := at_T47 HR0.out i h0 c8
        cases e3
        replace hz0 := (HB5.out.cell (World.block_lt_of_cell? w _ hz0)).trans hz0
        replace hz1 := (HB5.out.cell (World.block_lt_of_cell? w _ hz1)).trans hz1
        replace hz2 := (HB5.out.cell (World.block_lt_of_cell? w _ hz2)).trans hz2
        have HW := Aside0.mk (show wrap64 (i + 1) = i + 1 by have := HN.out; unfold wrap64; omega)
        have HI' := Aside0.mk (show 0 ≤ i + 1 ∧ i + 1 ≤ (l0.length : Int) ∧ k2 = ((l0.length : Int) - (i + 1)).toNat + 1 by have h := HI.out; omega)
        replace h0 := eq_true h0
        replace c8 := eq_true c8
        clear HI hx0 hx1 hx2 f1
        go_wp2_with fail
        refine still_tail_drew 8 (by kernel_rfl) (by kernel_rfl) ?_
        simp only [List.take_succ_cons, List.take_zero, List.drop_succ_cons, List.drop_zero]
        repeat still_step
        refine wpStill_nil ?_
        go_wp2
        go_roundg k2
        case measure => omega
        case rel => exact ⟨wrap64 (i + 1), (by first | rfl | (simp; done) | (simp [*]; done)), ⟨by rw [HW.out]; exact HI'.out⟩, ⟨md + 1, rfl⟩⟩
      · have c8b0 : decide (i < (l0.length : Int)) = false := decide_eq_false c8
        clear HI h0 c8 hx0 hx1 hx2 f1 f3
        have HCI6 := Aside0.mk (Kd.C_drewN HCI5.out md)
        have H56 := Aside0.mk (Kd.R_drewN H55.out md)
        have H76 := Aside0.mk (Kd.R_drewN H7.out md)
        have HB6 := Aside0.mk (pw_below_drewN HB5.out md)
        clear HCI5 HCF5 H55 H7 HB5
        generalize w5.drewN md = w6 at HCI6 H56 H76 HB6 ⊢
        go_wp2_with fail
        go_at_call 25
        refine (deflate_Split.calls (some ad1) cf l0 rr er _ HCI6.out HLC.out HSP.out).mono ?_
        rintro e w7 ⟨v10, rfl, ho10, hb10⟩
        obtain ⟨A10, c10, rfl⟩ := Kd.R_slice ho10
        have ND := Aside0.mk (show ∀ k, (Value.slice A5 rr.length c5).ownBlock = some k → (Value.slice A10 rr.length c10).ownBlock ≠ some k from fun k hk he => by
          have h1 := Kd.R_lt H56.out k hk
          have h2 := Kd.R_base ho10 k he
          omega)
        have H57 := Aside0.mk (Kd.R_below H56.out hb10)
        have H77 := Aside0.mk (Kd.R_below H76.out hb10)
        have H10 := Aside0.mk (Kd.R_lower ho10 (below_size HB6.out))
        have HB7 := Aside0.mk (below_step HB6.out hb10)
        clear HCI6 H56 H76 HB6 ho10 hb10
        go_wp2_with fail
        go_at_call 27
        refine (valiselaw11_sameInts.calls (rr.length + 1) A5 c5 rr A7 c7 rr true _ (Kd.R_reads' H57.out).2.2 (Kd.R_reads' H57.out).2.1 (Kd.R_reads' H77.out).2.2 (Kd.R_reads' H77.out).2.1 (ints_same rr HRL.out)).mono ?_
        rintro e w8 ⟨rfl, ⟨m1, rfl⟩⟩
        go_wp2_with fail
        go_at_call 22
        refine (valiselaw11_num.calls er er _ (num_ok er)).mono ?_
        rintro e w9 ⟨rfl, ⟨m2, rfl⟩⟩
        go_wp2_with fail
        go_at_call 27
        refine (valiselaw11_sameInts.calls (rr.length + 1) A10 c10 rr A7 c7 rr true _ (Kd.C_drewN (Kd.R_reads' H10.out).2.2 (m1 + m2)) (Kd.R_reads' H10.out).2.1 (Kd.C_drewN (Kd.R_reads' H77.out).2.2 (m1 + m2)) (Kd.R_reads' H77.out).2.1 (ints_same rr HRL.out)).mono ?_
        rintro e w10 ⟨rfl, ⟨m3, rfl⟩⟩
        go_wp2_with fail
        go_at_call 28
        refine (Go.Proofs.Ytpndhoefmepfdaa.SuApart.apartInts_calls (w7.drewN (m1 + m2 + m3)) w.heap.size _ _ rr rr (below_size (pw_below_drewN HB7.out (m1 + m2 + m3))) (Kd.R_drewN H57.out (m1 + m2 + m3)) (Kd.R_drewN H10.out (m1 + m2 + m3)) ND.out HRL.out HRL.out).mono ?_
        rintro e w11 ⟨rfl, hb11⟩
        have HB11 := Aside0.mk (Below.trans (pw_below_drewN HB7.out (m1 + m2 + m3)) hb11)
        go_wp2_with fail
        go_ret
        exact ⟨rfl, HB11.out⟩
end Go.Proofs.Ytpndhoefmepfdaa.SuWalk
