/- valiselaw11.DeflateStores: what its code does, over the contracts of its callees. -/
import Derived.Test.YtpndhoefmepfdaaFramed
import Derived.Test.YtpndhoefmepfdaaApart
namespace Go.Proofs.Ytpndhoefmepfdaa.StWalk
open Go.RowKit Go.Proofs.Ytpndhoefmepfdaa.PSt Go.Proofs.YtpndhoefmepfdaaW.PrintWords Go.Proofs.YtpndhoefmepfdaaW.PrintLast Go.Proofs.YtpndhoefmepfdaaW.PrintMore Go.Proofs.Ytpndhoefmepfdaa.More Go.Proofs.Ytpndhoefmepfdaa.StPure
set_option linter.unusedVariables false
def two {α : Type} (a b : α) : Nat → α := fun i => if i = 0 then a else b
theorem num_ok (a : Int) : valiselaw11_num.f a = some a := rfl
set_option maxHeartbeats 8000000 in
set_option maxRecDepth 100000 in
theorem stores_calls (A0 : Option Addr) (c0 : Nat) (l0 : List Int) (w : World) (hr0 : Kd.C (Kd.int .u8) w A0 l0.length l0) (hc0 : l0.length ≤ c0) (h47 : l0.length ≤ 140737488351232) :
    Calls Try.prog 5 #[.slice A0 l0.length c0] w fun e w' => e = .returned (.bool true) ∧ Below w.heap.size w w' := by
  obtain ⟨K, rr, er, hsp, href, hrl, hcase, b, z, hbd⟩ := stores l0
  have HR0 := Aside0.mk hr0
  have HC0 := Aside0.mk hc0
  have HSP := Aside0.mk hsp
  have HREF := Aside0.mk href
  have HRL := Aside0.mk hrl
  have HN := Aside0.mk h47
  have HBD := Aside0.mk hbd
  have HCASE := Aside0.mk (show er ≠ 0 ∨ (er = 0 ∧ b = (rr.length : Int) ∧ z = 0) by
    rcases hcase with h | ⟨h, h2⟩
    · exact .inl h
    · rw [hbd] at h2
      injection h2 with h2
      injection h2 with h3 h4
      exact .inr ⟨h, h3, h4⟩)
  clear hr0 hc0 hsp href hrl h47 hbd hcase
  go_enter Try.func5, Try.ntmps5
  go_wp2_with fail
  go_at_call 16
  refine (Go.Proofs.Ytpndhoefmepfdaa.StFramed.framed_calls A0 c0 l0 _ HR0.out HC0.out HN.out).mono ?_
  rintro e w1 ⟨v3, rfl, ho, hb⟩
  obtain ⟨Af, cf, rfl⟩ := Kd.R_slice ho
  have HB := Aside0.mk hb
  have hrd := Kd.R_reads' ho
  have hlen : (l0 ++ [192, 193, 194, 195] : List Int).length = l0.length + 4 := by simp
  rw [hlen] at hrd
  have hCI := Kd.C_take (m := l0.length) (show Kd.C (Kd.int .u8) w1 Af (l0 ++ [192, 193, 194, 195] : List Int).length (l0 ++ [192, 193, 194, 195]) by rw [hlen]; exact hrd.2.2) (by omega)
  rw [List.take_left] at hCI
  obtain ⟨i0, hi0, _, hsz0, _⟩ := info_parts info5
  have hcut := cut_to (P := Try.prog) 22 5 .i64 Try.underlying22 hi0 Af (l0 ++ [192, 193, 194, 195] : List Int).length cf (l0.length : Int) (by omega) (by omega) (by rw [hlen]; exact hrd.2.1)
  rw [Int.toNat_natCast] at hcut
  have HCF := Aside0.mk (show Kd.C (Kd.int .u8) w1 Af (l0 ++ [192, 193, 194, 195] : List Int).length (l0 ++ [192, 193, 194, 195]) ∧ (l0 ++ [192, 193, 194, 195] : List Int).length ≤ cf by rw [hlen]; exact ⟨hrd.2.2, hrd.2.1⟩)
  have HCI := Aside0.mk hCI
  have HLC := Aside0.mk (show l0.length ≤ cf by have := hrd.2.1; omega)
  clear ho hb hrd hCI hi0 hsz0
  generalize hFL : (l0 ++ [192, 193, 194, 195] : List Int) = FL at HCF hcut hlen ⊢
  have HFL := Aside0.mk hFL
  clear hFL hlen
  go_wp2_with fail
  go_at_call 17
  refine (deflate_Stored.calls Af cf l0 rr er _ HCI.out HLC.out HSP.out).mono ?_
  rintro e w2 ⟨v5, rfl, ho, hb⟩
  obtain ⟨A5, c5, rfl⟩ := Kd.R_slice ho
  have H5 := Aside0.mk (Kd.R_lower ho (below_size HB.out))
  have HCF2 := Aside0.mk (show Kd.C (Kd.int .u8) w2 Af FL.length FL ∧ FL.length ≤ cf from ⟨Kd.C_below HCF.out.1 hb, HCF.out.2⟩)
  have HB2 := Aside0.mk (below_step HB.out hb)
  clear HB HCF HCI ho hb
  go_wp2_with fail
  go_at_call 18
  refine (valiseref11_Stored.calls K A0 c0 l0 rr er _ (Kd.C_below HR0.out HB2.out) HC0.out HREF.out).mono ?_
  rintro e w3 ⟨v7, rfl, ho, hb⟩
  obtain ⟨A7, c7, rfl⟩ := Kd.R_slice ho
  have H7 := Aside0.mk (Kd.R_lower ho (below_size HB2.out))
  have H53 := Aside0.mk (Kd.R_below H5.out hb)
  have HCF3 := Aside0.mk (show Kd.C (Kd.int .u8) w3 Af FL.length FL ∧ FL.length ≤ cf from ⟨Kd.C_below HCF2.out.1 hb, HCF2.out.2⟩)
  have HB3 := Aside0.mk (below_step HB2.out hb)
  clear HB2 HCF2 H5 ho hb
  go_wp2_with fail
  go_at_call 19
  refine (deflate_Bound.calls (l0.length : Int) b z _ HBD.out).mono ?_
  rintro e w4 ⟨rfl, hb⟩
  have H54 := Aside0.mk (Kd.R_below H53.out hb)
  have H74 := Aside0.mk (Kd.R_below H7.out hb)
  have HCF4 := Aside0.mk (show Kd.C (Kd.int .u8) w4 Af FL.length FL ∧ FL.length ≤ cf from ⟨Kd.C_below HCF3.out.1 hb, HCF3.out.2⟩)
  have HB4 := Aside0.mk (below_step HB3.out hb)
  clear HB3 HCF3 H53 H7 hb
  go_wp2_with fail
  go_at_call 20
  refine (valiselaw11_copied.calls A0 c0 l0 l0 _ (Kd.C_below HR0.out HB4.out) HC0.out (copied_eq l0 HN.out)).mono ?_
  rintro e w5 ⟨v38, rfl, ho, hb⟩
  obtain ⟨A8, c8, rfl⟩ := Kd.R_slice ho
  have H8 := Aside0.mk (Kd.R_reads' ho)
  have H55 := Aside0.mk (Kd.R_below H54.out hb)
  have H75 := Aside0.mk (Kd.R_below H74.out hb)
  have HCF5 := Aside0.mk (show Kd.C (Kd.int .u8) w5 Af FL.length FL ∧ FL.length ≤ cf from ⟨Kd.C_below HCF4.out.1 hb, HCF4.out.2⟩)
  have HB5 := Aside0.mk (below_step HB4.out hb)
  clear HB4 HCF4 H54 H74 ho hb
  go_wp2_with fail
  go_at_call 17
  refine (deflate_Stored.calls A8 c8 l0 rr er _ H8.out.2.2 H8.out.2.1 HSP.out).mono ?_
  rintro e w6 ⟨v11, rfl, ho, hb⟩
  obtain ⟨A11, c11, rfl⟩ := Kd.R_slice ho
  have ND := Aside0.mk (show ∀ k, (Value.slice A5 rr.length c5).ownBlock = some k → (Value.slice A11 rr.length c11).ownBlock ≠ some k from fun k hk he => by
    have h1 := Kd.R_lt H55.out k hk
    have h2 := Kd.R_base ho k he
    omega)
  have H56 := Aside0.mk (Kd.R_below H55.out hb)
  have H76 := Aside0.mk (Kd.R_below H75.out hb)
  have H11 := Aside0.mk (Kd.R_lower ho (below_size HB5.out))
  have HCF6 := Aside0.mk (show Kd.C (Kd.int .u8) w6 Af FL.length FL ∧ FL.length ≤ cf from ⟨Kd.C_below HCF5.out.1 hb, HCF5.out.2⟩)
  have HB6 := Aside0.mk (below_step HB5.out hb)
  clear HB5 HCF5 H55 H75 H8 ho hb
  have HS := Aside0.mk (same_self rr (by have := HRL.out; omega))
  go_wp2_with fail
  go_at_call 21
  refine (valiselaw11_same.calls (rr.length + 1) A5 c5 rr A7 c7 rr true _ (Kd.R_reads' H56.out).2.2 (Kd.R_reads' H56.out).2.1 (Kd.R_reads' H76.out).2.2 (Kd.R_reads' H76.out).2.1 HS.out).mono ?_
  rintro e w7 ⟨rfl, ⟨m1, rfl⟩⟩
  go_wp2_with fail
  go_at_call 22
  refine (valiselaw11_num.calls er er _ (num_ok er)).mono ?_
  rintro e w8 ⟨rfl, ⟨m2, rfl⟩⟩
  go_wp2_with fail
  go_at_call 23
  refine (valiselaw11_whole.calls (l0.length + 2) Af cf FL A0 c0 l0 true _ (Kd.C_drewN HCF6.out.1 _) HCF6.out.2 (Kd.C_drewN (Kd.C_below HR0.out HB6.out) _) HC0.out (by rw [← HFL.out]; exact whole_ok l0 HN.out)).mono ?_
  rintro e w9 ⟨rfl, ⟨m3, rfl⟩⟩
  have fin : ∀ W : World, Kd.R (Kd.int .u8) 5 W w.heap.size (fun _ => True) (.slice A5 rr.length c5) rr → Kd.R (Kd.int .u8) 5 W w.heap.size (fun _ => True) (.slice A11 rr.length c11) rr → Below w.heap.size w W →
      Calls Try.prog 24 #[.slice (some ⟨W.heap.size, 0, none⟩) 2 2] (W.alloc (.cells #[.slice A5 rr.length c5, .slice A11 rr.length c11] 22)) fun e w' => e = .returned (.bool true) ∧ Below w.heap.size w w' := by
    intro W h5 h11 hB
    refine (Go.Proofs.Ytpndhoefmepfdaa.StApart.apart_calls (W.alloc (.cells #[.slice A5 rr.length c5, .slice A11 rr.length c11] 22)) w.heap.size 2 W.heap.size (two A5 A11) (fun _ => rr.length) (two c5 c11) (fun _ => rr) _ (by omega) (below_size hB) (blk_new W _) ?_ ?_ ?_ (fun _ _ => by have := HRL.out; omega)).mono ?_
    · intro i hi
      rcases (show i = 0 ∨ i = 1 by omega) with rfl | rfl <;> rfl
    · intro i hi
      rcases (show i = 0 ∨ i = 1 by omega) with rfl | rfl
      · exact Kd.R_alloc h5 _
      · exact Kd.R_alloc h11 _
    · intro i j hi hj hij k hk he
      rcases (show (i = 0 ∧ j = 1) ∨ (i = 1 ∧ j = 0) by omega) with ⟨rfl, rfl⟩ | ⟨rfl, rfl⟩
      · exact ND.out k hk he
      · exact ND.out k he hk
    · rintro e w' ⟨he, hb⟩
      exact ⟨he, Below.trans (below_alloc hB _) hb⟩
  have FIN := Aside0.mk fin
  clear fin
  by_cases hz : er = 0
  · obtain ⟨hb0, hz0⟩ : b = (rr.length : Int) ∧ z = 0 := by
      rcases HCASE.out with h | ⟨_, h1, h2⟩
      · exact absurd hz h
      · exact ⟨h1, h2⟩
    subst hz hb0 hz0
    have b1 : ((rr.length : Int) == (rr.length : Int)) = true := beq_iff_eq.2 rfl
    clear HCASE
    go_wp2_with fail
    go_at_call 22
    refine (valiselaw11_num.calls 0 0 _ (num_ok 0)).mono ?_
    rintro e w10 ⟨rfl, ⟨m4, rfl⟩⟩
    go_wp2_with fail
    go_at_call 21
    refine (valiselaw11_same.calls (rr.length + 1) A11 c11 rr A7 c7 rr true _ (Kd.C_drewN (Kd.R_reads' H11.out).2.2 _) (Kd.R_reads' H11.out).2.1 (Kd.C_drewN (Kd.R_reads' H76.out).2.2 _) (Kd.R_reads' H76.out).2.1 HS.out).mono ?_
    rintro e w11 ⟨rfl, ⟨m5, rfl⟩⟩
    go_wp2_with fail
    go_at_call 24
    refine (FIN.out (w6.drewN (m1 + m2 + m3 + m4 + m5)) (Kd.R_drewN H56.out _) (Kd.R_drewN H11.out _) (pw_below_drewN HB6.out _)).mono ?_
    rintro e w12 ⟨rfl, hb12⟩
    have HB12 := Aside0.mk hb12
    go_wp2_with fail
    go_ret
    exact ⟨rfl, HB12.out⟩
  · have z1 : (er != 0) = true := bne_iff_ne.2 hz
    have z2 : (er == 0) = false := beq_eq_false_iff_ne.2 hz
    clear HCASE hz
    go_wp2_with fail
    go_at_call 21
    refine (valiselaw11_same.calls (rr.length + 1) A11 c11 rr A7 c7 rr true _ (Kd.C_drewN (Kd.R_reads' H11.out).2.2 _) (Kd.R_reads' H11.out).2.1 (Kd.C_drewN (Kd.R_reads' H76.out).2.2 _) (Kd.R_reads' H76.out).2.1 HS.out).mono ?_
    rintro e w11 ⟨rfl, ⟨m5, rfl⟩⟩
    go_wp2_with fail
    go_at_call 24
    refine (FIN.out (w6.drewN (m1 + m2 + m3 + m5)) (Kd.R_drewN H56.out _) (Kd.R_drewN H11.out _) (pw_below_drewN HB6.out _)).mono ?_
    rintro e w12 ⟨rfl, hb12⟩
    have HB12 := Aside0.mk hb12
    go_wp2_with fail
    go_ret
    exact ⟨rfl, HB12.out⟩
end Go.Proofs.Ytpndhoefmepfdaa.StWalk
