/- valiselaw11.framed: a row of one's own: the bytes and the four marks. -/
import Derived.Test.YtpndhoefmepfdaaPStx1
import Derived.Test.YtpndhoefmepfdaaKeep
import Derived.Test.YtpndhoefmepfdaaStoresPure
namespace Go.Proofs.Ytpndhoefmepfdaa.StFramed
open Go.RowKit Go.Proofs.Ytpndhoefmepfdaa.PSt Go.Proofs.YtpndhoefmepfdaaW.PrintWords Go.Proofs.YtpndhoefmepfdaaW.PrintLast Go.Proofs.YtpndhoefmepfdaaW.PrintMore Go.Proofs.Ytpndhoefmepfdaa.More
set_option linter.unusedVariables false
set_option maxHeartbeats 8000000 in
set_option maxRecDepth 100000 in
theorem framed_calls (A0 : Option Addr) (c0 : Nat) (l0 : List Int) (w : World) (hr0 : Kd.C (Kd.int .u8) w A0 l0.length l0) (hc0 : l0.length ≤ c0) (h47 : l0.length ≤ 140737488351232) :
    Calls Try.prog 16 #[.slice A0 l0.length c0] w fun e w' => ∃ v0_ : Value, e = .returned (v0_) ∧ Kd.R (Kd.int .u8) 5 w' w.heap.size (fun _ => True) v0_ (l0 ++ [192, 193, 194, 195]) ∧ Below w.heap.size w w' := by
  have HR0 := Aside0.mk hr0
  have HC0 := Aside0.mk hc0
  have HN := Aside0.mk h47
  have HW1 := Aside0.mk (show wrap64 ((l0.length : Int) + 4) = ((l0.length + 4 : Nat) : Int) by unfold wrap64; omega)
  have HB := Aside0.mk (Below.refl w.heap.size w)
  clear hr0 hc0 h47
  go_enter Try.func16, Try.ntmps16
  go_wp2_with (first
    | ((with_reducible refine gate_dst (N := 9) rfl ?_); refine Go.Proofs.Ytpndhoefmepfdaa.Keep.R_make_cap (Kd.int .u8) w.heap.size 5 rfl (N := 9) rfl 22 _ _ rfl l0.length (l0.length + 4) (by omega) rfl (by first | rfl | (show Value.int .i64 (wrap64 ((l0.length : Int) + 4)) = _; rw [HW1.out])) Try.underlying22 (.int .u8 0) 1 info5 rfl (by decide) (by omega) (0 : Int) (ok := fun _ => True) (okp := fun _ => True) rfl (fun _ hk => hk) trivial (by have := HN.out; omega) HB.out (Nat.le_refl _) ?_; intro gf w1 hgf ho hb hgr; have HO := Aside0.mk ho; have HB1 := Aside0.mk hb; clear HB; have HB := HB1; clear HB1 ho hb hgr)
    | ((with_reducible refine gate_builtin (b := .copy) (xs := #[.tmp 10, .tmp 11]) rfl ?_); refine R_copyF (P := Try.prog) (Kd.int .u8) (flat_int .u8) (w0 := w) w.heap.size rfl (.tmp 10) (.tmp 11) 22 22 rfl Try.underlying22 (size_of_info info5) (by decide) (.slice (some ⟨gf, 0, none⟩) l0.length (l0.length + 4)) (List.replicate l0.length 0) l0 A0 l0.length c0 (fun _ => True) rfl rfl HO.out (Kd.C_below HR0.out HB.out) HB.out (below_size HB.out) ?_; intro w2 ho hb hgr; rw [Go.Proofs.Ytpndhoefmepfdaa.StPure.copy_whole l0 _ (by simp)] at ho; have HO1 := Aside0.mk ho; have HB1 := Aside0.mk hb; clear HB HO; have HB := HB1; have HO := HO1; clear HB1 HO1 ho hb hgr)
    | ((with_reducible refine gate_dst (N := 14) rfl ?_); refine Kd.R_lit (Kd.int .u8) _ 5 ?hg (N := 14) ?hd (xs := ([192, 193, 194, 195] : List Int)) (inner := [.int .u8 192, .int .u8 193, .int .u8 194, .int .u8 195]) (ok := fun _ => True) (okp := fun _ => True) ?hr ?hp (fun _ hk => hk) trivial (Below.refl _ _) (Nat.le_refl _) (by simp) ?_; (case hd => rfl); (case hg => rfl); (case hr => first | (go_simp; done) | (go_simp; rfl)); (case hp => exact (Reps.one (show Kd.M (Kd.int .u8) _ _ _ _ [_] from rfl) (Reps.one (show Kd.M (Kd.int .u8) _ _ _ _ [_] from rfl) (Reps.one (show Kd.M (Kd.int .u8) _ _ _ _ [_] from rfl) (Reps.one (show Kd.M (Kd.int .u8) _ _ _ _ [_] from rfl) (Reps.none _ _)))))); intro v14 w3 ho hb hg_ hnew_; obtain ⟨Ao, co, rfl⟩ := Kd.R_slice ho; have HL := Aside0.mk (Kd.R_lower ho (below_size HB.out)); have HO1 := Aside0.mk (Kd.R_below HO.out hb); have HB1 := Aside0.mk (below_step HB.out hb); clear HO HB ho hb hg_ hnew_)
    | ((with_reducible refine gate_builtin (b := .append) (xs := #[.tmp 13, .tmp 14]) rfl ?_); at_builtin; refine Kd.R_append_rows (Kd.int .u8) (w0 := w) w.heap.size rfl (.tmp 13) (.tmp 14) 22 5 (.int .u8 0) 1 rfl Try.underlying22 info5 rfl (by decide) (by omega) (.slice (some ⟨gf, 0, none⟩) l0.length (l0.length + 4)) l0 ([192, 193, 194, 195] : List Int) _ _ _ (fun _ => True) (fun _ => False) rfl rfl HO1.out (Kd.R_reads' HL.out).2.2 (fun _ _ h => h) (fun _ h => h.elim) (fun _ _ => trivial) HB1.out (below_size HB1.out) (by have := HN.out; simp; omega) ?_; intro v15 w4 ho hb hgr hat; have HO2 := Aside0.mk ho; have HB2 := Aside0.mk hb; clear HO1 HB1 HL ho hb hgr hat)
    | fail)
  go_ret
  exact ⟨_, rfl, HO2.out, HB2.out⟩
end Go.Proofs.Ytpndhoefmepfdaa.StFramed
