/- valiselaw11.DeflateEfforts returns true for every two ints and leaves them as they were. Conditions: the row lists the two tables of levels as the program's text lays them (the card ties them); nothing else is asked. -/
import Derived.Test.YtpndhoefmepfdaaDoorCards
import Derived.Test.YtpndhoefmepfdaaDoorTie
import Derived.Test.YtpndhoefmepfdaaDoorFlat
import Derived.Test.YtpndhoefmepfdaaDoorPDeflateEffortsx1
import Derived.WalkKit
import Derived.ProofKit
import Derived.OpenShut
import Derived.Deep.DeepHandedRow
import Derived.Lib.LaidTab
import Derived.Below
import Derived.WalkLawsBesides
import Derived.WalkSpells
import Derived.StillTailTactics
namespace Go.Proofs.YtpndhoefmepfdaaDoor.efforts
open Go.ChangeShapes Go.WideShapes Go.ChangeAt Go.RowKit
open Go.Proofs.YtpndhoefmepfdaaDoor.PDeflateEfforts Go.Proofs.YtpndhoefmepfdaaDoorW.PrintWords Go.Proofs.YtpndhoefmepfdaaDoorW.PrintLast Go.Proofs.YtpndhoefmepfdaaDoorW.PrintMore
set_option linter.unusedVariables false
theorem still_tail_drew {P : Program} {id : Nat} {Q : Exit → Act → World → Prop} {a : Act} {w : World} {l : List Oper} (n : Nat) (hm : P.follows .mixedOrders = true) (hB : Region.lexTailB .any l.toArray n = true)
    (h : wpStill P l.toArray w.drew (fun a' => wpList P l.toArray Q (l.drop n) a' w.drew) (l.take n) a) : (Code.region id l.toArray true).wp P Q a w := wp_region_still_tail n hm hB h
set_option maxHeartbeats 400000 in
theorem eff_ok (w : World) (level a b : Int) (c : Bool) (h0 : 0 ≤ level) (h9 : level ≤ 9) (c9 : ∀ o, (w.alloc o).cell? ⟨0, level.toNat * 3, none⟩ = some (.int .i64 a)) (c10 : ∀ o, (w.alloc o).cell? ⟨0, level.toNat * 3 + 1, none⟩ = some (.int .i64 b)) (c11 : ∀ o, (w.alloc o).cell? ⟨0, level.toNat * 3 + 2, none⟩ = some (.bool c)) :
    Calls Tryd.prog 10 #[.int .i64 level] w fun e w' => e = .returned (.tuple #[.agg #[.int .i64 a, .int .i64 b, .bool c], .int .i64 0]) ∧ Below w.heap.size w w' := by
  go_enter Tryd.func10, Tryd.ntmps10
  go_wp2
  exact bodyPost_ret (v := .tuple #[.agg #[.int .i64 a, .int .i64 b, .bool c], .int .i64 0]) (by simp [results, Tryd.results10, go_sem]) rfl ⟨rfl, (Below.refl _ _).alloc (Nat.le_refl _) _⟩
set_option maxHeartbeats 400000 in
theorem eff_no (w : World) (level : Int) (h0 : level < 0 ∨ 9 < level) :
    Calls Tryd.prog 10 #[.int .i64 level] w fun e w' => e = .returned (.tuple #[.agg #[.int .i64 0, .int .i64 0, .bool false], .int .i64 110]) ∧ Below w.heap.size w w' := by
  rcases h0 with h0 | h0
  · go_enter Tryd.func10, Tryd.ntmps10
    go_wp2
    exact bodyPost_ret (v := .tuple #[.agg #[.int .i64 0, .int .i64 0, .bool false], .int .i64 110]) (by simp [results, Tryd.results10, go_sem]) rfl ⟨rfl, (Below.refl _ _).alloc (Nat.le_refl _) _⟩
  · have h1 : ¬ level < 0 := by omega
    go_enter Tryd.func10, Tryd.ntmps10
    go_wp2
    exact bodyPost_ret (v := .tuple #[.agg #[.int .i64 0, .int .i64 0, .bool false], .int .i64 110]) (by simp [results, Tryd.results10, go_sem]) rfl ⟨rfl, (Below.refl _ _).alloc (Nat.le_refl _) _⟩
set_option maxHeartbeats 400000 in
set_option maxRecDepth 100000 in
theorem ref_ok (w : World) (level a b c : Int) (h0 : 0 ≤ level) (h9 : level ≤ 9) (c9 : ∀ o, (w.alloc o).cell? ⟨1, level.toNat * 3, none⟩ = some (.int .i64 a)) (c10 : ∀ o, (w.alloc o).cell? ⟨1, level.toNat * 3 + 1, none⟩ = some (.int .i64 b)) (c11 : ∀ o, (w.alloc o).cell? ⟨1, level.toNat * 3 + 2, none⟩ = some (.int .i64 c)) :
    Calls Tryd.prog 11 #[.int .i64 level] w fun e w' => e = .returned (.tuple #[.agg #[.int .i64 a, .int .i64 b, .bool (c == 1)], .int .i64 0]) ∧ Below w.heap.size w w' := by
  go_enter Tryd.func11, Tryd.ntmps11
  go_wp2
  refine still_tail_drew 14 (by kernel_rfl) (by kernel_rfl) ?_
  simp only [List.take_succ_cons, List.take_zero, List.drop_succ_cons, List.drop_zero]
  have h10 : level < 10 := by omega
  repeat still_step
  refine wpStill_nil ?_
  go_wp2
  exact bodyPost_ret (v := .tuple #[.agg #[.int .i64 a, .int .i64 b, .bool (c == 1)], .int .i64 0]) (by simp [results, Tryd.results11, go_sem]) rfl ⟨rfl, ((Below.refl _ _).alloc (Nat.le_refl _) _).drew⟩

set_option maxHeartbeats 400000 in
theorem ref_no (w : World) (level : Int) (h0 : level < 0 ∨ 9 < level) :
    Calls Tryd.prog 11 #[.int .i64 level] w fun e w' => e = .returned (.tuple #[.agg #[.int .i64 0, .int .i64 0, .bool false], .int .i64 110]) ∧ Below w.heap.size w w' := by
  rcases h0 with h0 | h0
  · go_enter Tryd.func11, Tryd.ntmps11
    go_wp2
    exact bodyPost_ret (v := .tuple #[.agg #[.int .i64 0, .int .i64 0, .bool false], .int .i64 110]) (by simp [results, Tryd.results11, go_sem]) rfl ⟨rfl, (Below.refl _ _).alloc (Nat.le_refl _) _⟩
  · have h1 : ¬ level < 0 := by omega
    go_enter Tryd.func11, Tryd.ntmps11
    go_wp2
    exact bodyPost_ret (v := .tuple #[.agg #[.int .i64 0, .int .i64 0, .bool false], .int .i64 110]) (by simp [results, Tryd.results11, go_sem]) rfl ⟨rfl, (Below.refl _ _).alloc (Nat.le_refl _) _⟩
/-- What a call answers, in every world that holds the tables. -/
def Ans (L : World → Prop) (f : Nat) (args : Array Value) (v : Value) : Prop := ∀ W, L W → Calls Tryd.prog f args W fun e w' => e = .returned v ∧ Below W.heap.size W w'
set_option maxHeartbeats 1000000 in
set_option maxRecDepth 100000 in
theorem law (L : World → Prop) (hL : ∀ W w', L W → Below W.heap.size W w' → L w') (level n a b x m z : Int) (c : Bool) (w : World) (h0 : L w)
    (h10 : Ans L 10 #[.int .i64 level] (.tuple #[.agg #[.int .i64 a, .int .i64 b, .bool c], .int .i64 x]))
    (h11 : Ans L 11 #[.int .i64 level] (.tuple #[.agg #[.int .i64 a, .int .i64 b, .bool c], .int .i64 x]))
    (h12 : Ans L 12 #[.int .i64 n] (.tuple #[.int .i64 m, .int .i64 z]))
    (h13 : Ans L 13 #[.int .i64 n] (.tuple #[.int .i64 m, .int .i64 z])) :
    Calls Tryd.prog 3 #[.int .i64 level, .int .i64 n] w fun e w' => e = .returned (.bool true) ∧ Below w.heap.size w w' := by
  go_enter Tryd.func3, Tryd.ntmps3
  go_wp2_with fail
  go_at_call 10
  refine (h10 _ h0).mono ?_
  rintro e w1 ⟨rfl, hb1⟩
  have B1 := Aside0.mk (hb1)
  have L1 := Aside0.mk (hL _ _ h0 hb1)
  clear hb1
  go_wp2_with fail
  go_at_call 11
  refine (h11 _ (hL _ _ L1.out ((Below.refl _ _).alloc (Nat.le_refl _) _))).mono ?_
  rintro e w2 ⟨rfl, hb2⟩
  have L2 := Aside0.mk (hL _ _ (hL _ _ L1.out ((Below.refl _ _).alloc (Nat.le_refl _) _)) hb2)
  have X2 := Aside0.mk (blk_below (blk_new w1 (.cells #[.int .i64 a, .int .i64 b, .bool c] 23)) hb2)
  have B2 := Aside0.mk (below_step (below_alloc B1.out _) hb2)
  have Z2 := hb2.size
  simp only [World.size_alloc] at Z2
  clear hb2 B1 L1
  go_wp2_with fail
  go_at_call 12
  refine (h12 _ (hL _ _ L2.out ((Below.refl _ _).alloc (Nat.le_refl _) _))).mono ?_
  rintro e w3 ⟨rfl, hb3⟩
  have L3 := Aside0.mk (hL _ _ (hL _ _ L2.out ((Below.refl _ _).alloc (Nat.le_refl _) _)) hb3)
  have X3 := Aside0.mk (blk_below (blk_alloc X2.out _) hb3)
  have Y3 := Aside0.mk (blk_below (blk_new w2 (.cells #[.int .i64 a, .int .i64 b, .bool c] 23)) hb3)
  have B3 := Aside0.mk (below_step (below_alloc B2.out _) hb3)
  clear hb3 B2 L2 X2
  go_wp2_with fail
  go_at_call 13
  refine (h13 _ L3.out).mono ?_
  rintro e w4 ⟨rfl, hb4⟩
  have X4 := Aside0.mk (blk_below X3.out hb4)
  have Y4 := Aside0.mk (blk_below Y3.out hb4)
  have B4 := Aside0.mk (below_step B3.out hb4)
  clear hb4 B3 L3 X3 Y3
  have x0 : w4.cell? ⟨w1.heap.size, 0, none⟩ = some (.int .i64 a) := blk_cell X4.out 0
  have x1 : w4.cell? ⟨w1.heap.size, 1, none⟩ = some (.int .i64 b) := blk_cell X4.out 1
  have x2 : w4.cell? ⟨w1.heap.size, 2, none⟩ = some (.bool c) := blk_cell X4.out 2
  have y0 : w4.cell? ⟨w2.heap.size, 0, none⟩ = some (.int .i64 a) := blk_cell Y4.out 0
  have y1 : w4.cell? ⟨w2.heap.size, 1, none⟩ = some (.int .i64 b) := blk_cell Y4.out 1
  have y2 : w4.cell? ⟨w2.heap.size, 2, none⟩ = some (.bool c) := blk_cell Y4.out 2
  go_wp2_with fail
  go_at_call 14
  refine (valiselaw11_num.calls x x _ rfl).mono ?_
  rintro e w' ⟨rfl, ⟨nd, rfl⟩⟩
  go_wp2_with fail
  go_at_call 14
  refine (valiselaw11_num.calls z z _ rfl).mono ?_
  rintro e w' ⟨rfl, ⟨nd2, rfl⟩⟩
  go_wp2_with fail
  go_ret
  exact ⟨rfl, pw_below_drewN B4.out _⟩

/-! The tables -/
def lv (a b : Int) (c : Bool) : List Value := [.int .i64 a, .int .i64 b, .bool c]
def levels : List Value := [.int .i64 1, .int .i64 0, .bool false, .int .i64 4096, .int .i64 4, .bool false, .int .i64 8192, .int .i64 8, .bool false, .int .i64 16384, .int .i64 16, .bool false, .int .i64 32768, .int .i64 16, .bool true, .int .i64 32768, .int .i64 32, .bool true, .int .i64 32768, .int .i64 64, .bool true, .int .i64 32768, .int .i64 128, .bool true, .int .i64 32768, .int .i64 512, .bool true, .int .i64 32768, .int .i64 4096, .bool true]
def refLevels : List Value := [.int .i64 1, .int .i64 0, .int .i64 0, .int .i64 4096, .int .i64 4, .int .i64 0, .int .i64 8192, .int .i64 8, .int .i64 0, .int .i64 16384, .int .i64 16, .int .i64 0, .int .i64 32768, .int .i64 16, .int .i64 1, .int .i64 32768, .int .i64 32, .int .i64 1, .int .i64 32768, .int .i64 64, .int .i64 1, .int .i64 32768, .int .i64 128, .int .i64 1, .int .i64 32768, .int .i64 512, .int .i64 1, .int .i64 32768, .int .i64 4096, .int .i64 1]
/-- A world that holds both tables. -/
def L (W : World) : Prop := (∀ i : Nat, i < 30 → W.cell? ⟨0, i, none⟩ = levels[i]?) ∧ (∀ i : Nat, i < 30 → W.cell? ⟨1, i, none⟩ = refLevels[i]?)
theorem L_below (W w' : World) (h : L W) (hb : Below W.heap.size W w') : L w' := by
  refine ⟨fun i hi => ?_, fun i hi => ?_⟩
  · have h1 := h.1 i hi
    have h2 : i < levels.length := hi
    rw [List.getElem?_eq_getElem h2] at h1 ⊢
    exact pw_cell_below hb h1
  · have h1 := h.2 i hi
    have h2 : i < refLevels.length := hi
    rw [List.getElem?_eq_getElem h2] at h1 ⊢
    exact pw_cell_below hb h1
theorem L_of {W : World} (h : laidMetH Tryd.prog Rows.deflateEffortsRow.laid W) : L W :=
  ⟨fun i _ => Flat.cells_of_laid (by kernel_rfl) h "valise/deflate.levels" Rows.laid_valise_deflate_levels (by simp [Rows.deflateEffortsRow]) 0 100 67 levels (by kernel_rfl) (by kernel_rfl) (by kernel_rfl) i,
   fun i _ => Flat.cells_of_laid (by kernel_rfl) h "valise/valiseref11.levels" Rows.laid_valise_valiseref11_levels (by simp [Rows.deflateEffortsRow]) 1 100 69 refLevels (by kernel_rfl) (by kernel_rfl) (by kernel_rfl) i⟩
/-- The levels as both texts tell them. -/
theorem level_of (level : Int) (h0 : 0 ≤ level) (h9 : level ≤ 9) : ∃ (a b : Int) (c : Bool) (z : Int), levels[level.toNat * 3]? = some (.int .i64 a) ∧ levels[level.toNat * 3 + 1]? = some (.int .i64 b) ∧ levels[level.toNat * 3 + 2]? = some (.bool c) ∧
    refLevels[level.toNat * 3]? = some (.int .i64 a) ∧ refLevels[level.toNat * 3 + 1]? = some (.int .i64 b) ∧ refLevels[level.toNat * 3 + 2]? = some (.int .i64 z) ∧ (z == 1) = c := by
  obtain ⟨n, rfl⟩ := Int.eq_ofNat_of_zero_le h0
  rw [Int.toNat_natCast]
  have hn : n ≤ 9 := by omega
  match n, hn with
  | 0, _ => exact ⟨_, _, _, _, rfl, rfl, rfl, rfl, rfl, rfl, rfl⟩
  | 1, _ => exact ⟨_, _, _, _, rfl, rfl, rfl, rfl, rfl, rfl, rfl⟩
  | 2, _ => exact ⟨_, _, _, _, rfl, rfl, rfl, rfl, rfl, rfl, rfl⟩
  | 3, _ => exact ⟨_, _, _, _, rfl, rfl, rfl, rfl, rfl, rfl, rfl⟩
  | 4, _ => exact ⟨_, _, _, _, rfl, rfl, rfl, rfl, rfl, rfl, rfl⟩
  | 5, _ => exact ⟨_, _, _, _, rfl, rfl, rfl, rfl, rfl, rfl, rfl⟩
  | 6, _ => exact ⟨_, _, _, _, rfl, rfl, rfl, rfl, rfl, rfl, rfl⟩
  | 7, _ => exact ⟨_, _, _, _, rfl, rfl, rfl, rfl, rfl, rfl, rfl⟩
  | 8, _ => exact ⟨_, _, _, _, rfl, rfl, rfl, rfl, rfl, rfl, rfl⟩
  | 9, _ => exact ⟨_, _, _, _, rfl, rfl, rfl, rfl, rfl, rfl, rfl⟩
theorem cell_later {W : World} {b i : Nat} {v : Value} (h : W.cell? ⟨b, i, none⟩ = some v) (o : Obj) : (W.alloc o).cell? ⟨b, i, none⟩ = some v := pw_cell_below ((Below.refl _ _).alloc (Nat.le_refl _) _) h
theorem efforts (level : Int) : ∃ (a b : Int) (c : Bool) (x : Int), Ans L 10 #[.int .i64 level] (.tuple #[.agg #[.int .i64 a, .int .i64 b, .bool c], .int .i64 x]) ∧ Ans L 11 #[.int .i64 level] (.tuple #[.agg #[.int .i64 a, .int .i64 b, .bool c], .int .i64 x]) := by
  by_cases h : 0 ≤ level ∧ level ≤ 9
  · obtain ⟨h0, h9⟩ := h
    obtain ⟨a, b, c, z, e0, e1, e2, f0, f1, f2, hz⟩ := level_of level h0 h9
    refine ⟨a, b, c, 0, fun W hW => ?_, fun W hW => ?_⟩
    · exact eff_ok W level a b c h0 h9 (cell_later ((hW.1 _ (by omega)).trans e0)) (cell_later ((hW.1 _ (by omega)).trans e1)) (cell_later ((hW.1 _ (by omega)).trans e2))
    · subst hz
      exact ref_ok W level a b z h0 h9 (cell_later ((hW.2 _ (by omega)).trans f0)) (cell_later ((hW.2 _ (by omega)).trans f1)) (cell_later ((hW.2 _ (by omega)).trans f2))
  · have h' : level < 0 ∨ 9 < level := by omega
    exact ⟨0, 0, false, 110, fun W _ => eff_no W level h', fun W _ => ref_no W level h'⟩

/-! The bound -/
theorem wrap_id {x : Int} (h0 : -9223372036854775808 ≤ x) (h1 : x ≤ 9223372036854775807) : wrap64 x = x := by unfold wrap64; omega
theorem bounds (n : Int) : ∃ m z : Int, Ans L 12 #[.int .i64 n] (.tuple #[.int .i64 m, .int .i64 z]) ∧ Ans L 13 #[.int .i64 n] (.tuple #[.int .i64 m, .int .i64 z]) := by
  have key : ∃ m z : Int, deflate_Bound.f n = some (m, z) ∧ valiseref11_Bound.f (0 + 1) n = some (m, z) := by
    unfold deflate_Bound.f valiseref11_Bound.f
    by_cases h0 : n < 0
    · exact ⟨0, 1, by rw [if_pos h0], by rw [if_pos h0]; rfl⟩
    · by_cases h1 : n > 16777216
      · exact ⟨0, 1, by rw [if_neg h0, if_pos h1], by rw [if_neg h0]; rw [valiseref11_Bound.j0, if_pos (decide_eq_true h1)]⟩
      · have w1 : wrap64 (n + 65535) = n + 65535 := wrap_id (by omega) (by omega)
        have w2 : wrap64 (n + 65535 - 1) = n + 65534 := by rw [wrap_id (by omega) (by omega)]; omega
        have w3 : Int.tdiv (n + 65534) 65535 = (n + 65534) / 65535 := Int.tdiv_eq_ediv_of_nonneg (by omega)
        have w4 : wrap64 ((n + 65534) / 65535) = (n + 65534) / 65535 := wrap_id (by omega) (by omega)
        have w5 : Int.tdiv n 65535 = n / 65535 := Int.tdiv_eq_ediv_of_nonneg (by omega)
        have w6 : wrap64 (n / 65535) = n / 65535 := wrap_id (by omega) (by omega)
        have w7 : wrap64 (n / 65535 * 65535) = n / 65535 * 65535 := wrap_id (by omega) (by omega)
        have w8 : wrap64 (n / 65535 + 1) = n / 65535 + 1 := wrap_id (by omega) (by omega)
        refine ⟨_, _, by rw [if_neg h0, if_neg h1], ?_⟩
        rw [if_neg h0]
        rw [valiseref11_Bound.j0, decide_eq_false h1, if_neg (by decide), w1, w2, w3, w4, w5, w6, w7, w8]
        by_cases h2 : n / 65535 * 65535 < n
        · rw [if_pos h2]
          have : mx 1 ((n + 65534) / 65535) = n / 65535 + 1 := by unfold mx; omega
          rw [this]
        · rw [if_neg h2]
          by_cases h3 : n = 0
          · rw [if_pos h3]
            have : mx 1 ((n + 65534) / 65535) = n / 65535 + 1 := by unfold mx; omega
            rw [this]
          · rw [if_neg h3]
            have : mx 1 ((n + 65534) / 65535) = n / 65535 := by unfold mx; omega
            rw [this]
  obtain ⟨m, z, h1, h2⟩ := key
  refine ⟨m, z, fun W _ => deflate_Bound.calls n m z W h1, fun W _ => (valiseref11_Bound.calls (0 + 1) n m z W h2).mono ?_⟩
  rintro e w' ⟨rfl, hd⟩
  exact ⟨rfl, hd.below⟩

/-! The row -/
theorem own : ownKnob Tryd.prog.godebug = none := by kernel_rfl
set_option maxRecDepth 100000 in
theorem contract (H : Type) (enc : TypeId × Value → H) (W : World) (base : Nat) (args : Array Value) (ds gs : List (DataW H)) (before : List MemPlace)
    (hval : ∀ (j : Nat) t v, Tryd.f3.params[j]? = some t → args[j]? = some v → Value.okWide Tryd.prog W .any base t v)
    (hW : DataW.Whole enc Tryd.prog Tryd.f3.params.toList Rows.deflateEffortsSpec.vars false W args.toList ds gs before) (hL : laidMetH Tryd.prog Rows.deflateEffortsRow.laid W) :
    Calls Tryd.prog 3 args W fun e W' => ∃ v, e = .returned v ∧ Rows.deflateEffortsSpec.post enc Tryd.prog Tryd.f3 false true false false W args v W' := by
  have hW' := hW
  obtain ⟨p, q, hA0, hV, rfl, hfz, hnd⟩ := hW
  have hA : DataW.TrodAll enc Tryd.prog W 0 (fun _ => true) true Tryd.f3.params.toList args.toList ds p := hA0
  rw [Tryd.params3] at hA hval
  obtain ⟨v0, vs0, d0, ds0, p0, q0, hargs, rfl, rfl, h0, r0⟩ := trodAll_cons hA
  obtain ⟨v1, vs1, d1, ds1, p1, q1, rfl, rfl, rfl, h1, r1⟩ := trodAll_cons r0
  obtain ⟨rfl, rfl, rfl⟩ := trodAll_nil r1
  obtain rfl : args = #[v0, v1] := by cases args; simp_all
  obtain ⟨rfl, rfl⟩ := trodVars_none hV
  obtain ⟨level, rfl, rfl, rfl, wl⟩ := open_int Tryd.underlying3 (hval 0 3 v0 rfl rfl) h0
  obtain ⟨n, rfl, rfl, rfl, wn⟩ := open_int Tryd.underlying3 (hval 1 3 v1 rfl rfl) h1
  clear hA0
  obtain ⟨a, b, c, x, h10, h11⟩ := efforts level
  obtain ⟨m, z, h12, h13⟩ := bounds n
  refine (law L L_below level n a b x m z c W (L_of hL) h10 h11 h12 h13).mono fun e W' ⟨he, bel⟩ => ?_
  subst he
  exact ⟨_, rfl, _, _, _, [], _, [], hW', trodAll_mk1 (shut_bool Tryd.underlying4 _), trodAll_cons_mk (shut_int Tryd.underlying3 wl) (trodAll_cons_mk (shut_int Tryd.underlying3 wn) trodAll_mk0), rfl, bel.frame _, fun h => by cases h⟩

def holdsCells (cs : Array Value) : Obj → Obj
  | .cells _ t frozen => .cells cs t frozen
  | o => o
/-- A world for the witness: the settled one, the tables holding what their initialisers lay. -/
noncomputable def laidWorld (os : Os) : World :=
  { World.holding Tryd.prog os ⟨#[], #[], []⟩ with heap := (((World.holding Tryd.prog os ⟨#[], #[], []⟩).heap.modify 0 (holdsCells levels.toArray)).modify 1 (holdsCells refLevels.toArray)) }
theorem laid_met (os : Os) : laidMet Tryd.prog Rows.deflateEffortsRow.laid ((laidWorld os).forCall (fun _ _ => 0) ⟨#[], #[.int .i64 0, .int .i64 0], []⟩).memory :=
  laidMet_of_run' 8 (by kernel_rfl) (by kernel_rfl)
theorem reads (os : Os) {H : Type} (enc : TypeId × Value → H) : ∃ places, DataW.whole enc Tryd.prog ((laidWorld os).forCall (fun _ _ => 0) ⟨#[], #[.int .i64 0, .int .i64 0], []⟩).memory Tryd.f3.params.toList Rows.deflateEffortsSpec.vars false #[Value.int .i64 0, Value.int .i64 0].toList 8 = some ([.lit (.int .i64 0), .lit (.int .i64 0)], [], places) :=
  ⟨[], by kernel_rfl⟩
set_option maxRecDepth 100000 in
theorem lifted (os : Os) (started : os.Started) (H : Type) (enc : TypeId × Value → H) (F : Stop.Interp) :
    ReturnsInHanded {} Tryd.checked os 3 .any ((OpenSpec.ofChange Rows.deflateEffortsSpec).preRow enc Tryd.prog Tryd.f3 Rows.deflateEffortsRow.domain false Rows.deflateEffortsRow.laid) (((OpenSpec.ofChange Rows.deflateEffortsSpec).at F).post enc Tryd.prog Tryd.f3 false true false false) := by
  obtain ⟨places, hx⟩ := reads os enc
  refine returnsInHanded_of_row (C := Tryd.checked) (s := OpenSpec.ofChange Rows.deflateEffortsSpec) own started (by kernel_rfl) Tryd.func3
    (witness_row_at (enc := enc) (C := Tryd.checked) false (laidWorld os) #[.int .i64 0, .int .i64 0] rfl (by kernel_rfl) (by kernel_rfl) (by kernel_rfl)
      (OpenSpec.preRow_of_cond 8 hx (by kernel_rfl) (fun k hk => by cases hk) (by kernel_rfl) (laid_met os))) ?_
  intro W base args ds gs before hval hW _ _ _ hL _ _
  exact contract H enc W base args ds gs before hval hW hL
theorem said : Rows.DeflateEffortsSaid :=
  OpenClaim.holds_of_cond 3 Tryd.f3 rfl rfl rfl rfl rfl rfl rfl ⟨rfl, rfl, rfl, rfl, rfl⟩ rfl rfl rfl rfl rfl (by kernel_rfl) Tryd.func3 (by kernel_rfl)
    (of_decide_eq_true (by kernel_rfl)) (by unfold Func.isWrapper; first | (rw [if_pos (by decide +kernel)]; kernel_rfl) | (rw [if_neg (by decide +kernel)]; exact ⟨rfl, rfl⟩))
    (fun os started H enc _ F => by rw [OpenClaim.pre_eq_preRow]; exact lifted os started H enc F)
theorem plain (f : FuncId) (fn : Func) (hf : Tryd.pinned.checked.prog.funcNamed "valise/valiselaw11.DeflateEfforts" = some f) (hfn : Tryd.pinned.checked.prog.funcs[f]? = some fn) :
    false = Tryd.pinned.checked.prog.looks [] ∧ ∀ (j : Nat) t, fn.params[j]? = some t → Tryd.pinned.checked.prog.wantsStandIn t = false := by
  obtain rfl : f = 3 := Option.some.inj ((show Tryd.prog.funcNamed "valise/valiselaw11.DeflateEfforts" = some 3 by kernel_rfl).symm.trans hf) |>.symm
  obtain rfl : fn = Tryd.f3 := (Option.some.inj (Tryd.func3.symm.trans hfn)).symm
  refine ⟨by kernel_rfl, fun j t ht => ?_⟩
  rw [Tryd.params3] at ht
  obtain rfl : t = 3 := by simpa using Array.mem_of_getElem? ht
  exact (show Tryd.prog.wantsStandIn 3 = false by kernel_rfl)
theorem card : Rows.DeflateEffortsCardSaid :=
  Claim7.holds_tied_plain_at .later [] _ _ _ _ said (fun _ h => by cases h) (by kernel_rfl) (fun _ h => by cases h) deflateEfforts_row_tie rfl ⟨rfl, rfl⟩ (by kernel_rfl) rfl plain (by kernel_rfl)
#print axioms card
end Go.Proofs.YtpndhoefmepfdaaDoor.efforts
namespace Go.Proofs.YtpndhoefmepfdaaDoor
/-- The card, under a short name, for the claim. -/
theorem deflateEfforts_holds : Rows.DeflateEffortsCardSaid := efforts.card
end Go.Proofs.YtpndhoefmepfdaaDoor
