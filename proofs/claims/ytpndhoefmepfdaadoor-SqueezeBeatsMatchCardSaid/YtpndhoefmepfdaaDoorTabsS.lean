/- Package-level tables of whole numbers, as a fact on the world: what they hold, what keeps it, and how a row's list of laid variables gives it. No condition beyond that list. -/
import Derived.Test.YtpndhoefmepfdaaDoorRows
import Derived.Test.YtpndhoefmepfdaaDoorFlat
import Derived.Test.YtpndhoefmepfdaaDoorWMore
import Derived.Test.YtpndhoefmepfdaaDoorWNEv
namespace Go.Proofs.YtpndhoefmepfdaaDoor.TS
open Go.RowKit Go.Proofs.YtpndhoefmepfdaaDoorW.PrintWords Go.Proofs.YtpndhoefmepfdaaDoorW.PrintLast
def tab2 : List Int := [3, 4, 5, 6, 7, 8, 9, 10, 11, 13, 15, 17, 19, 23, 27, 31, 35, 43, 51, 59, 67, 83, 99, 115, 131, 163, 195, 227, 258]
def tab3 : List Int := [0, 0, 0, 0, 0, 0, 0, 0, 1, 1, 1, 1, 2, 2, 2, 2, 3, 3, 3, 3, 4, 4, 4, 4, 5, 5, 5, 5, 0]
def tab4 : List Int := [1, 2, 3, 4, 5, 7, 9, 13, 17, 25, 33, 49, 65, 97, 129, 193, 257, 385, 513, 769, 1025, 1537, 2049, 3073, 4097, 6145, 8193, 12289, 16385, 24577]
def tab5 : List Int := [0, 0, 0, 0, 1, 1, 2, 2, 3, 3, 4, 4, 5, 5, 6, 6, 7, 7, 8, 8, 9, 9, 10, 10, 11, 11, 12, 12, 13, 13]
structure Tabs (w : World) : Prop where
  tab2 : Kd.C (Kd.int .i64) w (some ⟨2, 0, none⟩) 29 TS.tab2
  tab3 : Kd.C (Kd.int .i64) w (some ⟨3, 0, none⟩) 29 TS.tab3
  tab4 : Kd.C (Kd.int .i64) w (some ⟨4, 0, none⟩) 30 TS.tab4
  tab5 : Kd.C (Kd.int .i64) w (some ⟨5, 0, none⟩) 30 TS.tab5
theorem Tabs.below {w w1 : World} (h : Tabs w) (hb : Below w.heap.size w w1) : Tabs w1 := ⟨Kd.C_below h.tab2 hb, Kd.C_below h.tab3 hb, Kd.C_below h.tab4 hb, Kd.C_below h.tab5 hb⟩
theorem Tabs.alloc {w : World} (h : Tabs w) (o : Obj) : Tabs (w.alloc o) := h.below (below_alloc (Below.refl _ _) o)
theorem Tabs.drew {w : World} (h : Tabs w) : Tabs w.drew := h.below (below_drew (Below.refl _ _))
theorem Tabs.drewN {w : World} (h : Tabs w) (n : Nat) : Tabs (w.drewN n) := h.below (pw_below_drewN (Below.refl _ _) n)
theorem c_of_cells {w : World} {k : IntKind} {g : Nat} {xs : List Int} (n : Nat) (hn : xs.length = n) (hm : n ≤ 9223372036854775807) (h : ∀ i : Nat, w.cell? ⟨g, i, none⟩ = (xs.map fun x => Value.int k x)[i]?) : Kd.C (Kd.int k) w (some ⟨g, 0, none⟩) n xs := by
  refine Kd.C_of_reads (d := (0 : Int)) (h1 := fun _ => rfl) ⟨hn, hm, fun _ => ⟨_, rfl, fun j hj => ?_⟩⟩
  rw [add_plain, h j, List.getElem?_map, List.getElem?_eq_getElem (by omega), Option.map_some, List.getD_eq_getElem?_getD, List.getElem?_eq_getElem (by omega), Option.getD_some]
theorem Tabs.of_laid {W : World} {laid : List (String × DataW Unit)} (hh : (laid.filter fun x => x.2.handleName?.isSome) = []) (h : laidMetH Tryd.prog laid W)
    (m2 : ("valise/block.lengthBase", Rows.laid_valise_block_lengthBase) ∈ laid) (m3 : ("valise/block.lengthBits", Rows.laid_valise_block_lengthBits) ∈ laid) (m4 : ("valise/block.distBase", Rows.laid_valise_block_distBase) ∈ laid) (m5 : ("valise/block.distBits", Rows.laid_valise_block_distBits) ∈ laid) : Tabs W :=
  ⟨c_of_cells 29 rfl (by decide) (fun i => Flat.cells_of_laid hh h "valise/block.lengthBase" Rows.laid_valise_block_lengthBase m2 2 100 89 (TS.tab2.map fun x => Value.int .i64 x) (by kernel_rfl) (by kernel_rfl) (by kernel_rfl) i),
   c_of_cells 29 rfl (by decide) (fun i => Flat.cells_of_laid hh h "valise/block.lengthBits" Rows.laid_valise_block_lengthBits m3 3 100 89 (TS.tab3.map fun x => Value.int .i64 x) (by kernel_rfl) (by kernel_rfl) (by kernel_rfl) i),
   c_of_cells 30 rfl (by decide) (fun i => Flat.cells_of_laid hh h "valise/block.distBase" Rows.laid_valise_block_distBase m4 4 100 90 (TS.tab4.map fun x => Value.int .i64 x) (by kernel_rfl) (by kernel_rfl) (by kernel_rfl) i),
   c_of_cells 30 rfl (by decide) (fun i => Flat.cells_of_laid hh h "valise/block.distBits" Rows.laid_valise_block_distBits m5 5 100 90 (TS.tab5.map fun x => Value.int .i64 x) (by kernel_rfl) (by kernel_rfl) (by kernel_rfl) i)⟩
end Go.Proofs.YtpndhoefmepfdaaDoor.TS
