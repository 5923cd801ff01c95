/-
  NARROWER THAN 'FOR EVERY INPUT', by the rows' own cells (each row's printed sentence says how): DeflateEfforts: laid · SqueezePriced: laid · SqueezeCheapest: laid · SqueezeLast: laid · SqueezeWindows: laid · SqueezeIsCheapest: laid · SqueezeBeatsMatch: laid.
  DERIVED. THE GIVEN ROWS OF THIS SEAT. 7 by the template 'for every input the law returns true; each argument reads behind the call as it read before'; 0 by the template 'total and deterministic' (their statements: YtpndhoefmepfdaaDoorTotals.lean).
  GIVEN WITH THE SEED: the statements are not yours to turn. If you find one false, say at which input.
  Laid BY PROGRAM, IN A SANDBOX (cutbox-rows.mjs): the forced cells as the released guide's own fill.sh prints them over the translation 3afd17078f088e15… (all of the seat's roots in one cut). By AI agents, Wed Nov 11 2026. No macro, syntax, notation, axiom, sorry.
-/
import Derived.Test.YtpndhoefmepfdaaDoorChecked
import GoSem.Claim
import GoSem.ClaimJoined
import GoSem.ClaimMapViews
import Derived.JoinedTies
import Derived.KernelRfl
namespace Go.Proofs.YtpndhoefmepfdaaDoor
/- THE CELL 'sum', in the pinned program and in every row, IS THE sha256 OF THE DUMP (.gsa) THAT YtpndhoefmepfdaaDoorProg.lean LOADS. Nothing in Lean hashes anything: it is a label: what it is worth is what the hold of that sum in a sandbox is worth. -/
noncomputable def Tryd.pinned : Pinned := { name := "ytpndhoefmepfdaadoor", sum := "3afd17078f088e15a2416a64268b402b00ab47a53e123744a4577f90672a959b", checked := Tryd.checked }
namespace Rows
def none {H : Type} : Left H := { results := [], args := [] }

/- WHAT THE LISTED PACKAGE-LEVEL VARIABLES READ AS WHEN THE CALL BEGINS. Each datum BY PROGRAM (the guide's laid-datum.mjs) off the statement by which the dump's own 'gosem.cut.vars' lays the variable. In a bare row this is a premise. The card (YtpndhoefmepfdaaDoorCards.lean) ties it to the program's text. -/
def laid_valise_deflate_levels {H : Type} : DataW H := .agg [.agg [.lit (.int .i64 1), .lit (.int .i64 0), .lit (.bool false)], .agg [.lit (.int .i64 4096), .lit (.int .i64 4), .lit (.bool false)], .agg [.lit (.int .i64 8192), .lit (.int .i64 8), .lit (.bool false)], .agg [.lit (.int .i64 16384), .lit (.int .i64 16), .lit (.bool false)], .agg [.lit (.int .i64 32768), .lit (.int .i64 16), .lit (.bool true)], .agg [.lit (.int .i64 32768), .lit (.int .i64 32), .lit (.bool true)], .agg [.lit (.int .i64 32768), .lit (.int .i64 64), .lit (.bool true)], .agg [.lit (.int .i64 32768), .lit (.int .i64 128), .lit (.bool true)], .agg [.lit (.int .i64 32768), .lit (.int .i64 512), .lit (.bool true)], .agg [.lit (.int .i64 32768), .lit (.int .i64 4096), .lit (.bool true)]]
def laid_valise_valiseref11_levels {H : Type} : DataW H := .agg [.agg [.lit (.int .i64 1), .lit (.int .i64 0), .lit (.int .i64 0)], .agg [.lit (.int .i64 4096), .lit (.int .i64 4), .lit (.int .i64 0)], .agg [.lit (.int .i64 8192), .lit (.int .i64 8), .lit (.int .i64 0)], .agg [.lit (.int .i64 16384), .lit (.int .i64 16), .lit (.int .i64 0)], .agg [.lit (.int .i64 32768), .lit (.int .i64 16), .lit (.int .i64 1)], .agg [.lit (.int .i64 32768), .lit (.int .i64 32), .lit (.int .i64 1)], .agg [.lit (.int .i64 32768), .lit (.int .i64 64), .lit (.int .i64 1)], .agg [.lit (.int .i64 32768), .lit (.int .i64 128), .lit (.int .i64 1)], .agg [.lit (.int .i64 32768), .lit (.int .i64 512), .lit (.int .i64 1)], .agg [.lit (.int .i64 32768), .lit (.int .i64 4096), .lit (.int .i64 1)]]
def laid_valise_block_lengthBase {H : Type} : DataW H := .agg [.lit (.int .i64 3), .lit (.int .i64 4), .lit (.int .i64 5), .lit (.int .i64 6), .lit (.int .i64 7), .lit (.int .i64 8), .lit (.int .i64 9), .lit (.int .i64 10), .lit (.int .i64 11), .lit (.int .i64 13), .lit (.int .i64 15), .lit (.int .i64 17), .lit (.int .i64 19), .lit (.int .i64 23), .lit (.int .i64 27), .lit (.int .i64 31), .lit (.int .i64 35), .lit (.int .i64 43), .lit (.int .i64 51), .lit (.int .i64 59), .lit (.int .i64 67), .lit (.int .i64 83), .lit (.int .i64 99), .lit (.int .i64 115), .lit (.int .i64 131), .lit (.int .i64 163), .lit (.int .i64 195), .lit (.int .i64 227), .lit (.int .i64 258)]
def laid_valise_block_lengthBits {H : Type} : DataW H := .agg [.lit (.int .i64 0), .lit (.int .i64 0), .lit (.int .i64 0), .lit (.int .i64 0), .lit (.int .i64 0), .lit (.int .i64 0), .lit (.int .i64 0), .lit (.int .i64 0), .lit (.int .i64 1), .lit (.int .i64 1), .lit (.int .i64 1), .lit (.int .i64 1), .lit (.int .i64 2), .lit (.int .i64 2), .lit (.int .i64 2), .lit (.int .i64 2), .lit (.int .i64 3), .lit (.int .i64 3), .lit (.int .i64 3), .lit (.int .i64 3), .lit (.int .i64 4), .lit (.int .i64 4), .lit (.int .i64 4), .lit (.int .i64 4), .lit (.int .i64 5), .lit (.int .i64 5), .lit (.int .i64 5), .lit (.int .i64 5), .lit (.int .i64 0)]
def laid_valise_block_distBase {H : Type} : DataW H := .agg [.lit (.int .i64 1), .lit (.int .i64 2), .lit (.int .i64 3), .lit (.int .i64 4), .lit (.int .i64 5), .lit (.int .i64 7), .lit (.int .i64 9), .lit (.int .i64 13), .lit (.int .i64 17), .lit (.int .i64 25), .lit (.int .i64 33), .lit (.int .i64 49), .lit (.int .i64 65), .lit (.int .i64 97), .lit (.int .i64 129), .lit (.int .i64 193), .lit (.int .i64 257), .lit (.int .i64 385), .lit (.int .i64 513), .lit (.int .i64 769), .lit (.int .i64 1025), .lit (.int .i64 1537), .lit (.int .i64 2049), .lit (.int .i64 3073), .lit (.int .i64 4097), .lit (.int .i64 6145), .lit (.int .i64 8193), .lit (.int .i64 12289), .lit (.int .i64 16385), .lit (.int .i64 24577)]
def laid_valise_block_distBits {H : Type} : DataW H := .agg [.lit (.int .i64 0), .lit (.int .i64 0), .lit (.int .i64 0), .lit (.int .i64 0), .lit (.int .i64 1), .lit (.int .i64 1), .lit (.int .i64 2), .lit (.int .i64 2), .lit (.int .i64 3), .lit (.int .i64 3), .lit (.int .i64 4), .lit (.int .i64 4), .lit (.int .i64 5), .lit (.int .i64 5), .lit (.int .i64 6), .lit (.int .i64 6), .lit (.int .i64 7), .lit (.int .i64 7), .lit (.int .i64 8), .lit (.int .i64 8), .lit (.int .i64 9), .lit (.int .i64 9), .lit (.int .i64 10), .lit (.int .i64 10), .lit (.int .i64 11), .lit (.int .i64 11), .lit (.int .i64 12), .lit (.int .i64 12), .lit (.int .i64 13), .lit (.int .i64 13)]

/-- 'valiselaw11.DeflateEfforts': WHATEVER THE INPUT: true; the input reads as it did. -/
def deflateEffortsSpec : ChangeSpec := { name := "deflateEfforts", fn := fun _ => fun
  | [d1, d2] => { results := [.lit (.bool true)], args := [d1, d2] }
  | _ => none }
def deflateEffortsRow : OpenClaim := { program := "ytpndhoefmepfdaadoor", sum := "3afd17078f088e15a2416a64268b402b00ab47a53e123744a4577f90672a959b", func := "valise/valiselaw11.DeflateEfforts", spec := "deflateEfforts", named := ["valise/deflate.levels", "valise/valiseref11.levels"], plainKeys := false, apart := false, laid := [("valise/deflate.levels", laid_valise_deflate_levels), ("valise/valiseref11.levels", laid_valise_valiseref11_levels)] }
def DeflateEffortsSaid : Prop := deflateEffortsRow.holds Tryd.pinned (OpenSpec.ofChange deflateEffortsSpec)

/-- ITS FALSE NEIGHBOUR: 'it returns false'. Refute it at one input. -/
def deflateEffortsWrong : ChangeSpec := { name := "deflateEfforts", fn := fun _ => fun
  | [d1, d2] => { results := [.lit (.bool false)], args := [d1, d2] }
  | _ => none }
def DeflateEffortsWrongFalsely : Prop := deflateEffortsRow.holds Tryd.pinned (OpenSpec.ofChange deflateEffortsWrong)

/-- 'valiselaw21.SqueezePriced': WHATEVER THE INPUT: true; the input reads as it did. -/
def squeezePricedSpec : ChangeSpec := { name := "squeezePriced", fn := fun _ => fun
  | [d1, d2, d3] => { results := [.lit (.bool true)], args := [d1, d2, d3] }
  | _ => none }
def squeezePricedRow : OpenClaim := { program := "ytpndhoefmepfdaadoor", sum := "3afd17078f088e15a2416a64268b402b00ab47a53e123744a4577f90672a959b", func := "valise/valiselaw21.SqueezePriced", spec := "squeezePriced", named := ["valise/block.lengthBase", "valise/block.lengthBits", "valise/block.distBase", "valise/block.distBits"], plainKeys := false, apart := false, laid := [("valise/block.lengthBase", laid_valise_block_lengthBase), ("valise/block.lengthBits", laid_valise_block_lengthBits), ("valise/block.distBase", laid_valise_block_distBase), ("valise/block.distBits", laid_valise_block_distBits)] }
def SqueezePricedSaid : Prop := squeezePricedRow.holds Tryd.pinned (OpenSpec.ofChange squeezePricedSpec)

/-- ITS FALSE NEIGHBOUR: 'it returns false'. Refute it at one input. -/
def squeezePricedWrong : ChangeSpec := { name := "squeezePriced", fn := fun _ => fun
  | [d1, d2, d3] => { results := [.lit (.bool false)], args := [d1, d2, d3] }
  | _ => none }
def SqueezePricedWrongFalsely : Prop := squeezePricedRow.holds Tryd.pinned (OpenSpec.ofChange squeezePricedWrong)

/-- 'valiselaw21.SqueezeCheapest': WHATEVER THE INPUT: true; the input reads as it did. -/
def squeezeCheapestSpec : ChangeSpec := { name := "squeezeCheapest", fn := fun _ => fun
  | [d1, d2, d3, d4] => { results := [.lit (.bool true)], args := [d1, d2, d3, d4] }
  | _ => none }
def squeezeCheapestRow : OpenClaim := { program := "ytpndhoefmepfdaadoor", sum := "3afd17078f088e15a2416a64268b402b00ab47a53e123744a4577f90672a959b", func := "valise/valiselaw21.SqueezeCheapest", spec := "squeezeCheapest", named := ["valise/block.lengthBase", "valise/block.lengthBits", "valise/block.distBase", "valise/block.distBits"], plainKeys := false, apart := false, laid := [("valise/block.lengthBase", laid_valise_block_lengthBase), ("valise/block.lengthBits", laid_valise_block_lengthBits), ("valise/block.distBase", laid_valise_block_distBase), ("valise/block.distBits", laid_valise_block_distBits)] }
def SqueezeCheapestSaid : Prop := squeezeCheapestRow.holds Tryd.pinned (OpenSpec.ofChange squeezeCheapestSpec)

/-- ITS FALSE NEIGHBOUR: 'it returns false'. Refute it at one input. -/
def squeezeCheapestWrong : ChangeSpec := { name := "squeezeCheapest", fn := fun _ => fun
  | [d1, d2, d3, d4] => { results := [.lit (.bool false)], args := [d1, d2, d3, d4] }
  | _ => none }
def SqueezeCheapestWrongFalsely : Prop := squeezeCheapestRow.holds Tryd.pinned (OpenSpec.ofChange squeezeCheapestWrong)

/-- 'valiselaw21.SqueezeLast': WHATEVER THE INPUT: true; the input reads as it did. -/
def squeezeLastSpec : ChangeSpec := { name := "squeezeLast", fn := fun _ => fun
  | [d1, d2, d3, d4, d5, d6] => { results := [.lit (.bool true)], args := [d1, d2, d3, d4, d5, d6] }
  | _ => none }
def squeezeLastRow : OpenClaim := { program := "ytpndhoefmepfdaadoor", sum := "3afd17078f088e15a2416a64268b402b00ab47a53e123744a4577f90672a959b", func := "valise/valiselaw21.SqueezeLast", spec := "squeezeLast", named := ["valise/block.lengthBase", "valise/block.lengthBits", "valise/block.distBase", "valise/block.distBits"], plainKeys := false, apart := false, laid := [("valise/block.lengthBase", laid_valise_block_lengthBase), ("valise/block.lengthBits", laid_valise_block_lengthBits), ("valise/block.distBase", laid_valise_block_distBase), ("valise/block.distBits", laid_valise_block_distBits)] }
def SqueezeLastSaid : Prop := squeezeLastRow.holds Tryd.pinned (OpenSpec.ofChange squeezeLastSpec)

/-- ITS FALSE NEIGHBOUR: 'it returns false'. Refute it at one input. -/
def squeezeLastWrong : ChangeSpec := { name := "squeezeLast", fn := fun _ => fun
  | [d1, d2, d3, d4, d5, d6] => { results := [.lit (.bool false)], args := [d1, d2, d3, d4, d5, d6] }
  | _ => none }
def SqueezeLastWrongFalsely : Prop := squeezeLastRow.holds Tryd.pinned (OpenSpec.ofChange squeezeLastWrong)

/-- 'valiselaw21.SqueezeWindows': WHATEVER THE INPUT: true; the input reads as it did. -/
def squeezeWindowsSpec : ChangeSpec := { name := "squeezeWindows", fn := fun _ => fun
  | [d1, d2, d3, d4, d5] => { results := [.lit (.bool true)], args := [d1, d2, d3, d4, d5] }
  | _ => none }
def squeezeWindowsRow : OpenClaim := { program := "ytpndhoefmepfdaadoor", sum := "3afd17078f088e15a2416a64268b402b00ab47a53e123744a4577f90672a959b", func := "valise/valiselaw21.SqueezeWindows", spec := "squeezeWindows", named := ["valise/block.lengthBase", "valise/block.lengthBits", "valise/block.distBase", "valise/block.distBits"], plainKeys := false, apart := false, laid := [("valise/block.lengthBase", laid_valise_block_lengthBase), ("valise/block.lengthBits", laid_valise_block_lengthBits), ("valise/block.distBase", laid_valise_block_distBase), ("valise/block.distBits", laid_valise_block_distBits)] }
def SqueezeWindowsSaid : Prop := squeezeWindowsRow.holds Tryd.pinned (OpenSpec.ofChange squeezeWindowsSpec)

/-- ITS FALSE NEIGHBOUR: 'it returns false'. Refute it at one input. -/
def squeezeWindowsWrong : ChangeSpec := { name := "squeezeWindows", fn := fun _ => fun
  | [d1, d2, d3, d4, d5] => { results := [.lit (.bool false)], args := [d1, d2, d3, d4, d5] }
  | _ => none }
def SqueezeWindowsWrongFalsely : Prop := squeezeWindowsRow.holds Tryd.pinned (OpenSpec.ofChange squeezeWindowsWrong)

/-- 'valiselaw21.SqueezeIsCheapest': WHATEVER THE INPUT: true; the input reads as it did. -/
def squeezeIsCheapestSpec : ChangeSpec := { name := "squeezeIsCheapest", fn := fun _ => fun
  | [d1, d2, d3, d4, d5] => { results := [.lit (.bool true)], args := [d1, d2, d3, d4, d5] }
  | _ => none }
def squeezeIsCheapestRow : OpenClaim := { program := "ytpndhoefmepfdaadoor", sum := "3afd17078f088e15a2416a64268b402b00ab47a53e123744a4577f90672a959b", func := "valise/valiselaw21.SqueezeIsCheapest", spec := "squeezeIsCheapest", named := ["valise/block.lengthBase", "valise/block.lengthBits", "valise/block.distBase", "valise/block.distBits"], plainKeys := false, apart := false, laid := [("valise/block.lengthBase", laid_valise_block_lengthBase), ("valise/block.lengthBits", laid_valise_block_lengthBits), ("valise/block.distBase", laid_valise_block_distBase), ("valise/block.distBits", laid_valise_block_distBits)] }
def SqueezeIsCheapestSaid : Prop := squeezeIsCheapestRow.holds Tryd.pinned (OpenSpec.ofChange squeezeIsCheapestSpec)

/-- ITS FALSE NEIGHBOUR: 'it returns false'. Refute it at one input. -/
def squeezeIsCheapestWrong : ChangeSpec := { name := "squeezeIsCheapest", fn := fun _ => fun
  | [d1, d2, d3, d4, d5] => { results := [.lit (.bool false)], args := [d1, d2, d3, d4, d5] }
  | _ => none }
def SqueezeIsCheapestWrongFalsely : Prop := squeezeIsCheapestRow.holds Tryd.pinned (OpenSpec.ofChange squeezeIsCheapestWrong)

/-- 'valiselaw21.SqueezeBeatsMatch': WHATEVER THE INPUT: true; the input reads as it did. -/
def squeezeBeatsMatchSpec : ChangeSpec := { name := "squeezeBeatsMatch", fn := fun _ => fun
  | [d1, d2, d3, d4, d5, d6] => { results := [.lit (.bool true)], args := [d1, d2, d3, d4, d5, d6] }
  | _ => none }
def squeezeBeatsMatchRow : OpenClaim := { program := "ytpndhoefmepfdaadoor", sum := "3afd17078f088e15a2416a64268b402b00ab47a53e123744a4577f90672a959b", func := "valise/valiselaw21.SqueezeBeatsMatch", spec := "squeezeBeatsMatch", unfollowed := true, recurses := true, named := ["valise/block.lengthBase", "valise/block.lengthBits", "valise/block.distBase", "valise/block.distBits"], plainKeys := false, apart := false, laid := [("valise/block.lengthBase", laid_valise_block_lengthBase), ("valise/block.lengthBits", laid_valise_block_lengthBits), ("valise/block.distBase", laid_valise_block_distBase), ("valise/block.distBits", laid_valise_block_distBits)] }
def SqueezeBeatsMatchSaid : Prop := squeezeBeatsMatchRow.holds Tryd.pinned (OpenSpec.ofChange squeezeBeatsMatchSpec)

/-- ITS FALSE NEIGHBOUR: 'it returns false'. Refute it at one input. -/
def squeezeBeatsMatchWrong : ChangeSpec := { name := "squeezeBeatsMatch", fn := fun _ => fun
  | [d1, d2, d3, d4, d5, d6] => { results := [.lit (.bool false)], args := [d1, d2, d3, d4, d5, d6] }
  | _ => none }
def SqueezeBeatsMatchWrongFalsely : Prop := squeezeBeatsMatchRow.holds Tryd.pinned (OpenSpec.ofChange squeezeBeatsMatchWrong)

/- THE SECOND FORM. 'bulk': how many values and letters a reading holds, each counted each time it is reached (what is shared counts as often as it is met; a slice's spare places count too). A statement '..UptoSaid' is the law's where the arguments, and the package variables that the reading takes, are together of bulk at most 1048576: NARROWER than '..Said'. Prove '..Said' where nothing that the law and all that it calls make is longer than what came in: it says more and counts as full. Else prove '..UptoSaid'. A law counts once. -/
mutual
def uptoBulk {H : Type} : DataW H → Nat
  | .lit (.string bytes) => bytes.length + 1
  | .lit _ => 1
  | .nil => 1
  | .ptr d => uptoBulk d + 1
  | .slice elems spare => uptoBulkAll elems + uptoBulkAll spare + 1
  | .agg parts => uptoBulkAll parts + 1
  | .iface _ d => uptoBulk d + 1
  | .map entries => uptoBulkEntries entries + 1
  | .held _ => 1
def uptoBulkAll {H : Type} : List (DataW H) → Nat
  | [] => 0
  | d :: r => uptoBulk d + uptoBulkAll r
def uptoBulkEntries {H : Type} : List (Lit × DataW H) → Nat
  | [] => 0
  | x :: r => uptoBulkEntry x + uptoBulkEntries r
def uptoBulkEntry {H : Type} : Lit × DataW H → Nat
  | (.string bytes, d) => bytes.length + uptoBulk d + 1
  | (_, d) => uptoBulk d + 1
 end
def uptoSmall : (H : Type) → List (DataW H) → Bool := fun _ ds => decide (uptoBulkAll ds ≤ 1048576)
def OpenSpec.upto (s : _root_.Go.ChangeSpec) : _root_.Go.OpenSpec := { _root_.Go.OpenSpec.ofChange s with cond := some uptoSmall }

/-- 'valiselaw11.DeflateEfforts', WHERE WHAT IT READS IS OF BULK AT MOST 1048576: true; the input reads as it did. -/
def deflateEffortsUptoRow : OpenClaim := { program := "ytpndhoefmepfdaadoor", sum := "3afd17078f088e15a2416a64268b402b00ab47a53e123744a4577f90672a959b", func := "valise/valiselaw11.DeflateEfforts", spec := "deflateEfforts", named := ["valise/deflate.levels", "valise/valiseref11.levels"], plainKeys := false, apart := false, laid := [("valise/deflate.levels", laid_valise_deflate_levels), ("valise/valiseref11.levels", laid_valise_valiseref11_levels)], narrowed := true }
def DeflateEffortsUptoSaid : Prop := deflateEffortsUptoRow.holds Tryd.pinned (OpenSpec.upto deflateEffortsSpec)

/-- 'valiselaw21.SqueezePriced', WHERE WHAT IT READS IS OF BULK AT MOST 1048576: true; the input reads as it did. -/
def squeezePricedUptoRow : OpenClaim := { program := "ytpndhoefmepfdaadoor", sum := "3afd17078f088e15a2416a64268b402b00ab47a53e123744a4577f90672a959b", func := "valise/valiselaw21.SqueezePriced", spec := "squeezePriced", named := ["valise/block.lengthBase", "valise/block.lengthBits", "valise/block.distBase", "valise/block.distBits"], plainKeys := false, apart := false, laid := [("valise/block.lengthBase", laid_valise_block_lengthBase), ("valise/block.lengthBits", laid_valise_block_lengthBits), ("valise/block.distBase", laid_valise_block_distBase), ("valise/block.distBits", laid_valise_block_distBits)], narrowed := true }
def SqueezePricedUptoSaid : Prop := squeezePricedUptoRow.holds Tryd.pinned (OpenSpec.upto squeezePricedSpec)

/-- 'valiselaw21.SqueezeCheapest', WHERE WHAT IT READS IS OF BULK AT MOST 1048576: true; the input reads as it did. -/
def squeezeCheapestUptoRow : OpenClaim := { program := "ytpndhoefmepfdaadoor", sum := "3afd17078f088e15a2416a64268b402b00ab47a53e123744a4577f90672a959b", func := "valise/valiselaw21.SqueezeCheapest", spec := "squeezeCheapest", named := ["valise/block.lengthBase", "valise/block.lengthBits", "valise/block.distBase", "valise/block.distBits"], plainKeys := false, apart := false, laid := [("valise/block.lengthBase", laid_valise_block_lengthBase), ("valise/block.lengthBits", laid_valise_block_lengthBits), ("valise/block.distBase", laid_valise_block_distBase), ("valise/block.distBits", laid_valise_block_distBits)], narrowed := true }
def SqueezeCheapestUptoSaid : Prop := squeezeCheapestUptoRow.holds Tryd.pinned (OpenSpec.upto squeezeCheapestSpec)

/-- 'valiselaw21.SqueezeLast', WHERE WHAT IT READS IS OF BULK AT MOST 1048576: true; the input reads as it did. -/
def squeezeLastUptoRow : OpenClaim := { program := "ytpndhoefmepfdaadoor", sum := "3afd17078f088e15a2416a64268b402b00ab47a53e123744a4577f90672a959b", func := "valise/valiselaw21.SqueezeLast", spec := "squeezeLast", named := ["valise/block.lengthBase", "valise/block.lengthBits", "valise/block.distBase", "valise/block.distBits"], plainKeys := false, apart := false, laid := [("valise/block.lengthBase", laid_valise_block_lengthBase), ("valise/block.lengthBits", laid_valise_block_lengthBits), ("valise/block.distBase", laid_valise_block_distBase), ("valise/block.distBits", laid_valise_block_distBits)], narrowed := true }
def SqueezeLastUptoSaid : Prop := squeezeLastUptoRow.holds Tryd.pinned (OpenSpec.upto squeezeLastSpec)

/-- 'valiselaw21.SqueezeWindows', WHERE WHAT IT READS IS OF BULK AT MOST 1048576: true; the input reads as it did. -/
def squeezeWindowsUptoRow : OpenClaim := { program := "ytpndhoefmepfdaadoor", sum := "3afd17078f088e15a2416a64268b402b00ab47a53e123744a4577f90672a959b", func := "valise/valiselaw21.SqueezeWindows", spec := "squeezeWindows", named := ["valise/block.lengthBase", "valise/block.lengthBits", "valise/block.distBase", "valise/block.distBits"], plainKeys := false, apart := false, laid := [("valise/block.lengthBase", laid_valise_block_lengthBase), ("valise/block.lengthBits", laid_valise_block_lengthBits), ("valise/block.distBase", laid_valise_block_distBase), ("valise/block.distBits", laid_valise_block_distBits)], narrowed := true }
def SqueezeWindowsUptoSaid : Prop := squeezeWindowsUptoRow.holds Tryd.pinned (OpenSpec.upto squeezeWindowsSpec)

/-- 'valiselaw21.SqueezeIsCheapest', WHERE WHAT IT READS IS OF BULK AT MOST 1048576: true; the input reads as it did. -/
def squeezeIsCheapestUptoRow : OpenClaim := { program := "ytpndhoefmepfdaadoor", sum := "3afd17078f088e15a2416a64268b402b00ab47a53e123744a4577f90672a959b", func := "valise/valiselaw21.SqueezeIsCheapest", spec := "squeezeIsCheapest", named := ["valise/block.lengthBase", "valise/block.lengthBits", "valise/block.distBase", "valise/block.distBits"], plainKeys := false, apart := false, laid := [("valise/block.lengthBase", laid_valise_block_lengthBase), ("valise/block.lengthBits", laid_valise_block_lengthBits), ("valise/block.distBase", laid_valise_block_distBase), ("valise/block.distBits", laid_valise_block_distBits)], narrowed := true }
def SqueezeIsCheapestUptoSaid : Prop := squeezeIsCheapestUptoRow.holds Tryd.pinned (OpenSpec.upto squeezeIsCheapestSpec)

/-- 'valiselaw21.SqueezeBeatsMatch', WHERE WHAT IT READS IS OF BULK AT MOST 1048576: true; the input reads as it did. -/
def squeezeBeatsMatchUptoRow : OpenClaim := { program := "ytpndhoefmepfdaadoor", sum := "3afd17078f088e15a2416a64268b402b00ab47a53e123744a4577f90672a959b", func := "valise/valiselaw21.SqueezeBeatsMatch", spec := "squeezeBeatsMatch", unfollowed := true, recurses := true, named := ["valise/block.lengthBase", "valise/block.lengthBits", "valise/block.distBase", "valise/block.distBits"], plainKeys := false, apart := false, laid := [("valise/block.lengthBase", laid_valise_block_lengthBase), ("valise/block.lengthBits", laid_valise_block_lengthBits), ("valise/block.distBase", laid_valise_block_distBase), ("valise/block.distBits", laid_valise_block_distBits)], narrowed := true }
def SqueezeBeatsMatchUptoSaid : Prop := squeezeBeatsMatchUptoRow.holds Tryd.pinned (OpenSpec.upto squeezeBeatsMatchSpec)

end Rows
end Go.Proofs.YtpndhoefmepfdaaDoor
