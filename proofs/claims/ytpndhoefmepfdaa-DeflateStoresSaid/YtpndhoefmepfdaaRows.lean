/-
  No cell of these rows narrows 'for every input' (looked for: loops, veiled, ifaces, maps, wideKeys, modest, calm, conditions, laid).
  DERIVED. THE GIVEN ROWS OF THIS SEAT. 5 by the template 'for every input the law returns true; each argument reads behind the call as it read before'; 0 by the template 'total and deterministic' (their statements: YtpndhoefmepfdaaTotals.lean).
  GIVEN WITH THE SEED: the statements are not yours to turn. If you find one false, say at which input.
  Laid BY PROGRAM, IN A SANDBOX (cutbox-rows.mjs): the forced cells as the released guide's own fill.sh prints them over the translation 22eb5b6886a08707… (all of the seat's roots in one cut). By AI agents, Wed Nov 11 2026. No macro, syntax, notation, axiom, sorry.
-/
import Derived.Test.YtpndhoefmepfdaaChecked
import GoSem.Claim
import GoSem.ClaimJoined
import GoSem.ClaimMapViews
import Derived.JoinedTies
import Derived.KernelRfl
namespace Go.Proofs.Ytpndhoefmepfdaa
/- THE CELL 'sum', in the pinned program and in every row, IS THE sha256 OF THE DUMP (.gsa) THAT YtpndhoefmepfdaaProg.lean LOADS. Nothing in Lean hashes anything: it is a label: what it is worth is what the hold of that sum in a sandbox is worth. -/
noncomputable def Try.pinned : Pinned := { name := "ytpndhoefmepfdaa", sum := "22eb5b6886a08707abf935ca98f0b316a2ba0c01bf8e3159d23433ff4925bcf8", checked := Try.checked }
namespace Rows
def none {H : Type} : Left H := { results := [], args := [] }

/-- 'valiselaw23.WrapAdlers': WHATEVER THE INPUT: true; the input reads as it did. -/
def wrapAdlersSpec : ChangeSpec := { name := "wrapAdlers", fn := fun _ => fun
  | [d1, d2, d3, d4] => { results := [.lit (.bool true)], args := [d1, d2, d3, d4] }
  | _ => none }
def wrapAdlersRow : OpenClaim := { program := "ytpndhoefmepfdaa", sum := "22eb5b6886a08707abf935ca98f0b316a2ba0c01bf8e3159d23433ff4925bcf8", func := "valise/valiselaw23.WrapAdlers", spec := "wrapAdlers", apart := false }
def WrapAdlersSaid : Prop := wrapAdlersRow.holds Try.pinned (OpenSpec.ofChange wrapAdlersSpec)

/-- ITS FALSE NEIGHBOUR: 'it returns false'. Refute it at one input. -/
def wrapAdlersWrong : ChangeSpec := { name := "wrapAdlers", fn := fun _ => fun
  | [d1, d2, d3, d4] => { results := [.lit (.bool false)], args := [d1, d2, d3, d4] }
  | _ => none }
def WrapAdlersWrongFalsely : Prop := wrapAdlersRow.holds Try.pinned (OpenSpec.ofChange wrapAdlersWrong)

/-- 'valiselaw23.WrapSums': WHATEVER THE INPUT: true; the input reads as it did. -/
def wrapSumsSpec : ChangeSpec := { name := "wrapSums", fn := fun _ => fun
  | [d1, d2, d3] => { results := [.lit (.bool true)], args := [d1, d2, d3] }
  | _ => none }
def wrapSumsRow : OpenClaim := { program := "ytpndhoefmepfdaa", sum := "22eb5b6886a08707abf935ca98f0b316a2ba0c01bf8e3159d23433ff4925bcf8", func := "valise/valiselaw23.WrapSums", spec := "wrapSums", apart := false }
def WrapSumsSaid : Prop := wrapSumsRow.holds Try.pinned (OpenSpec.ofChange wrapSumsSpec)

/-- ITS FALSE NEIGHBOUR: 'it returns false'. Refute it at one input. -/
def wrapSumsWrong : ChangeSpec := { name := "wrapSums", fn := fun _ => fun
  | [d1, d2, d3] => { results := [.lit (.bool false)], args := [d1, d2, d3] }
  | _ => none }
def WrapSumsWrongFalsely : Prop := wrapSumsRow.holds Try.pinned (OpenSpec.ofChange wrapSumsWrong)

/-- 'valiselaw11.DeflateStores': WHATEVER THE INPUT: true; the input reads as it did. -/
def deflateStoresSpec : ChangeSpec := { name := "deflateStores", fn := fun _ => fun
  | [d] => { results := [.lit (.bool true)], args := [d] }
  | _ => none }
def deflateStoresRow : OpenClaim := { program := "ytpndhoefmepfdaa", sum := "22eb5b6886a08707abf935ca98f0b316a2ba0c01bf8e3159d23433ff4925bcf8", func := "valise/valiselaw11.DeflateStores", spec := "deflateStores", apart := false }
def DeflateStoresSaid : Prop := deflateStoresRow.holds Try.pinned (OpenSpec.ofChange deflateStoresSpec)

/-- ITS FALSE NEIGHBOUR: 'it returns false'. Refute it at one input. -/
def deflateStoresWrong : ChangeSpec := { name := "deflateStores", fn := fun _ => fun
  | [d] => { results := [.lit (.bool false)], args := [d] }
  | _ => none }
def DeflateStoresWrongFalsely : Prop := deflateStoresRow.holds Try.pinned (OpenSpec.ofChange deflateStoresWrong)

/-- 'valiselaw11.DeflateSplits': WHATEVER THE INPUT: true; the input reads as it did. -/
def deflateSplitsSpec : ChangeSpec := { name := "deflateSplits", fn := fun _ => fun
  | [d] => { results := [.lit (.bool true)], args := [d] }
  | _ => none }
def deflateSplitsRow : OpenClaim := { program := "ytpndhoefmepfdaa", sum := "22eb5b6886a08707abf935ca98f0b316a2ba0c01bf8e3159d23433ff4925bcf8", func := "valise/valiselaw11.DeflateSplits", spec := "deflateSplits", apart := false }
def DeflateSplitsSaid : Prop := deflateSplitsRow.holds Try.pinned (OpenSpec.ofChange deflateSplitsSpec)

/-- ITS FALSE NEIGHBOUR: 'it returns false'. Refute it at one input. -/
def deflateSplitsWrong : ChangeSpec := { name := "deflateSplits", fn := fun _ => fun
  | [d] => { results := [.lit (.bool false)], args := [d] }
  | _ => none }
def DeflateSplitsWrongFalsely : Prop := deflateSplitsRow.holds Try.pinned (OpenSpec.ofChange deflateSplitsWrong)

/-- 'valiselaw11.DeflateSums': WHATEVER THE INPUT: true; the input reads as it did. -/
def deflateSumsSpec : ChangeSpec := { name := "deflateSums", fn := fun _ => fun
  | [d] => { results := [.lit (.bool true)], args := [d] }
  | _ => none }
def deflateSumsRow : OpenClaim := { program := "ytpndhoefmepfdaa", sum := "22eb5b6886a08707abf935ca98f0b316a2ba0c01bf8e3159d23433ff4925bcf8", func := "valise/valiselaw11.DeflateSums", spec := "deflateSums", apart := false }
def DeflateSumsSaid : Prop := deflateSumsRow.holds Try.pinned (OpenSpec.ofChange deflateSumsSpec)

/-- ITS FALSE NEIGHBOUR: 'it returns false'. Refute it at one input. -/
def deflateSumsWrong : ChangeSpec := { name := "deflateSums", fn := fun _ => fun
  | [d] => { results := [.lit (.bool false)], args := [d] }
  | _ => none }
def DeflateSumsWrongFalsely : Prop := deflateSumsRow.holds Try.pinned (OpenSpec.ofChange deflateSumsWrong)

/- THE SECOND FORM. 'bulk': how many values and letters a reading holds, each counted each time it is reached (what is shared counts as often as it is met; a slice's spare places count too). A statement '..UptoSaid' is the law's where the arguments, and the package variables that the reading takes, are together of bulk at most 1048576: NARROWER than '..Said'. Prove '..Said' where nothing that the law and all that it calls make is longer than what came in: it says more and counts as full. Else prove '..UptoSaid'. A law counts once. -/
mutual
def uptoBulk {H : Type} : DataW H → Nat
  | .lit (.string bytes) => bytes.length + 1
  | .lit _ => 1
  | .nil => 1
  | .ptr d => uptoBulk d + 1
  | .slice elems spare => uptoBulkAll elems + uptoBulkAll spare + 1
  | .agg parts => uptoBulkAll parts + 1
  | .iface _ d => uptoBulk d + 1
  | .map entries => uptoBulkEntries entries + 1
  | .held _ => 1
def uptoBulkAll {H : Type} : List (DataW H) → Nat
  | [] => 0
  | d :: r => uptoBulk d + uptoBulkAll r
def uptoBulkEntries {H : Type} : List (Lit × DataW H) → Nat
  | [] => 0
  | x :: r => uptoBulkEntry x + uptoBulkEntries r
def uptoBulkEntry {H : Type} : Lit × DataW H → Nat
  | (.string bytes, d) => bytes.length + uptoBulk d + 1
  | (_, d) => uptoBulk d + 1
 end
def uptoSmall : (H : Type) → List (DataW H) → Bool := fun _ ds => decide (uptoBulkAll ds ≤ 1048576)
def OpenSpec.upto (s : _root_.Go.ChangeSpec) : _root_.Go.OpenSpec := { _root_.Go.OpenSpec.ofChange s with cond := some uptoSmall }

/-- 'valiselaw23.WrapAdlers', WHERE WHAT IT READS IS OF BULK AT MOST 1048576: true; the input reads as it did. -/
def wrapAdlersUptoRow : OpenClaim := { program := "ytpndhoefmepfdaa", sum := "22eb5b6886a08707abf935ca98f0b316a2ba0c01bf8e3159d23433ff4925bcf8", func := "valise/valiselaw23.WrapAdlers", spec := "wrapAdlers", apart := false, narrowed := true }
def WrapAdlersUptoSaid : Prop := wrapAdlersUptoRow.holds Try.pinned (OpenSpec.upto wrapAdlersSpec)

/-- 'valiselaw23.WrapSums', WHERE WHAT IT READS IS OF BULK AT MOST 1048576: true; the input reads as it did. -/
def wrapSumsUptoRow : OpenClaim := { program := "ytpndhoefmepfdaa", sum := "22eb5b6886a08707abf935ca98f0b316a2ba0c01bf8e3159d23433ff4925bcf8", func := "valise/valiselaw23.WrapSums", spec := "wrapSums", apart := false, narrowed := true }
def WrapSumsUptoSaid : Prop := wrapSumsUptoRow.holds Try.pinned (OpenSpec.upto wrapSumsSpec)

/-- 'valiselaw11.DeflateStores', WHERE WHAT IT READS IS OF BULK AT MOST 1048576: true; the input reads as it did. -/
def deflateStoresUptoRow : OpenClaim := { program := "ytpndhoefmepfdaa", sum := "22eb5b6886a08707abf935ca98f0b316a2ba0c01bf8e3159d23433ff4925bcf8", func := "valise/valiselaw11.DeflateStores", spec := "deflateStores", apart := false, narrowed := true }
def DeflateStoresUptoSaid : Prop := deflateStoresUptoRow.holds Try.pinned (OpenSpec.upto deflateStoresSpec)

/-- 'valiselaw11.DeflateSplits', WHERE WHAT IT READS IS OF BULK AT MOST 1048576: true; the input reads as it did. -/
def deflateSplitsUptoRow : OpenClaim := { program := "ytpndhoefmepfdaa", sum := "22eb5b6886a08707abf935ca98f0b316a2ba0c01bf8e3159d23433ff4925bcf8", func := "valise/valiselaw11.DeflateSplits", spec := "deflateSplits", apart := false, narrowed := true }
def DeflateSplitsUptoSaid : Prop := deflateSplitsUptoRow.holds Try.pinned (OpenSpec.upto deflateSplitsSpec)

/-- 'valiselaw11.DeflateSums', WHERE WHAT IT READS IS OF BULK AT MOST 1048576: true; the input reads as it did. -/
def deflateSumsUptoRow : OpenClaim := { program := "ytpndhoefmepfdaa", sum := "22eb5b6886a08707abf935ca98f0b316a2ba0c01bf8e3159d23433ff4925bcf8", func := "valise/valiselaw11.DeflateSums", spec := "deflateSums", apart := false, narrowed := true }
def DeflateSumsUptoSaid : Prop := deflateSumsUptoRow.holds Try.pinned (OpenSpec.upto deflateSumsSpec)

end Rows
end Go.Proofs.Ytpndhoefmepfdaa
