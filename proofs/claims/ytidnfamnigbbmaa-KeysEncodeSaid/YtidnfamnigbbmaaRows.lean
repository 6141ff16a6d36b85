/-
  No cell of these rows narrows 'for every input' (looked for: loops, veiled, ifaces, maps, wideKeys, modest, calm, conditions, laid).
  DERIVED. THE GIVEN ROWS OF THIS SEAT. 5 by the template 'for every input the law returns true; each argument reads behind the call as it read before'; 0 by the template 'total and deterministic' (their statements: YtidnfamnigbbmaaTotals.lean).
  GIVEN WITH THE SEED: the statements are not yours to turn. If you find one false, say at which input.
  Laid BY PROGRAM, IN A SANDBOX (cutbox-rows.mjs): the forced cells as the released guide's own fill.sh prints them over the translation 081edd1313f774b3… (all of the seat's roots in one cut). By AI agents, Wed Nov 11 2026. No macro, syntax, notation, axiom, sorry.
-/
import Derived.Test.YtidnfamnigbbmaaChecked
import GoSem.Claim
import GoSem.ClaimJoined
import GoSem.ClaimMapViews
import Derived.JoinedTies
import Derived.KernelRfl
namespace Go.Proofs.Ytidnfamnigbbmaa
/- THE CELL 'sum', in the pinned program and in every row, IS THE sha256 OF THE DUMP (.gsa) THAT YtidnfamnigbbmaaProg.lean LOADS. Nothing in Lean hashes anything: it is a label: what it is worth is what the hold of that sum in a sandbox is worth. -/
noncomputable def Try.pinned : Pinned := { name := "ytidnfamnigbbmaa", sum := "081edd1313f774b3e5c9466b77256067501b18132a75788640259b33a8fb3b76", checked := Try.checked }
namespace Rows
def none {H : Type} : Left H := { results := [], args := [] }

/-- 'cadastrelaw04.KeysDecode': WHATEVER THE INPUT: true; the input reads as it did. -/
def keysDecodeSpec : ChangeSpec := { name := "keysDecode", fn := fun _ => fun
  | [d] => { results := [.lit (.bool true)], args := [d] }
  | _ => none }
def keysDecodeRow : OpenClaim := { program := "ytidnfamnigbbmaa", sum := "081edd1313f774b3e5c9466b77256067501b18132a75788640259b33a8fb3b76", func := "cadastre/cadastrelaw04.KeysDecode", spec := "keysDecode", unfollowed := true, recurses := true, apart := false }
def KeysDecodeSaid : Prop := keysDecodeRow.holds Try.pinned (OpenSpec.ofChange keysDecodeSpec)

/-- ITS FALSE NEIGHBOUR: 'it returns false'. Refute it at one input. -/
def keysDecodeWrong : ChangeSpec := { name := "keysDecode", fn := fun _ => fun
  | [d] => { results := [.lit (.bool false)], args := [d] }
  | _ => none }
def KeysDecodeWrongFalsely : Prop := keysDecodeRow.holds Try.pinned (OpenSpec.ofChange keysDecodeWrong)

/-- 'cadastrelaw04.KeysOrder': WHATEVER THE INPUT: true; the input reads as it did. -/
def keysOrderSpec : ChangeSpec := { name := "keysOrder", fn := fun _ => fun
  | [d1, d2] => { results := [.lit (.bool true)], args := [d1, d2] }
  | _ => none }
def keysOrderRow : OpenClaim := { program := "ytidnfamnigbbmaa", sum := "081edd1313f774b3e5c9466b77256067501b18132a75788640259b33a8fb3b76", func := "cadastre/cadastrelaw04.KeysOrder", spec := "keysOrder", unfollowed := true, recurses := true, apart := false }
def KeysOrderSaid : Prop := keysOrderRow.holds Try.pinned (OpenSpec.ofChange keysOrderSpec)

/-- ITS FALSE NEIGHBOUR: 'it returns false'. Refute it at one input. -/
def keysOrderWrong : ChangeSpec := { name := "keysOrder", fn := fun _ => fun
  | [d1, d2] => { results := [.lit (.bool false)], args := [d1, d2] }
  | _ => none }
def KeysOrderWrongFalsely : Prop := keysOrderRow.holds Try.pinned (OpenSpec.ofChange keysOrderWrong)

/-- 'cadastrelaw04.KeysBack': WHATEVER THE INPUT: true; the input reads as it did. -/
def keysBackSpec : ChangeSpec := { name := "keysBack", fn := fun _ => fun
  | [d1, d2, d3] => { results := [.lit (.bool true)], args := [d1, d2, d3] }
  | _ => none }
def keysBackRow : OpenClaim := { program := "ytidnfamnigbbmaa", sum := "081edd1313f774b3e5c9466b77256067501b18132a75788640259b33a8fb3b76", func := "cadastre/cadastrelaw04.KeysBack", spec := "keysBack", unfollowed := true, recurses := true, apart := false }
def KeysBackSaid : Prop := keysBackRow.holds Try.pinned (OpenSpec.ofChange keysBackSpec)

/-- ITS FALSE NEIGHBOUR: 'it returns false'. Refute it at one input. -/
def keysBackWrong : ChangeSpec := { name := "keysBack", fn := fun _ => fun
  | [d1, d2, d3] => { results := [.lit (.bool false)], args := [d1, d2, d3] }
  | _ => none }
def KeysBackWrongFalsely : Prop := keysBackRow.holds Try.pinned (OpenSpec.ofChange keysBackWrong)

/-- 'cadastrelaw04.KeysEncode': WHATEVER THE INPUT: true; the input reads as it did. -/
def keysEncodeSpec : ChangeSpec := { name := "keysEncode", fn := fun _ => fun
  | [d] => { results := [.lit (.bool true)], args := [d] }
  | _ => none }
def keysEncodeRow : OpenClaim := { program := "ytidnfamnigbbmaa", sum := "081edd1313f774b3e5c9466b77256067501b18132a75788640259b33a8fb3b76", func := "cadastre/cadastrelaw04.KeysEncode", spec := "keysEncode", unfollowed := true, recurses := true, apart := false }
def KeysEncodeSaid : Prop := keysEncodeRow.holds Try.pinned (OpenSpec.ofChange keysEncodeSpec)

/-- ITS FALSE NEIGHBOUR: 'it returns false'. Refute it at one input. -/
def keysEncodeWrong : ChangeSpec := { name := "keysEncode", fn := fun _ => fun
  | [d] => { results := [.lit (.bool false)], args := [d] }
  | _ => none }
def KeysEncodeWrongFalsely : Prop := keysEncodeRow.holds Try.pinned (OpenSpec.ofChange keysEncodeWrong)

/-- 'cadastrelaw04.KeysBetween': WHATEVER THE INPUT: true; the input reads as it did. -/
def keysBetweenSpec : ChangeSpec := { name := "keysBetween", fn := fun _ => fun
  | [d1, d2] => { results := [.lit (.bool true)], args := [d1, d2] }
  | _ => none }
def keysBetweenRow : OpenClaim := { program := "ytidnfamnigbbmaa", sum := "081edd1313f774b3e5c9466b77256067501b18132a75788640259b33a8fb3b76", func := "cadastre/cadastrelaw04.KeysBetween", spec := "keysBetween", unfollowed := true, recurses := true, apart := false }
def KeysBetweenSaid : Prop := keysBetweenRow.holds Try.pinned (OpenSpec.ofChange keysBetweenSpec)

/-- ITS FALSE NEIGHBOUR: 'it returns false'. Refute it at one input. -/
def keysBetweenWrong : ChangeSpec := { name := "keysBetween", fn := fun _ => fun
  | [d1, d2] => { results := [.lit (.bool false)], args := [d1, d2] }
  | _ => none }
def KeysBetweenWrongFalsely : Prop := keysBetweenRow.holds Try.pinned (OpenSpec.ofChange keysBetweenWrong)

/- THE SECOND FORM. 'bulk': how many values and letters a reading holds, each counted each time it is reached (what is shared counts as often as it is met; a slice's spare places count too). A statement '..UptoSaid' is the law's where the arguments, and the package variables that the reading takes, are together of bulk at most 1048576: NARROWER than '..Said'. Prove '..Said' where nothing that the law and all that it calls make is longer than what came in: it says more and counts as full. Else prove '..UptoSaid'. A law counts once. -/
mutual
def uptoBulk {H : Type} : DataW H → Nat
  | .lit (.string bytes) => bytes.length + 1
  | .lit _ => 1
  | .nil => 1
  | .ptr d => uptoBulk d + 1
  | .slice elems spare => uptoBulkAll elems + uptoBulkAll spare + 1
  | .agg parts => uptoBulkAll parts + 1
  | .iface _ d => uptoBulk d + 1
  | .map entries => uptoBulkEntries entries + 1
  | .held _ => 1
def uptoBulkAll {H : Type} : List (DataW H) → Nat
  | [] => 0
  | d :: r => uptoBulk d + uptoBulkAll r
def uptoBulkEntries {H : Type} : List (Lit × DataW H) → Nat
  | [] => 0
  | x :: r => uptoBulkEntry x + uptoBulkEntries r
def uptoBulkEntry {H : Type} : Lit × DataW H → Nat
  | (.string bytes, d) => bytes.length + uptoBulk d + 1
  | (_, d) => uptoBulk d + 1
 end
def uptoSmall : (H : Type) → List (DataW H) → Bool := fun _ ds => decide (uptoBulkAll ds ≤ 1048576)
def OpenSpec.upto (s : _root_.Go.ChangeSpec) : _root_.Go.OpenSpec := { _root_.Go.OpenSpec.ofChange s with cond := some uptoSmall }

/-- 'cadastrelaw04.KeysDecode', WHERE WHAT IT READS IS OF BULK AT MOST 1048576: true; the input reads as it did. -/
def keysDecodeUptoRow : OpenClaim := { program := "ytidnfamnigbbmaa", sum := "081edd1313f774b3e5c9466b77256067501b18132a75788640259b33a8fb3b76", func := "cadastre/cadastrelaw04.KeysDecode", spec := "keysDecode", unfollowed := true, recurses := true, apart := false, narrowed := true }
def KeysDecodeUptoSaid : Prop := keysDecodeUptoRow.holds Try.pinned (OpenSpec.upto keysDecodeSpec)

/-- 'cadastrelaw04.KeysOrder', WHERE WHAT IT READS IS OF BULK AT MOST 1048576: true; the input reads as it did. -/
def keysOrderUptoRow : OpenClaim := { program := "ytidnfamnigbbmaa", sum := "081edd1313f774b3e5c9466b77256067501b18132a75788640259b33a8fb3b76", func := "cadastre/cadastrelaw04.KeysOrder", spec := "keysOrder", unfollowed := true, recurses := true, apart := false, narrowed := true }
def KeysOrderUptoSaid : Prop := keysOrderUptoRow.holds Try.pinned (OpenSpec.upto keysOrderSpec)

/-- 'cadastrelaw04.KeysBack', WHERE WHAT IT READS IS OF BULK AT MOST 1048576: true; the input reads as it did. -/
def keysBackUptoRow : OpenClaim := { program := "ytidnfamnigbbmaa", sum := "081edd1313f774b3e5c9466b77256067501b18132a75788640259b33a8fb3b76", func := "cadastre/cadastrelaw04.KeysBack", spec := "keysBack", unfollowed := true, recurses := true, apart := false, narrowed := true }
def KeysBackUptoSaid : Prop := keysBackUptoRow.holds Try.pinned (OpenSpec.upto keysBackSpec)

/-- 'cadastrelaw04.KeysEncode', WHERE WHAT IT READS IS OF BULK AT MOST 1048576: true; the input reads as it did. -/
def keysEncodeUptoRow : OpenClaim := { program := "ytidnfamnigbbmaa", sum := "081edd1313f774b3e5c9466b77256067501b18132a75788640259b33a8fb3b76", func := "cadastre/cadastrelaw04.KeysEncode", spec := "keysEncode", unfollowed := true, recurses := true, apart := false, narrowed := true }
def KeysEncodeUptoSaid : Prop := keysEncodeUptoRow.holds Try.pinned (OpenSpec.upto keysEncodeSpec)

/-- 'cadastrelaw04.KeysBetween', WHERE WHAT IT READS IS OF BULK AT MOST 1048576: true; the input reads as it did. -/
def keysBetweenUptoRow : OpenClaim := { program := "ytidnfamnigbbmaa", sum := "081edd1313f774b3e5c9466b77256067501b18132a75788640259b33a8fb3b76", func := "cadastre/cadastrelaw04.KeysBetween", spec := "keysBetween", unfollowed := true, recurses := true, apart := false, narrowed := true }
def KeysBetweenUptoSaid : Prop := keysBetweenUptoRow.holds Try.pinned (OpenSpec.upto keysBetweenSpec)

end Rows
end Go.Proofs.Ytidnfamnigbbmaa
