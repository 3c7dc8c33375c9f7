/-
  No cell of these rows narrows 'for every input' (looked for: loops, veiled, ifaces, maps, wideKeys, modest, calm, conditions, laid).
  DERIVED. THE GIVEN ROWS OF THIS SEAT. 11 by the template 'for every input the law returns true; each argument reads behind the call as it read before'; 0 by the template 'total and deterministic' (their statements: YtlcghlcpngafgaaTotals.lean).
  GIVEN WITH THE SEED: the statements are not yours to turn. If you find one false, say at which input.
  Laid BY PROGRAM, IN A SANDBOX (cutbox-rows.mjs): the forced cells as the released guide's own fill.sh prints them over the translation 37bb591ec27f07f6… (all of the seat's roots in one cut). By AI agents, Wed Nov 11 2026. No macro, syntax, notation, axiom, sorry.
-/
import Derived.Test.YtlcghlcpngafgaaChecked
import GoSem.Claim
import GoSem.ClaimJoined
import GoSem.ClaimMapViews
import Derived.JoinedTies
import Derived.KernelRfl
namespace Go.Proofs.Ytlcghlcpngafgaa
/- THE CELL 'sum', in the pinned program and in every row, IS THE sha256 OF THE DUMP (.gsa) THAT YtlcghlcpngafgaaProg.lean LOADS. Nothing in Lean hashes anything: it is a label: what it is worth is what the hold of that sum in a sandbox is worth. -/
noncomputable def Try.pinned : Pinned := { name := "ytlcghlcpngafgaa", sum := "37bb591ec27f07f68baa47479592285389f8195ffc9436e5137d7afb6b397988", checked := Try.checked }
namespace Rows
def none {H : Type} : Left H := { results := [], args := [] }

/-- 'quoinlaw17.CollAlike': WHATEVER THE INPUT: true; the input reads as it did. -/
def collAlikeSpec : ChangeSpec := { name := "collAlike", fn := fun _ => fun
  | [d1, d2, d3] => { results := [.lit (.bool true)], args := [d1, d2, d3] }
  | _ => none }
def collAlikeRow : OpenClaim := { program := "ytlcghlcpngafgaa", sum := "37bb591ec27f07f68baa47479592285389f8195ffc9436e5137d7afb6b397988", func := "quoin/quoinlaw17.CollAlike", spec := "collAlike", unfollowed := true, recurses := true, apart := false }
def CollAlikeSaid : Prop := collAlikeRow.holds Try.pinned (OpenSpec.ofChange collAlikeSpec)

/-- ITS FALSE NEIGHBOUR: 'it returns false'. Refute it at one input. -/
def collAlikeWrong : ChangeSpec := { name := "collAlike", fn := fun _ => fun
  | [d1, d2, d3] => { results := [.lit (.bool false)], args := [d1, d2, d3] }
  | _ => none }
def CollAlikeWrongFalsely : Prop := collAlikeRow.holds Try.pinned (OpenSpec.ofChange collAlikeWrong)

/-- 'quoinlaw17.CollMore': WHATEVER THE INPUT: true; the input reads as it did. -/
def collMoreSpec : ChangeSpec := { name := "collMore", fn := fun _ => fun
  | [d1, d2, d3] => { results := [.lit (.bool true)], args := [d1, d2, d3] }
  | _ => none }
def collMoreRow : OpenClaim := { program := "ytlcghlcpngafgaa", sum := "37bb591ec27f07f68baa47479592285389f8195ffc9436e5137d7afb6b397988", func := "quoin/quoinlaw17.CollMore", spec := "collMore", unfollowed := true, recurses := true, apart := false }
def CollMoreSaid : Prop := collMoreRow.holds Try.pinned (OpenSpec.ofChange collMoreSpec)

/-- ITS FALSE NEIGHBOUR: 'it returns false'. Refute it at one input. -/
def collMoreWrong : ChangeSpec := { name := "collMore", fn := fun _ => fun
  | [d1, d2, d3] => { results := [.lit (.bool false)], args := [d1, d2, d3] }
  | _ => none }
def CollMoreWrongFalsely : Prop := collMoreRow.holds Try.pinned (OpenSpec.ofChange collMoreWrong)

/-- 'quoinlaw17.CollTells': WHATEVER THE INPUT: true; the input reads as it did. -/
def collTellsSpec : ChangeSpec := { name := "collTells", fn := fun _ => fun
  | [d1, d2, d3, d4] => { results := [.lit (.bool true)], args := [d1, d2, d3, d4] }
  | _ => none }
def collTellsRow : OpenClaim := { program := "ytlcghlcpngafgaa", sum := "37bb591ec27f07f68baa47479592285389f8195ffc9436e5137d7afb6b397988", func := "quoin/quoinlaw17.CollTells", spec := "collTells", unfollowed := true, recurses := true, apart := false }
def CollTellsSaid : Prop := collTellsRow.holds Try.pinned (OpenSpec.ofChange collTellsSpec)

/-- ITS FALSE NEIGHBOUR: 'it returns false'. Refute it at one input. -/
def collTellsWrong : ChangeSpec := { name := "collTells", fn := fun _ => fun
  | [d1, d2, d3, d4] => { results := [.lit (.bool false)], args := [d1, d2, d3, d4] }
  | _ => none }
def CollTellsWrongFalsely : Prop := collTellsRow.holds Try.pinned (OpenSpec.ofChange collTellsWrong)

/-- 'quoinlaw17.CollLines': WHATEVER THE INPUT: true; the input reads as it did. -/
def collLinesSpec : ChangeSpec := { name := "collLines", fn := fun _ => fun
  | [d1, d2] => { results := [.lit (.bool true)], args := [d1, d2] }
  | _ => none }
def collLinesRow : OpenClaim := { program := "ytlcghlcpngafgaa", sum := "37bb591ec27f07f68baa47479592285389f8195ffc9436e5137d7afb6b397988", func := "quoin/quoinlaw17.CollLines", spec := "collLines", unfollowed := true, recurses := true, apart := false }
def CollLinesSaid : Prop := collLinesRow.holds Try.pinned (OpenSpec.ofChange collLinesSpec)

/-- ITS FALSE NEIGHBOUR: 'it returns false'. Refute it at one input. -/
def collLinesWrong : ChangeSpec := { name := "collLines", fn := fun _ => fun
  | [d1, d2] => { results := [.lit (.bool false)], args := [d1, d2] }
  | _ => none }
def CollLinesWrongFalsely : Prop := collLinesRow.holds Try.pinned (OpenSpec.ofChange collLinesWrong)

/-- 'quoinlaw17.CollOrder': WHATEVER THE INPUT: true; the input reads as it did. -/
def collOrderSpec : ChangeSpec := { name := "collOrder", fn := fun _ => fun
  | [d] => { results := [.lit (.bool true)], args := [d] }
  | _ => none }
def collOrderRow : OpenClaim := { program := "ytlcghlcpngafgaa", sum := "37bb591ec27f07f68baa47479592285389f8195ffc9436e5137d7afb6b397988", func := "quoin/quoinlaw17.CollOrder", spec := "collOrder", unfollowed := true, recurses := true, apart := false }
def CollOrderSaid : Prop := collOrderRow.holds Try.pinned (OpenSpec.ofChange collOrderSpec)

/-- ITS FALSE NEIGHBOUR: 'it returns false'. Refute it at one input. -/
def collOrderWrong : ChangeSpec := { name := "collOrder", fn := fun _ => fun
  | [d] => { results := [.lit (.bool false)], args := [d] }
  | _ => none }
def CollOrderWrongFalsely : Prop := collOrderRow.holds Try.pinned (OpenSpec.ofChange collOrderWrong)

/-- 'quoinlaw18.FreeParts': WHATEVER THE INPUT: true; the input reads as it did. -/
def freePartsSpec : ChangeSpec := { name := "freeParts", fn := fun _ => fun
  | [d1, d2] => { results := [.lit (.bool true)], args := [d1, d2] }
  | _ => none }
def freePartsRow : OpenClaim := { program := "ytlcghlcpngafgaa", sum := "37bb591ec27f07f68baa47479592285389f8195ffc9436e5137d7afb6b397988", func := "quoin/quoinlaw18.FreeParts", spec := "freeParts", named := ["math/bits.divideError", "math/bits.overflowError"], apart := false }
def FreePartsSaid : Prop := freePartsRow.holds Try.pinned (OpenSpec.ofChange freePartsSpec)

/-- ITS FALSE NEIGHBOUR: 'it returns false'. Refute it at one input. -/
def freePartsWrong : ChangeSpec := { name := "freeParts", fn := fun _ => fun
  | [d1, d2] => { results := [.lit (.bool false)], args := [d1, d2] }
  | _ => none }
def FreePartsWrongFalsely : Prop := freePartsRow.holds Try.pinned (OpenSpec.ofChange freePartsWrong)

/-- 'quoinlaw18.FreeMore': WHATEVER THE INPUT: true; the input reads as it did. -/
def freeMoreSpec : ChangeSpec := { name := "freeMore", fn := fun _ => fun
  | [d1, d2, d3] => { results := [.lit (.bool true)], args := [d1, d2, d3] }
  | _ => none }
def freeMoreRow : OpenClaim := { program := "ytlcghlcpngafgaa", sum := "37bb591ec27f07f68baa47479592285389f8195ffc9436e5137d7afb6b397988", func := "quoin/quoinlaw18.FreeMore", spec := "freeMore", named := ["math/bits.divideError", "math/bits.overflowError"], apart := false }
def FreeMoreSaid : Prop := freeMoreRow.holds Try.pinned (OpenSpec.ofChange freeMoreSpec)

/-- ITS FALSE NEIGHBOUR: 'it returns false'. Refute it at one input. -/
def freeMoreWrong : ChangeSpec := { name := "freeMore", fn := fun _ => fun
  | [d1, d2, d3] => { results := [.lit (.bool false)], args := [d1, d2, d3] }
  | _ => none }
def FreeMoreWrongFalsely : Prop := freeMoreRow.holds Try.pinned (OpenSpec.ofChange freeMoreWrong)

/-- 'quoinlaw18.FreeFixed': WHATEVER THE INPUT: true; the input reads as it did. -/
def freeFixedSpec : ChangeSpec := { name := "freeFixed", fn := fun _ => fun
  | [d1, d2, d3, d4] => { results := [.lit (.bool true)], args := [d1, d2, d3, d4] }
  | _ => none }
def freeFixedRow : OpenClaim := { program := "ytlcghlcpngafgaa", sum := "37bb591ec27f07f68baa47479592285389f8195ffc9436e5137d7afb6b397988", func := "quoin/quoinlaw18.FreeFixed", spec := "freeFixed", named := ["math/bits.divideError", "math/bits.overflowError"], apart := false }
def FreeFixedSaid : Prop := freeFixedRow.holds Try.pinned (OpenSpec.ofChange freeFixedSpec)

/-- ITS FALSE NEIGHBOUR: 'it returns false'. Refute it at one input. -/
def freeFixedWrong : ChangeSpec := { name := "freeFixed", fn := fun _ => fun
  | [d1, d2, d3, d4] => { results := [.lit (.bool false)], args := [d1, d2, d3, d4] }
  | _ => none }
def FreeFixedWrongFalsely : Prop := freeFixedRow.holds Try.pinned (OpenSpec.ofChange freeFixedWrong)

/-- 'quoinlaw18.FreeTells': WHATEVER THE INPUT: true; the input reads as it did. -/
def freeTellsSpec : ChangeSpec := { name := "freeTells", fn := fun _ => fun
  | [d1, d2, d3] => { results := [.lit (.bool true)], args := [d1, d2, d3] }
  | _ => none }
def freeTellsRow : OpenClaim := { program := "ytlcghlcpngafgaa", sum := "37bb591ec27f07f68baa47479592285389f8195ffc9436e5137d7afb6b397988", func := "quoin/quoinlaw18.FreeTells", spec := "freeTells", named := ["math/bits.divideError", "math/bits.overflowError"], apart := false }
def FreeTellsSaid : Prop := freeTellsRow.holds Try.pinned (OpenSpec.ofChange freeTellsSpec)

/-- ITS FALSE NEIGHBOUR: 'it returns false'. Refute it at one input. -/
def freeTellsWrong : ChangeSpec := { name := "freeTells", fn := fun _ => fun
  | [d1, d2, d3] => { results := [.lit (.bool false)], args := [d1, d2, d3] }
  | _ => none }
def FreeTellsWrongFalsely : Prop := freeTellsRow.holds Try.pinned (OpenSpec.ofChange freeTellsWrong)

/-- 'quoinlaw18.FreeShares': WHATEVER THE INPUT: true; the input reads as it did. -/
def freeSharesSpec : ChangeSpec := { name := "freeShares", fn := fun _ => fun
  | [d1, d2, d3] => { results := [.lit (.bool true)], args := [d1, d2, d3] }
  | _ => none }
def freeSharesRow : OpenClaim := { program := "ytlcghlcpngafgaa", sum := "37bb591ec27f07f68baa47479592285389f8195ffc9436e5137d7afb6b397988", func := "quoin/quoinlaw18.FreeShares", spec := "freeShares", named := ["math/bits.divideError", "math/bits.overflowError"], apart := false }
def FreeSharesSaid : Prop := freeSharesRow.holds Try.pinned (OpenSpec.ofChange freeSharesSpec)

/-- ITS FALSE NEIGHBOUR: 'it returns false'. Refute it at one input. -/
def freeSharesWrong : ChangeSpec := { name := "freeShares", fn := fun _ => fun
  | [d1, d2, d3] => { results := [.lit (.bool false)], args := [d1, d2, d3] }
  | _ => none }
def FreeSharesWrongFalsely : Prop := freeSharesRow.holds Try.pinned (OpenSpec.ofChange freeSharesWrong)

/-- 'quoinlaw18.FreeStill': WHATEVER THE INPUT: true; the input reads as it did. -/
def freeStillSpec : ChangeSpec := { name := "freeStill", fn := fun _ => fun
  | [d1, d2, d3] => { results := [.lit (.bool true)], args := [d1, d2, d3] }
  | _ => none }
def freeStillRow : OpenClaim := { program := "ytlcghlcpngafgaa", sum := "37bb591ec27f07f68baa47479592285389f8195ffc9436e5137d7afb6b397988", func := "quoin/quoinlaw18.FreeStill", spec := "freeStill", named := ["math/bits.divideError", "math/bits.overflowError"], apart := false }
def FreeStillSaid : Prop := freeStillRow.holds Try.pinned (OpenSpec.ofChange freeStillSpec)

/-- ITS FALSE NEIGHBOUR: 'it returns false'. Refute it at one input. -/
def freeStillWrong : ChangeSpec := { name := "freeStill", fn := fun _ => fun
  | [d1, d2, d3] => { results := [.lit (.bool false)], args := [d1, d2, d3] }
  | _ => none }
def FreeStillWrongFalsely : Prop := freeStillRow.holds Try.pinned (OpenSpec.ofChange freeStillWrong)

/- THE SECOND FORM. 'bulk': how many values and letters a reading holds, each counted each time it is reached (what is shared counts as often as it is met; a slice's spare places count too). A statement '..UptoSaid' is the law's where the arguments, and the package variables that the reading takes, are together of bulk at most 1048576: NARROWER than '..Said'. Prove '..Said' where nothing that the law and all that it calls make is longer than what came in: it says more and counts as full. Else prove '..UptoSaid'. A law counts once. -/
mutual
def uptoBulk {H : Type} : DataW H → Nat
  | .lit (.string bytes) => bytes.length + 1
  | .lit _ => 1
  | .nil => 1
  | .ptr d => uptoBulk d + 1
  | .slice elems spare => uptoBulkAll elems + uptoBulkAll spare + 1
  | .agg parts => uptoBulkAll parts + 1
  | .iface _ d => uptoBulk d + 1
  | .map entries => uptoBulkEntries entries + 1
  | .held _ => 1
def uptoBulkAll {H : Type} : List (DataW H) → Nat
  | [] => 0
  | d :: r => uptoBulk d + uptoBulkAll r
def uptoBulkEntries {H : Type} : List (Lit × DataW H) → Nat
  | [] => 0
  | x :: r => uptoBulkEntry x + uptoBulkEntries r
def uptoBulkEntry {H : Type} : Lit × DataW H → Nat
  | (.string bytes, d) => bytes.length + uptoBulk d + 1
  | (_, d) => uptoBulk d + 1
 end
def uptoSmall : (H : Type) → List (DataW H) → Bool := fun _ ds => decide (uptoBulkAll ds ≤ 1048576)
def OpenSpec.upto (s : _root_.Go.ChangeSpec) : _root_.Go.OpenSpec := { _root_.Go.OpenSpec.ofChange s with cond := some uptoSmall }

/-- 'quoinlaw17.CollAlike', WHERE WHAT IT READS IS OF BULK AT MOST 1048576: true; the input reads as it did. -/
def collAlikeUptoRow : OpenClaim := { program := "ytlcghlcpngafgaa", sum := "37bb591ec27f07f68baa47479592285389f8195ffc9436e5137d7afb6b397988", func := "quoin/quoinlaw17.CollAlike", spec := "collAlike", unfollowed := true, recurses := true, apart := false, narrowed := true }
def CollAlikeUptoSaid : Prop := collAlikeUptoRow.holds Try.pinned (OpenSpec.upto collAlikeSpec)

/-- 'quoinlaw17.CollMore', WHERE WHAT IT READS IS OF BULK AT MOST 1048576: true; the input reads as it did. -/
def collMoreUptoRow : OpenClaim := { program := "ytlcghlcpngafgaa", sum := "37bb591ec27f07f68baa47479592285389f8195ffc9436e5137d7afb6b397988", func := "quoin/quoinlaw17.CollMore", spec := "collMore", unfollowed := true, recurses := true, apart := false, narrowed := true }
def CollMoreUptoSaid : Prop := collMoreUptoRow.holds Try.pinned (OpenSpec.upto collMoreSpec)

/-- 'quoinlaw17.CollTells', WHERE WHAT IT READS IS OF BULK AT MOST 1048576: true; the input reads as it did. -/
def collTellsUptoRow : OpenClaim := { program := "ytlcghlcpngafgaa", sum := "37bb591ec27f07f68baa47479592285389f8195ffc9436e5137d7afb6b397988", func := "quoin/quoinlaw17.CollTells", spec := "collTells", unfollowed := true, recurses := true, apart := false, narrowed := true }
def CollTellsUptoSaid : Prop := collTellsUptoRow.holds Try.pinned (OpenSpec.upto collTellsSpec)

/-- 'quoinlaw17.CollLines', WHERE WHAT IT READS IS OF BULK AT MOST 1048576: true; the input reads as it did. -/
def collLinesUptoRow : OpenClaim := { program := "ytlcghlcpngafgaa", sum := "37bb591ec27f07f68baa47479592285389f8195ffc9436e5137d7afb6b397988", func := "quoin/quoinlaw17.CollLines", spec := "collLines", unfollowed := true, recurses := true, apart := false, narrowed := true }
def CollLinesUptoSaid : Prop := collLinesUptoRow.holds Try.pinned (OpenSpec.upto collLinesSpec)

/-- 'quoinlaw17.CollOrder', WHERE WHAT IT READS IS OF BULK AT MOST 1048576: true; the input reads as it did. -/
def collOrderUptoRow : OpenClaim := { program := "ytlcghlcpngafgaa", sum := "37bb591ec27f07f68baa47479592285389f8195ffc9436e5137d7afb6b397988", func := "quoin/quoinlaw17.CollOrder", spec := "collOrder", unfollowed := true, recurses := true, apart := false, narrowed := true }
def CollOrderUptoSaid : Prop := collOrderUptoRow.holds Try.pinned (OpenSpec.upto collOrderSpec)

/-- 'quoinlaw18.FreeParts', WHERE WHAT IT READS IS OF BULK AT MOST 1048576: true; the input reads as it did. -/
def freePartsUptoRow : OpenClaim := { program := "ytlcghlcpngafgaa", sum := "37bb591ec27f07f68baa47479592285389f8195ffc9436e5137d7afb6b397988", func := "quoin/quoinlaw18.FreeParts", spec := "freeParts", named := ["math/bits.divideError", "math/bits.overflowError"], apart := false, narrowed := true }
def FreePartsUptoSaid : Prop := freePartsUptoRow.holds Try.pinned (OpenSpec.upto freePartsSpec)

/-- 'quoinlaw18.FreeMore', WHERE WHAT IT READS IS OF BULK AT MOST 1048576: true; the input reads as it did. -/
def freeMoreUptoRow : OpenClaim := { program := "ytlcghlcpngafgaa", sum := "37bb591ec27f07f68baa47479592285389f8195ffc9436e5137d7afb6b397988", func := "quoin/quoinlaw18.FreeMore", spec := "freeMore", named := ["math/bits.divideError", "math/bits.overflowError"], apart := false, narrowed := true }
def FreeMoreUptoSaid : Prop := freeMoreUptoRow.holds Try.pinned (OpenSpec.upto freeMoreSpec)

/-- 'quoinlaw18.FreeFixed', WHERE WHAT IT READS IS OF BULK AT MOST 1048576: true; the input reads as it did. -/
def freeFixedUptoRow : OpenClaim := { program := "ytlcghlcpngafgaa", sum := "37bb591ec27f07f68baa47479592285389f8195ffc9436e5137d7afb6b397988", func := "quoin/quoinlaw18.FreeFixed", spec := "freeFixed", named := ["math/bits.divideError", "math/bits.overflowError"], apart := false, narrowed := true }
def FreeFixedUptoSaid : Prop := freeFixedUptoRow.holds Try.pinned (OpenSpec.upto freeFixedSpec)

/-- 'quoinlaw18.FreeTells', WHERE WHAT IT READS IS OF BULK AT MOST 1048576: true; the input reads as it did. -/
def freeTellsUptoRow : OpenClaim := { program := "ytlcghlcpngafgaa", sum := "37bb591ec27f07f68baa47479592285389f8195ffc9436e5137d7afb6b397988", func := "quoin/quoinlaw18.FreeTells", spec := "freeTells", named := ["math/bits.divideError", "math/bits.overflowError"], apart := false, narrowed := true }
def FreeTellsUptoSaid : Prop := freeTellsUptoRow.holds Try.pinned (OpenSpec.upto freeTellsSpec)

/-- 'quoinlaw18.FreeShares', WHERE WHAT IT READS IS OF BULK AT MOST 1048576: true; the input reads as it did. -/
def freeSharesUptoRow : OpenClaim := { program := "ytlcghlcpngafgaa", sum := "37bb591ec27f07f68baa47479592285389f8195ffc9436e5137d7afb6b397988", func := "quoin/quoinlaw18.FreeShares", spec := "freeShares", named := ["math/bits.divideError", "math/bits.overflowError"], apart := false, narrowed := true }
def FreeSharesUptoSaid : Prop := freeSharesUptoRow.holds Try.pinned (OpenSpec.upto freeSharesSpec)

/-- 'quoinlaw18.FreeStill', WHERE WHAT IT READS IS OF BULK AT MOST 1048576: true; the input reads as it did. -/
def freeStillUptoRow : OpenClaim := { program := "ytlcghlcpngafgaa", sum := "37bb591ec27f07f68baa47479592285389f8195ffc9436e5137d7afb6b397988", func := "quoin/quoinlaw18.FreeStill", spec := "freeStill", named := ["math/bits.divideError", "math/bits.overflowError"], apart := false, narrowed := true }
def FreeStillUptoSaid : Prop := freeStillUptoRow.holds Try.pinned (OpenSpec.upto freeStillSpec)

end Rows
end Go.Proofs.Ytlcghlcpngafgaa
