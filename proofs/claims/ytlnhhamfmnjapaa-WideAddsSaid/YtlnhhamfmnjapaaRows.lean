/-
  No cell of these rows narrows 'for every input' (looked for: loops, veiled, ifaces, maps, wideKeys, modest, calm, conditions, laid).
  DERIVED. THE GIVEN ROWS OF THIS SEAT. 10 by the template 'for every input the law returns true; each argument reads behind the call as it read before'; 0 by the template 'total and deterministic' (their statements: YtlnhhamfmnjapaaTotals.lean).
  GIVEN WITH THE SEED: the statements are not yours to turn. If you find one false, say at which input.
  Laid BY PROGRAM, IN A SANDBOX (cutbox-rows.mjs): the forced cells as the released guide's own fill.sh prints them over the translation d9076fd6ffbefa8d… (all of the seat's roots in one cut). By AI agents, Wed Nov 11 2026. No macro, syntax, notation, axiom, sorry.
-/
import Derived.Test.YtlnhhamfmnjapaaChecked
import GoSem.Claim
import GoSem.ClaimJoined
import GoSem.ClaimMapViews
import Derived.JoinedTies
import Derived.KernelRfl
namespace Go.Proofs.Ytlnhhamfmnjapaa
/- THE CELL 'sum', in the pinned program and in every row, IS THE sha256 OF THE DUMP (.gsa) THAT YtlnhhamfmnjapaaProg.lean LOADS. Nothing in Lean hashes anything: it is a label: what it is worth is what the hold of that sum in a sandbox is worth. -/
noncomputable def Try.pinned : Pinned := { name := "ytlnhhamfmnjapaa", sum := "d9076fd6ffbefa8d59ab35330a47c49c77ca11842630c9a4185fcb250a405594", checked := Try.checked }
namespace Rows
def none {H : Type} : Left H := { results := [], args := [] }

/-- 'quoinlaw14.WideCenters': WHATEVER THE INPUT: true; the input reads as it did. -/
def wideCentersSpec : ChangeSpec := { name := "wideCenters", fn := fun _ => fun
  | [d1, d2, d3, d4, d5] => { results := [.lit (.bool true)], args := [d1, d2, d3, d4, d5] }
  | _ => none }
def wideCentersRow : OpenClaim := { program := "ytlnhhamfmnjapaa", sum := "d9076fd6ffbefa8d59ab35330a47c49c77ca11842630c9a4185fcb250a405594", func := "quoin/quoinlaw14.WideCenters", spec := "wideCenters", unfollowed := true, recurses := true, apart := false }
def WideCentersSaid : Prop := wideCentersRow.holds Try.pinned (OpenSpec.ofChange wideCentersSpec)

/-- ITS FALSE NEIGHBOUR: 'it returns false'. Refute it at one input. -/
def wideCentersWrong : ChangeSpec := { name := "wideCenters", fn := fun _ => fun
  | [d1, d2, d3, d4, d5] => { results := [.lit (.bool false)], args := [d1, d2, d3, d4, d5] }
  | _ => none }
def WideCentersWrongFalsely : Prop := wideCentersRow.holds Try.pinned (OpenSpec.ofChange wideCentersWrong)

/-- 'quoinlaw14.WideParts': WHATEVER THE INPUT: true; the input reads as it did. -/
def widePartsSpec : ChangeSpec := { name := "wideParts", fn := fun _ => fun
  | [d1, d2, d3] => { results := [.lit (.bool true)], args := [d1, d2, d3] }
  | _ => none }
def widePartsRow : OpenClaim := { program := "ytlnhhamfmnjapaa", sum := "d9076fd6ffbefa8d59ab35330a47c49c77ca11842630c9a4185fcb250a405594", func := "quoin/quoinlaw14.WideParts", spec := "wideParts", unfollowed := true, recurses := true, apart := false }
def WidePartsSaid : Prop := widePartsRow.holds Try.pinned (OpenSpec.ofChange widePartsSpec)

/-- ITS FALSE NEIGHBOUR: 'it returns false'. Refute it at one input. -/
def widePartsWrong : ChangeSpec := { name := "wideParts", fn := fun _ => fun
  | [d1, d2, d3] => { results := [.lit (.bool false)], args := [d1, d2, d3] }
  | _ => none }
def WidePartsWrongFalsely : Prop := widePartsRow.holds Try.pinned (OpenSpec.ofChange widePartsWrong)

/-- 'quoinlaw14.WideBounds': WHATEVER THE INPUT: true; the input reads as it did. -/
def wideBoundsSpec : ChangeSpec := { name := "wideBounds", fn := fun _ => fun
  | [d1, d2, d3, d4, d5] => { results := [.lit (.bool true)], args := [d1, d2, d3, d4, d5] }
  | _ => none }
def wideBoundsRow : OpenClaim := { program := "ytlnhhamfmnjapaa", sum := "d9076fd6ffbefa8d59ab35330a47c49c77ca11842630c9a4185fcb250a405594", func := "quoin/quoinlaw14.WideBounds", spec := "wideBounds", unfollowed := true, recurses := true, apart := false }
def WideBoundsSaid : Prop := wideBoundsRow.holds Try.pinned (OpenSpec.ofChange wideBoundsSpec)

/-- ITS FALSE NEIGHBOUR: 'it returns false'. Refute it at one input. -/
def wideBoundsWrong : ChangeSpec := { name := "wideBounds", fn := fun _ => fun
  | [d1, d2, d3, d4, d5] => { results := [.lit (.bool false)], args := [d1, d2, d3, d4, d5] }
  | _ => none }
def WideBoundsWrongFalsely : Prop := wideBoundsRow.holds Try.pinned (OpenSpec.ofChange wideBoundsWrong)

/-- 'quoinlaw14.WideAdds': WHATEVER THE INPUT: true; the input reads as it did. -/
def wideAddsSpec : ChangeSpec := { name := "wideAdds", fn := fun _ => fun
  | [d1, d2] => { results := [.lit (.bool true)], args := [d1, d2] }
  | _ => none }
def wideAddsRow : OpenClaim := { program := "ytlnhhamfmnjapaa", sum := "d9076fd6ffbefa8d59ab35330a47c49c77ca11842630c9a4185fcb250a405594", func := "quoin/quoinlaw14.WideAdds", spec := "wideAdds", unfollowed := true, recurses := true, apart := false }
def WideAddsSaid : Prop := wideAddsRow.holds Try.pinned (OpenSpec.ofChange wideAddsSpec)

/-- ITS FALSE NEIGHBOUR: 'it returns false'. Refute it at one input. -/
def wideAddsWrong : ChangeSpec := { name := "wideAdds", fn := fun _ => fun
  | [d1, d2] => { results := [.lit (.bool false)], args := [d1, d2] }
  | _ => none }
def WideAddsWrongFalsely : Prop := wideAddsRow.holds Try.pinned (OpenSpec.ofChange wideAddsWrong)

/-- 'quoinlaw1.UnitHolds': WHATEVER THE INPUT: true; the input reads as it did. -/
def unitHoldsSpec : ChangeSpec := { name := "unitHolds", fn := fun _ => fun
  | [d1, d2, d3] => { results := [.lit (.bool true)], args := [d1, d2, d3] }
  | _ => none }
def unitHoldsRow : OpenClaim := { program := "ytlnhhamfmnjapaa", sum := "d9076fd6ffbefa8d59ab35330a47c49c77ca11842630c9a4185fcb250a405594", func := "quoin/quoinlaw1.UnitHolds", spec := "unitHolds", named := ["math/bits.divideError", "math/bits.overflowError"], apart := false }
def UnitHoldsSaid : Prop := unitHoldsRow.holds Try.pinned (OpenSpec.ofChange unitHoldsSpec)

/-- ITS FALSE NEIGHBOUR: 'it returns false'. Refute it at one input. -/
def unitHoldsWrong : ChangeSpec := { name := "unitHolds", fn := fun _ => fun
  | [d1, d2, d3] => { results := [.lit (.bool false)], args := [d1, d2, d3] }
  | _ => none }
def UnitHoldsWrongFalsely : Prop := unitHoldsRow.holds Try.pinned (OpenSpec.ofChange unitHoldsWrong)

/-- 'quoinlaw1.UnitNone': WHATEVER THE INPUT: true; the input reads as it did. -/
def unitNoneSpec : ChangeSpec := { name := "unitNone", fn := fun _ => fun
  | [d1, d2] => { results := [.lit (.bool true)], args := [d1, d2] }
  | _ => none }
def unitNoneRow : OpenClaim := { program := "ytlnhhamfmnjapaa", sum := "d9076fd6ffbefa8d59ab35330a47c49c77ca11842630c9a4185fcb250a405594", func := "quoin/quoinlaw1.UnitNone", spec := "unitNone", named := ["math/bits.divideError", "math/bits.overflowError"], apart := false }
def UnitNoneSaid : Prop := unitNoneRow.holds Try.pinned (OpenSpec.ofChange unitNoneSpec)

/-- ITS FALSE NEIGHBOUR: 'it returns false'. Refute it at one input. -/
def unitNoneWrong : ChangeSpec := { name := "unitNone", fn := fun _ => fun
  | [d1, d2] => { results := [.lit (.bool false)], args := [d1, d2] }
  | _ => none }
def UnitNoneWrongFalsely : Prop := unitNoneRow.holds Try.pinned (OpenSpec.ofChange unitNoneWrong)

/-- 'quoinlaw1.UnitTells': WHATEVER THE INPUT: true; the input reads as it did. -/
def unitTellsSpec : ChangeSpec := { name := "unitTells", fn := fun _ => fun
  | [d1, d2, d3, d4, d5] => { results := [.lit (.bool true)], args := [d1, d2, d3, d4, d5] }
  | _ => none }
def unitTellsRow : OpenClaim := { program := "ytlnhhamfmnjapaa", sum := "d9076fd6ffbefa8d59ab35330a47c49c77ca11842630c9a4185fcb250a405594", func := "quoin/quoinlaw1.UnitTells", spec := "unitTells", named := ["math/bits.divideError", "math/bits.overflowError"], apart := false }
def UnitTellsSaid : Prop := unitTellsRow.holds Try.pinned (OpenSpec.ofChange unitTellsSpec)

/-- ITS FALSE NEIGHBOUR: 'it returns false'. Refute it at one input. -/
def unitTellsWrong : ChangeSpec := { name := "unitTells", fn := fun _ => fun
  | [d1, d2, d3, d4, d5] => { results := [.lit (.bool false)], args := [d1, d2, d3, d4, d5] }
  | _ => none }
def UnitTellsWrongFalsely : Prop := unitTellsRow.holds Try.pinned (OpenSpec.ofChange unitTellsWrong)

/-- 'quoinlaw1.UnitShares': WHATEVER THE INPUT: true; the input reads as it did. -/
def unitSharesSpec : ChangeSpec := { name := "unitShares", fn := fun _ => fun
  | [d1, d2] => { results := [.lit (.bool true)], args := [d1, d2] }
  | _ => none }
def unitSharesRow : OpenClaim := { program := "ytlnhhamfmnjapaa", sum := "d9076fd6ffbefa8d59ab35330a47c49c77ca11842630c9a4185fcb250a405594", func := "quoin/quoinlaw1.UnitShares", spec := "unitShares", named := ["math/bits.divideError", "math/bits.overflowError"], apart := false }
def UnitSharesSaid : Prop := unitSharesRow.holds Try.pinned (OpenSpec.ofChange unitSharesSpec)

/-- ITS FALSE NEIGHBOUR: 'it returns false'. Refute it at one input. -/
def unitSharesWrong : ChangeSpec := { name := "unitShares", fn := fun _ => fun
  | [d1, d2] => { results := [.lit (.bool false)], args := [d1, d2] }
  | _ => none }
def UnitSharesWrongFalsely : Prop := unitSharesRow.holds Try.pinned (OpenSpec.ofChange unitSharesWrong)

/-- 'quoinlaw1.UnitRatios': WHATEVER THE INPUT: true; the input reads as it did. -/
def unitRatiosSpec : ChangeSpec := { name := "unitRatios", fn := fun _ => fun
  | [d1, d2, d3, d4] => { results := [.lit (.bool true)], args := [d1, d2, d3, d4] }
  | _ => none }
def unitRatiosRow : OpenClaim := { program := "ytlnhhamfmnjapaa", sum := "d9076fd6ffbefa8d59ab35330a47c49c77ca11842630c9a4185fcb250a405594", func := "quoin/quoinlaw1.UnitRatios", spec := "unitRatios", named := ["math/bits.divideError", "math/bits.overflowError"], apart := false }
def UnitRatiosSaid : Prop := unitRatiosRow.holds Try.pinned (OpenSpec.ofChange unitRatiosSpec)

/-- ITS FALSE NEIGHBOUR: 'it returns false'. Refute it at one input. -/
def unitRatiosWrong : ChangeSpec := { name := "unitRatios", fn := fun _ => fun
  | [d1, d2, d3, d4] => { results := [.lit (.bool false)], args := [d1, d2, d3, d4] }
  | _ => none }
def UnitRatiosWrongFalsely : Prop := unitRatiosRow.holds Try.pinned (OpenSpec.ofChange unitRatiosWrong)

/-- 'quoinlaw1.UnitRounds': WHATEVER THE INPUT: true; the input reads as it did. -/
def unitRoundsSpec : ChangeSpec := { name := "unitRounds", fn := fun _ => fun
  | [d1, d2, d3] => { results := [.lit (.bool true)], args := [d1, d2, d3] }
  | _ => none }
def unitRoundsRow : OpenClaim := { program := "ytlnhhamfmnjapaa", sum := "d9076fd6ffbefa8d59ab35330a47c49c77ca11842630c9a4185fcb250a405594", func := "quoin/quoinlaw1.UnitRounds", spec := "unitRounds", named := ["math/bits.divideError", "math/bits.overflowError"], apart := false }
def UnitRoundsSaid : Prop := unitRoundsRow.holds Try.pinned (OpenSpec.ofChange unitRoundsSpec)

/-- ITS FALSE NEIGHBOUR: 'it returns false'. Refute it at one input. -/
def unitRoundsWrong : ChangeSpec := { name := "unitRounds", fn := fun _ => fun
  | [d1, d2, d3] => { results := [.lit (.bool false)], args := [d1, d2, d3] }
  | _ => none }
def UnitRoundsWrongFalsely : Prop := unitRoundsRow.holds Try.pinned (OpenSpec.ofChange unitRoundsWrong)

/- THE SECOND FORM. 'bulk': how many values and letters a reading holds, each counted each time it is reached (what is shared counts as often as it is met; a slice's spare places count too). A statement '..UptoSaid' is the law's where the arguments, and the package variables that the reading takes, are together of bulk at most 1048576: NARROWER than '..Said'. Prove '..Said' where nothing that the law and all that it calls make is longer than what came in: it says more and counts as full. Else prove '..UptoSaid'. A law counts once. -/
mutual
def uptoBulk {H : Type} : DataW H → Nat
  | .lit (.string bytes) => bytes.length + 1
  | .lit _ => 1
  | .nil => 1
  | .ptr d => uptoBulk d + 1
  | .slice elems spare => uptoBulkAll elems + uptoBulkAll spare + 1
  | .agg parts => uptoBulkAll parts + 1
  | .iface _ d => uptoBulk d + 1
  | .map entries => uptoBulkEntries entries + 1
  | .held _ => 1
def uptoBulkAll {H : Type} : List (DataW H) → Nat
  | [] => 0
  | d :: r => uptoBulk d + uptoBulkAll r
def uptoBulkEntries {H : Type} : List (Lit × DataW H) → Nat
  | [] => 0
  | x :: r => uptoBulkEntry x + uptoBulkEntries r
def uptoBulkEntry {H : Type} : Lit × DataW H → Nat
  | (.string bytes, d) => bytes.length + uptoBulk d + 1
  | (_, d) => uptoBulk d + 1
 end
def uptoSmall : (H : Type) → List (DataW H) → Bool := fun _ ds => decide (uptoBulkAll ds ≤ 1048576)
def OpenSpec.upto (s : _root_.Go.ChangeSpec) : _root_.Go.OpenSpec := { _root_.Go.OpenSpec.ofChange s with cond := some uptoSmall }

/-- 'quoinlaw14.WideCenters', WHERE WHAT IT READS IS OF BULK AT MOST 1048576: true; the input reads as it did. -/
def wideCentersUptoRow : OpenClaim := { program := "ytlnhhamfmnjapaa", sum := "d9076fd6ffbefa8d59ab35330a47c49c77ca11842630c9a4185fcb250a405594", func := "quoin/quoinlaw14.WideCenters", spec := "wideCenters", unfollowed := true, recurses := true, apart := false, narrowed := true }
def WideCentersUptoSaid : Prop := wideCentersUptoRow.holds Try.pinned (OpenSpec.upto wideCentersSpec)

/-- 'quoinlaw14.WideParts', WHERE WHAT IT READS IS OF BULK AT MOST 1048576: true; the input reads as it did. -/
def widePartsUptoRow : OpenClaim := { program := "ytlnhhamfmnjapaa", sum := "d9076fd6ffbefa8d59ab35330a47c49c77ca11842630c9a4185fcb250a405594", func := "quoin/quoinlaw14.WideParts", spec := "wideParts", unfollowed := true, recurses := true, apart := false, narrowed := true }
def WidePartsUptoSaid : Prop := widePartsUptoRow.holds Try.pinned (OpenSpec.upto widePartsSpec)

/-- 'quoinlaw14.WideBounds', WHERE WHAT IT READS IS OF BULK AT MOST 1048576: true; the input reads as it did. -/
def wideBoundsUptoRow : OpenClaim := { program := "ytlnhhamfmnjapaa", sum := "d9076fd6ffbefa8d59ab35330a47c49c77ca11842630c9a4185fcb250a405594", func := "quoin/quoinlaw14.WideBounds", spec := "wideBounds", unfollowed := true, recurses := true, apart := false, narrowed := true }
def WideBoundsUptoSaid : Prop := wideBoundsUptoRow.holds Try.pinned (OpenSpec.upto wideBoundsSpec)

/-- 'quoinlaw14.WideAdds', WHERE WHAT IT READS IS OF BULK AT MOST 1048576: true; the input reads as it did. -/
def wideAddsUptoRow : OpenClaim := { program := "ytlnhhamfmnjapaa", sum := "d9076fd6ffbefa8d59ab35330a47c49c77ca11842630c9a4185fcb250a405594", func := "quoin/quoinlaw14.WideAdds", spec := "wideAdds", unfollowed := true, recurses := true, apart := false, narrowed := true }
def WideAddsUptoSaid : Prop := wideAddsUptoRow.holds Try.pinned (OpenSpec.upto wideAddsSpec)

/-- 'quoinlaw1.UnitHolds', WHERE WHAT IT READS IS OF BULK AT MOST 1048576: true; the input reads as it did. -/
def unitHoldsUptoRow : OpenClaim := { program := "ytlnhhamfmnjapaa", sum := "d9076fd6ffbefa8d59ab35330a47c49c77ca11842630c9a4185fcb250a405594", func := "quoin/quoinlaw1.UnitHolds", spec := "unitHolds", named := ["math/bits.divideError", "math/bits.overflowError"], apart := false, narrowed := true }
def UnitHoldsUptoSaid : Prop := unitHoldsUptoRow.holds Try.pinned (OpenSpec.upto unitHoldsSpec)

/-- 'quoinlaw1.UnitNone', WHERE WHAT IT READS IS OF BULK AT MOST 1048576: true; the input reads as it did. -/
def unitNoneUptoRow : OpenClaim := { program := "ytlnhhamfmnjapaa", sum := "d9076fd6ffbefa8d59ab35330a47c49c77ca11842630c9a4185fcb250a405594", func := "quoin/quoinlaw1.UnitNone", spec := "unitNone", named := ["math/bits.divideError", "math/bits.overflowError"], apart := false, narrowed := true }
def UnitNoneUptoSaid : Prop := unitNoneUptoRow.holds Try.pinned (OpenSpec.upto unitNoneSpec)

/-- 'quoinlaw1.UnitTells', WHERE WHAT IT READS IS OF BULK AT MOST 1048576: true; the input reads as it did. -/
def unitTellsUptoRow : OpenClaim := { program := "ytlnhhamfmnjapaa", sum := "d9076fd6ffbefa8d59ab35330a47c49c77ca11842630c9a4185fcb250a405594", func := "quoin/quoinlaw1.UnitTells", spec := "unitTells", named := ["math/bits.divideError", "math/bits.overflowError"], apart := false, narrowed := true }
def UnitTellsUptoSaid : Prop := unitTellsUptoRow.holds Try.pinned (OpenSpec.upto unitTellsSpec)

/-- 'quoinlaw1.UnitShares', WHERE WHAT IT READS IS OF BULK AT MOST 1048576: true; the input reads as it did. -/
def unitSharesUptoRow : OpenClaim := { program := "ytlnhhamfmnjapaa", sum := "d9076fd6ffbefa8d59ab35330a47c49c77ca11842630c9a4185fcb250a405594", func := "quoin/quoinlaw1.UnitShares", spec := "unitShares", named := ["math/bits.divideError", "math/bits.overflowError"], apart := false, narrowed := true }
def UnitSharesUptoSaid : Prop := unitSharesUptoRow.holds Try.pinned (OpenSpec.upto unitSharesSpec)

/-- 'quoinlaw1.UnitRatios', WHERE WHAT IT READS IS OF BULK AT MOST 1048576: true; the input reads as it did. -/
def unitRatiosUptoRow : OpenClaim := { program := "ytlnhhamfmnjapaa", sum := "d9076fd6ffbefa8d59ab35330a47c49c77ca11842630c9a4185fcb250a405594", func := "quoin/quoinlaw1.UnitRatios", spec := "unitRatios", named := ["math/bits.divideError", "math/bits.overflowError"], apart := false, narrowed := true }
def UnitRatiosUptoSaid : Prop := unitRatiosUptoRow.holds Try.pinned (OpenSpec.upto unitRatiosSpec)

/-- 'quoinlaw1.UnitRounds', WHERE WHAT IT READS IS OF BULK AT MOST 1048576: true; the input reads as it did. -/
def unitRoundsUptoRow : OpenClaim := { program := "ytlnhhamfmnjapaa", sum := "d9076fd6ffbefa8d59ab35330a47c49c77ca11842630c9a4185fcb250a405594", func := "quoin/quoinlaw1.UnitRounds", spec := "unitRounds", named := ["math/bits.divideError", "math/bits.overflowError"], apart := false, narrowed := true }
def UnitRoundsUptoSaid : Prop := unitRoundsUptoRow.holds Try.pinned (OpenSpec.upto unitRoundsSpec)

end Rows
end Go.Proofs.Ytlnhhamfmnjapaa
