/-
  No cell of these rows narrows 'for every input' (looked for: loops, veiled, ifaces, maps, wideKeys, modest, calm, conditions, laid).
  DERIVED. THE GIVEN ROWS OF THIS SEAT. 10 by the template 'for every input the law returns true; each argument reads behind the call as it read before'; 0 by the template 'total and deterministic' (their statements: YtckiebdehlcjoaaTotals.lean).
  GIVEN WITH THE SEED: the statements are not yours to turn. If you find one false, say at which input.
  Laid BY PROGRAM, IN A SANDBOX (cutbox-rows.mjs): the forced cells as the released guide's own fill.sh prints them over the translation 2230cdf6cd5ba57b… (all of the seat's roots in one cut). By AI agents, Wed Nov 11 2026. No macro, syntax, notation, axiom, sorry.
-/
import Derived.Test.YtckiebdehlcjoaaChecked
import GoSem.Claim
import GoSem.ClaimJoined
import GoSem.ClaimMapViews
import Derived.JoinedTies
import Derived.KernelRfl
namespace Go.Proofs.Ytckiebdehlcjoaa
/- THE CELL 'sum', in the pinned program and in every row, IS THE sha256 OF THE DUMP (.gsa) THAT YtckiebdehlcjoaaProg.lean LOADS. Nothing in Lean hashes anything: it is a label: what it is worth is what the hold of that sum in a sandbox is worth. -/
noncomputable def Try.pinned : Pinned := { name := "ytckiebdehlcjoaa", sum := "2230cdf6cd5ba57bbeff07033b3097523ea04232ce5aef10b3b5e0e5b3045e13", checked := Try.checked }
namespace Rows
def none {H : Type} : Left H := { results := [], args := [] }

/-- 'laws.FnExactHexWalk': WHATEVER THE INPUT: true; the input reads as it did. -/
def fnExactHexWalkSpec : ChangeSpec := { name := "fnExactHexWalk", fn := fun _ => fun
  | [d1, d2, d3] => { results := [.lit (.bool true)], args := [d1, d2, d3] }
  | _ => none }
def fnExactHexWalkRow : OpenClaim := { program := "ytckiebdehlcjoaa", sum := "2230cdf6cd5ba57bbeff07033b3097523ea04232ce5aef10b3b5e0e5b3045e13", func := "loop.example/g01160/laws.FnExactHexWalk", spec := "fnExactHexWalk", unfollowed := true, recurses := true, apart := false }
def FnExactHexWalkSaid : Prop := fnExactHexWalkRow.holds Try.pinned (OpenSpec.ofChange fnExactHexWalkSpec)

/-- ITS FALSE NEIGHBOUR: 'it returns false'. Refute it at one input. -/
def fnExactHexWalkWrong : ChangeSpec := { name := "fnExactHexWalk", fn := fun _ => fun
  | [d1, d2, d3] => { results := [.lit (.bool false)], args := [d1, d2, d3] }
  | _ => none }
def FnExactHexWalkWrongFalsely : Prop := fnExactHexWalkRow.holds Try.pinned (OpenSpec.ofChange fnExactHexWalkWrong)

/-- 'laws.FnMeetingSets': WHATEVER THE INPUT: true; the input reads as it did. -/
def fnMeetingSetsSpec : ChangeSpec := { name := "fnMeetingSets", fn := fun _ => fun
  | [d1, d2] => { results := [.lit (.bool true)], args := [d1, d2] }
  | _ => none }
def fnMeetingSetsRow : OpenClaim := { program := "ytckiebdehlcjoaa", sum := "2230cdf6cd5ba57bbeff07033b3097523ea04232ce5aef10b3b5e0e5b3045e13", func := "loop.example/g01160/laws.FnMeetingSets", spec := "fnMeetingSets", unfollowed := true, recurses := true, apart := false }
def FnMeetingSetsSaid : Prop := fnMeetingSetsRow.holds Try.pinned (OpenSpec.ofChange fnMeetingSetsSpec)

/-- ITS FALSE NEIGHBOUR: 'it returns false'. Refute it at one input. -/
def fnMeetingSetsWrong : ChangeSpec := { name := "fnMeetingSets", fn := fun _ => fun
  | [d1, d2] => { results := [.lit (.bool false)], args := [d1, d2] }
  | _ => none }
def FnMeetingSetsWrongFalsely : Prop := fnMeetingSetsRow.holds Try.pinned (OpenSpec.ofChange fnMeetingSetsWrong)

/-- 'laws.FnRentsAreFair': WHATEVER THE INPUT: true; the input reads as it did. -/
def fnRentsAreFairSpec : ChangeSpec := { name := "fnRentsAreFair", fn := fun _ => fun
  | [d1, d2] => { results := [.lit (.bool true)], args := [d1, d2] }
  | _ => none }
def fnRentsAreFairRow : OpenClaim := { program := "ytckiebdehlcjoaa", sum := "2230cdf6cd5ba57bbeff07033b3097523ea04232ce5aef10b3b5e0e5b3045e13", func := "loop.example/g01160/laws.FnRentsAreFair", spec := "fnRentsAreFair", unfollowed := true, recurses := true, apart := false }
def FnRentsAreFairSaid : Prop := fnRentsAreFairRow.holds Try.pinned (OpenSpec.ofChange fnRentsAreFairSpec)

/-- ITS FALSE NEIGHBOUR: 'it returns false'. Refute it at one input. -/
def fnRentsAreFairWrong : ChangeSpec := { name := "fnRentsAreFair", fn := fun _ => fun
  | [d1, d2] => { results := [.lit (.bool false)], args := [d1, d2] }
  | _ => none }
def FnRentsAreFairWrongFalsely : Prop := fnRentsAreFairRow.holds Try.pinned (OpenSpec.ofChange fnRentsAreFairWrong)

/-- 'laws.FnColouringsAreLeast': WHATEVER THE INPUT: true; the input reads as it did. -/
def fnColouringsAreLeastSpec : ChangeSpec := { name := "fnColouringsAreLeast", fn := fun _ => fun
  | [d1, d2] => { results := [.lit (.bool true)], args := [d1, d2] }
  | _ => none }
def fnColouringsAreLeastRow : OpenClaim := { program := "ytckiebdehlcjoaa", sum := "2230cdf6cd5ba57bbeff07033b3097523ea04232ce5aef10b3b5e0e5b3045e13", func := "loop.example/g01160/laws.FnColouringsAreLeast", spec := "fnColouringsAreLeast", unfollowed := true, recurses := true, apart := false }
def FnColouringsAreLeastSaid : Prop := fnColouringsAreLeastRow.holds Try.pinned (OpenSpec.ofChange fnColouringsAreLeastSpec)

/-- ITS FALSE NEIGHBOUR: 'it returns false'. Refute it at one input. -/
def fnColouringsAreLeastWrong : ChangeSpec := { name := "fnColouringsAreLeast", fn := fun _ => fun
  | [d1, d2] => { results := [.lit (.bool false)], args := [d1, d2] }
  | _ => none }
def FnColouringsAreLeastWrongFalsely : Prop := fnColouringsAreLeastRow.holds Try.pinned (OpenSpec.ofChange fnColouringsAreLeastWrong)

/-- 'laws.FnTrianglesAreCut': WHATEVER THE INPUT: true; the input reads as it did. -/
def fnTrianglesAreCutSpec : ChangeSpec := { name := "fnTrianglesAreCut", fn := fun _ => fun
  | [d1, d2] => { results := [.lit (.bool true)], args := [d1, d2] }
  | _ => none }
def fnTrianglesAreCutRow : OpenClaim := { program := "ytckiebdehlcjoaa", sum := "2230cdf6cd5ba57bbeff07033b3097523ea04232ce5aef10b3b5e0e5b3045e13", func := "loop.example/g01160/laws.FnTrianglesAreCut", spec := "fnTrianglesAreCut", unfollowed := true, recurses := true, apart := false }
def FnTrianglesAreCutSaid : Prop := fnTrianglesAreCutRow.holds Try.pinned (OpenSpec.ofChange fnTrianglesAreCutSpec)

/-- ITS FALSE NEIGHBOUR: 'it returns false'. Refute it at one input. -/
def fnTrianglesAreCutWrong : ChangeSpec := { name := "fnTrianglesAreCut", fn := fun _ => fun
  | [d1, d2] => { results := [.lit (.bool false)], args := [d1, d2] }
  | _ => none }
def FnTrianglesAreCutWrongFalsely : Prop := fnTrianglesAreCutRow.holds Try.pinned (OpenSpec.ofChange fnTrianglesAreCutWrong)

/-- 'laws.FnDoorsOfRooms': WHATEVER THE INPUT: true; the input reads as it did. -/
def fnDoorsOfRoomsSpec : ChangeSpec := { name := "fnDoorsOfRooms", fn := fun _ => fun
  | [d1, d2] => { results := [.lit (.bool true)], args := [d1, d2] }
  | _ => none }
def fnDoorsOfRoomsRow : OpenClaim := { program := "ytckiebdehlcjoaa", sum := "2230cdf6cd5ba57bbeff07033b3097523ea04232ce5aef10b3b5e0e5b3045e13", func := "loop.example/g01160/laws.FnDoorsOfRooms", spec := "fnDoorsOfRooms", unfollowed := true, recurses := true, apart := false }
def FnDoorsOfRoomsSaid : Prop := fnDoorsOfRoomsRow.holds Try.pinned (OpenSpec.ofChange fnDoorsOfRoomsSpec)

/-- ITS FALSE NEIGHBOUR: 'it returns false'. Refute it at one input. -/
def fnDoorsOfRoomsWrong : ChangeSpec := { name := "fnDoorsOfRooms", fn := fun _ => fun
  | [d1, d2] => { results := [.lit (.bool false)], args := [d1, d2] }
  | _ => none }
def FnDoorsOfRoomsWrongFalsely : Prop := fnDoorsOfRoomsRow.holds Try.pinned (OpenSpec.ofChange fnDoorsOfRoomsWrong)

/-- 'laws.FnLeastEnvy': WHATEVER THE INPUT: true; the input reads as it did. -/
def fnLeastEnvySpec : ChangeSpec := { name := "fnLeastEnvy", fn := fun _ => fun
  | [d1, d2] => { results := [.lit (.bool true)], args := [d1, d2] }
  | _ => none }
def fnLeastEnvyRow : OpenClaim := { program := "ytckiebdehlcjoaa", sum := "2230cdf6cd5ba57bbeff07033b3097523ea04232ce5aef10b3b5e0e5b3045e13", func := "loop.example/g01160/laws.FnLeastEnvy", spec := "fnLeastEnvy", unfollowed := true, recurses := true, apart := false }
def FnLeastEnvySaid : Prop := fnLeastEnvyRow.holds Try.pinned (OpenSpec.ofChange fnLeastEnvySpec)

/-- ITS FALSE NEIGHBOUR: 'it returns false'. Refute it at one input. -/
def fnLeastEnvyWrong : ChangeSpec := { name := "fnLeastEnvy", fn := fun _ => fun
  | [d1, d2] => { results := [.lit (.bool false)], args := [d1, d2] }
  | _ => none }
def FnLeastEnvyWrongFalsely : Prop := fnLeastEnvyRow.holds Try.pinned (OpenSpec.ofChange fnLeastEnvyWrong)

/-- 'laws.FnOppositeEdgesFound': WHATEVER THE INPUT: true; the input reads as it did. -/
def fnOppositeEdgesFoundSpec : ChangeSpec := { name := "fnOppositeEdgesFound", fn := fun _ => fun
  | [d1, d2] => { results := [.lit (.bool true)], args := [d1, d2] }
  | _ => none }
def fnOppositeEdgesFoundRow : OpenClaim := { program := "ytckiebdehlcjoaa", sum := "2230cdf6cd5ba57bbeff07033b3097523ea04232ce5aef10b3b5e0e5b3045e13", func := "loop.example/g01160/laws.FnOppositeEdgesFound", spec := "fnOppositeEdgesFound", unfollowed := true, recurses := true, apart := false }
def FnOppositeEdgesFoundSaid : Prop := fnOppositeEdgesFoundRow.holds Try.pinned (OpenSpec.ofChange fnOppositeEdgesFoundSpec)

/-- ITS FALSE NEIGHBOUR: 'it returns false'. Refute it at one input. -/
def fnOppositeEdgesFoundWrong : ChangeSpec := { name := "fnOppositeEdgesFound", fn := fun _ => fun
  | [d1, d2] => { results := [.lit (.bool false)], args := [d1, d2] }
  | _ => none }
def FnOppositeEdgesFoundWrongFalsely : Prop := fnOppositeEdgesFoundRow.holds Try.pinned (OpenSpec.ofChange fnOppositeEdgesFoundWrong)

/-- 'laws.FnExactFairCut': WHATEVER THE INPUT: true; the input reads as it did. -/
def fnExactFairCutSpec : ChangeSpec := { name := "fnExactFairCut", fn := fun _ => fun
  | [d1, d2] => { results := [.lit (.bool true)], args := [d1, d2] }
  | _ => none }
def fnExactFairCutRow : OpenClaim := { program := "ytckiebdehlcjoaa", sum := "2230cdf6cd5ba57bbeff07033b3097523ea04232ce5aef10b3b5e0e5b3045e13", func := "loop.example/g01160/laws.FnExactFairCut", spec := "fnExactFairCut", unfollowed := true, recurses := true, apart := false }
def FnExactFairCutSaid : Prop := fnExactFairCutRow.holds Try.pinned (OpenSpec.ofChange fnExactFairCutSpec)

/-- ITS FALSE NEIGHBOUR: 'it returns false'. Refute it at one input. -/
def fnExactFairCutWrong : ChangeSpec := { name := "fnExactFairCut", fn := fun _ => fun
  | [d1, d2] => { results := [.lit (.bool false)], args := [d1, d2] }
  | _ => none }
def FnExactFairCutWrongFalsely : Prop := fnExactFairCutRow.holds Try.pinned (OpenSpec.ofChange fnExactFairCutWrong)

/-- 'laws.FnSignsAreTurns': WHATEVER THE INPUT: true; the input reads as it did. -/
def fnSignsAreTurnsSpec : ChangeSpec := { name := "fnSignsAreTurns", fn := fun _ => fun
  | [d1, d2] => { results := [.lit (.bool true)], args := [d1, d2] }
  | _ => none }
def fnSignsAreTurnsRow : OpenClaim := { program := "ytckiebdehlcjoaa", sum := "2230cdf6cd5ba57bbeff07033b3097523ea04232ce5aef10b3b5e0e5b3045e13", func := "loop.example/g01160/laws.FnSignsAreTurns", spec := "fnSignsAreTurns", unfollowed := true, recurses := true, apart := false }
def FnSignsAreTurnsSaid : Prop := fnSignsAreTurnsRow.holds Try.pinned (OpenSpec.ofChange fnSignsAreTurnsSpec)

/-- ITS FALSE NEIGHBOUR: 'it returns false'. Refute it at one input. -/
def fnSignsAreTurnsWrong : ChangeSpec := { name := "fnSignsAreTurns", fn := fun _ => fun
  | [d1, d2] => { results := [.lit (.bool false)], args := [d1, d2] }
  | _ => none }
def FnSignsAreTurnsWrongFalsely : Prop := fnSignsAreTurnsRow.holds Try.pinned (OpenSpec.ofChange fnSignsAreTurnsWrong)

/- THE SECOND FORM. 'bulk': how many values and letters a reading holds, each counted each time it is reached (what is shared counts as often as it is met; a slice's spare places count too). A statement '..UptoSaid' is the law's where the arguments, and the package variables that the reading takes, are together of bulk at most 1048576: NARROWER than '..Said'. Prove '..Said' where nothing that the law and all that it calls make is longer than what came in: it says more and counts as full. Else prove '..UptoSaid'. A law counts once. -/
mutual
def uptoBulk {H : Type} : DataW H → Nat
  | .lit (.string bytes) => bytes.length + 1
  | .lit _ => 1
  | .nil => 1
  | .ptr d => uptoBulk d + 1
  | .slice elems spare => uptoBulkAll elems + uptoBulkAll spare + 1
  | .agg parts => uptoBulkAll parts + 1
  | .iface _ d => uptoBulk d + 1
  | .map entries => uptoBulkEntries entries + 1
  | .held _ => 1
def uptoBulkAll {H : Type} : List (DataW H) → Nat
  | [] => 0
  | d :: r => uptoBulk d + uptoBulkAll r
def uptoBulkEntries {H : Type} : List (Lit × DataW H) → Nat
  | [] => 0
  | x :: r => uptoBulkEntry x + uptoBulkEntries r
def uptoBulkEntry {H : Type} : Lit × DataW H → Nat
  | (.string bytes, d) => bytes.length + uptoBulk d + 1
  | (_, d) => uptoBulk d + 1
 end
def uptoSmall : (H : Type) → List (DataW H) → Bool := fun _ ds => decide (uptoBulkAll ds ≤ 1048576)
def OpenSpec.upto (s : _root_.Go.ChangeSpec) : _root_.Go.OpenSpec := { _root_.Go.OpenSpec.ofChange s with cond := some uptoSmall }

/-- 'laws.FnExactHexWalk', WHERE WHAT IT READS IS OF BULK AT MOST 1048576: true; the input reads as it did. -/
def fnExactHexWalkUptoRow : OpenClaim := { program := "ytckiebdehlcjoaa", sum := "2230cdf6cd5ba57bbeff07033b3097523ea04232ce5aef10b3b5e0e5b3045e13", func := "loop.example/g01160/laws.FnExactHexWalk", spec := "fnExactHexWalk", unfollowed := true, recurses := true, apart := false, narrowed := true }
def FnExactHexWalkUptoSaid : Prop := fnExactHexWalkUptoRow.holds Try.pinned (OpenSpec.upto fnExactHexWalkSpec)

/-- 'laws.FnMeetingSets', WHERE WHAT IT READS IS OF BULK AT MOST 1048576: true; the input reads as it did. -/
def fnMeetingSetsUptoRow : OpenClaim := { program := "ytckiebdehlcjoaa", sum := "2230cdf6cd5ba57bbeff07033b3097523ea04232ce5aef10b3b5e0e5b3045e13", func := "loop.example/g01160/laws.FnMeetingSets", spec := "fnMeetingSets", unfollowed := true, recurses := true, apart := false, narrowed := true }
def FnMeetingSetsUptoSaid : Prop := fnMeetingSetsUptoRow.holds Try.pinned (OpenSpec.upto fnMeetingSetsSpec)

/-- 'laws.FnRentsAreFair', WHERE WHAT IT READS IS OF BULK AT MOST 1048576: true; the input reads as it did. -/
def fnRentsAreFairUptoRow : OpenClaim := { program := "ytckiebdehlcjoaa", sum := "2230cdf6cd5ba57bbeff07033b3097523ea04232ce5aef10b3b5e0e5b3045e13", func := "loop.example/g01160/laws.FnRentsAreFair", spec := "fnRentsAreFair", unfollowed := true, recurses := true, apart := false, narrowed := true }
def FnRentsAreFairUptoSaid : Prop := fnRentsAreFairUptoRow.holds Try.pinned (OpenSpec.upto fnRentsAreFairSpec)

/-- 'laws.FnColouringsAreLeast', WHERE WHAT IT READS IS OF BULK AT MOST 1048576: true; the input reads as it did. -/
def fnColouringsAreLeastUptoRow : OpenClaim := { program := "ytckiebdehlcjoaa", sum := "2230cdf6cd5ba57bbeff07033b3097523ea04232ce5aef10b3b5e0e5b3045e13", func := "loop.example/g01160/laws.FnColouringsAreLeast", spec := "fnColouringsAreLeast", unfollowed := true, recurses := true, apart := false, narrowed := true }
def FnColouringsAreLeastUptoSaid : Prop := fnColouringsAreLeastUptoRow.holds Try.pinned (OpenSpec.upto fnColouringsAreLeastSpec)

/-- 'laws.FnTrianglesAreCut', WHERE WHAT IT READS IS OF BULK AT MOST 1048576: true; the input reads as it did. -/
def fnTrianglesAreCutUptoRow : OpenClaim := { program := "ytckiebdehlcjoaa", sum := "2230cdf6cd5ba57bbeff07033b3097523ea04232ce5aef10b3b5e0e5b3045e13", func := "loop.example/g01160/laws.FnTrianglesAreCut", spec := "fnTrianglesAreCut", unfollowed := true, recurses := true, apart := false, narrowed := true }
def FnTrianglesAreCutUptoSaid : Prop := fnTrianglesAreCutUptoRow.holds Try.pinned (OpenSpec.upto fnTrianglesAreCutSpec)

/-- 'laws.FnDoorsOfRooms', WHERE WHAT IT READS IS OF BULK AT MOST 1048576: true; the input reads as it did. -/
def fnDoorsOfRoomsUptoRow : OpenClaim := { program := "ytckiebdehlcjoaa", sum := "2230cdf6cd5ba57bbeff07033b3097523ea04232ce5aef10b3b5e0e5b3045e13", func := "loop.example/g01160/laws.FnDoorsOfRooms", spec := "fnDoorsOfRooms", unfollowed := true, recurses := true, apart := false, narrowed := true }
def FnDoorsOfRoomsUptoSaid : Prop := fnDoorsOfRoomsUptoRow.holds Try.pinned (OpenSpec.upto fnDoorsOfRoomsSpec)

/-- 'laws.FnLeastEnvy', WHERE WHAT IT READS IS OF BULK AT MOST 1048576: true; the input reads as it did. -/
def fnLeastEnvyUptoRow : OpenClaim := { program := "ytckiebdehlcjoaa", sum := "2230cdf6cd5ba57bbeff07033b3097523ea04232ce5aef10b3b5e0e5b3045e13", func := "loop.example/g01160/laws.FnLeastEnvy", spec := "fnLeastEnvy", unfollowed := true, recurses := true, apart := false, narrowed := true }
def FnLeastEnvyUptoSaid : Prop := fnLeastEnvyUptoRow.holds Try.pinned (OpenSpec.upto fnLeastEnvySpec)

/-- 'laws.FnOppositeEdgesFound', WHERE WHAT IT READS IS OF BULK AT MOST 1048576: true; the input reads as it did. -/
def fnOppositeEdgesFoundUptoRow : OpenClaim := { program := "ytckiebdehlcjoaa", sum := "2230cdf6cd5ba57bbeff07033b3097523ea04232ce5aef10b3b5e0e5b3045e13", func := "loop.example/g01160/laws.FnOppositeEdgesFound", spec := "fnOppositeEdgesFound", unfollowed := true, recurses := true, apart := false, narrowed := true }
def FnOppositeEdgesFoundUptoSaid : Prop := fnOppositeEdgesFoundUptoRow.holds Try.pinned (OpenSpec.upto fnOppositeEdgesFoundSpec)

/-- 'laws.FnExactFairCut', WHERE WHAT IT READS IS OF BULK AT MOST 1048576: true; the input reads as it did. -/
def fnExactFairCutUptoRow : OpenClaim := { program := "ytckiebdehlcjoaa", sum := "2230cdf6cd5ba57bbeff07033b3097523ea04232ce5aef10b3b5e0e5b3045e13", func := "loop.example/g01160/laws.FnExactFairCut", spec := "fnExactFairCut", unfollowed := true, recurses := true, apart := false, narrowed := true }
def FnExactFairCutUptoSaid : Prop := fnExactFairCutUptoRow.holds Try.pinned (OpenSpec.upto fnExactFairCutSpec)

/-- 'laws.FnSignsAreTurns', WHERE WHAT IT READS IS OF BULK AT MOST 1048576: true; the input reads as it did. -/
def fnSignsAreTurnsUptoRow : OpenClaim := { program := "ytckiebdehlcjoaa", sum := "2230cdf6cd5ba57bbeff07033b3097523ea04232ce5aef10b3b5e0e5b3045e13", func := "loop.example/g01160/laws.FnSignsAreTurns", spec := "fnSignsAreTurns", unfollowed := true, recurses := true, apart := false, narrowed := true }
def FnSignsAreTurnsUptoSaid : Prop := fnSignsAreTurnsUptoRow.holds Try.pinned (OpenSpec.upto fnSignsAreTurnsSpec)

end Rows
end Go.Proofs.Ytckiebdehlcjoaa
