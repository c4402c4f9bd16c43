/- A part of the proof of the law FnTrianglesAreCut. -/
import Derived.Test.YtckiebdehlcjoaaTFnTrianglesAreCut13
import Derived.Test.YtckiebdehlcjoaaTFnTrianglesAreCut4
import Derived.Test.YtckiebdehlcjoaaTFnTrianglesAreCut7
import Derived.Test.YtckiebdehlcjoaaTFnTrianglesAreCut8
import Derived.Test.YtckiebdehlcjoaaTFnTrianglesAreCut9
import Derived.Test.YtckiebdehlcjoaaTFnTrianglesAreCut10
import Derived.Test.YtckiebdehlcjoaaProg
import Derived.Below
import Derived.Deep.Draws
import Derived.Deep.AppendLies
import Derived.Maps.AppendAt
import Derived.OwnWalk
import Derived.Laws.BytesArg
import Derived.Laws.MakeOwn
import Derived.Laws.OwnMore
import Derived.Deep.OwnRows
import Derived.Tactics
import Derived.Lib.ConvBytes
import Derived.Laws.Slices
import Derived.WalkKit
import Derived.KernelRfl
import Derived.RowKit3
import Derived.Deep.LoopGhost
import Derived.Deep.QuietTactic
import Derived.BigQuiet
import Derived.WideLaws
import Derived.Deep.DeepCutAuto
import Derived.Deep.CutBlock
import Derived.Deep.RegionHeld3
import Derived.Laws.Rows
import Derived.Lib.AppendStr
import Derived.ArgAppend
import Derived.Laws.IdiomCopy
import Derived.OrdersHeld
import Derived.Laws.BitsLemmas
import Derived.RowKit
import Derived.Test.YtckiebdehlcjoaaTFnTrianglesAreCut1
import Derived.Test.YtckiebdehlcjoaaTFnTrianglesAreCut2
import Derived.Test.YtckiebdehlcjoaaTFnTrianglesAreCut3
import Derived.Test.YtckiebdehlcjoaaTFnTrianglesAreCut5
import Derived.Test.YtckiebdehlcjoaaTFnTrianglesAreCut6
namespace Go.Proofs.Ytckiebdehlcjoaa.Pure
open Go.RowKit Go.Proofs.Ytckiebdehlcjoaa.P Go.Proofs.Ytckiebdehlcjoaa.Own Go.Proofs.YtckiebdehlcjoaaW.PrintWords Go.Proofs.YtckiebdehlcjoaaW.PrintLast
def cellsV : Int → List (List Int)
  | 1 => [[0, 1, 2]]
  | 2 => [[0, 1, 2], [1, 2, 4], [1, 3, 4], [2, 4, 5]]
  | 3 => [[0, 1, 2], [1, 2, 4], [1, 3, 4], [2, 4, 5], [3, 4, 7], [3, 6, 7], [4, 5, 8], [4, 7, 8], [5, 8, 9]]
  | 4 => [[0, 1, 2], [1, 2, 4], [1, 3, 4], [2, 4, 5], [3, 4, 7], [3, 6, 7], [4, 5, 8], [4, 7, 8], [5, 8, 9], [6, 7, 11], [6, 10, 11], [7, 8, 12], [7, 11, 12], [8, 9, 13], [8, 12, 13], [9, 13, 14]]
  | 5 => [[0, 1, 2], [1, 2, 4], [1, 3, 4], [2, 4, 5], [3, 4, 7], [3, 6, 7], [4, 5, 8], [4, 7, 8], [5, 8, 9], [6, 7, 11], [6, 10, 11], [7, 8, 12], [7, 11, 12], [8, 9, 13], [8, 12, 13], [9, 13, 14], [10, 11, 16], [10, 15, 16], [11, 12, 17], [11, 16, 17], [12, 13, 18], [12, 17, 18], [13, 14, 19], [13, 18, 19], [14, 19, 20]]
  | 6 => [[0, 1, 2], [1, 2, 4], [1, 3, 4], [2, 4, 5], [3, 4, 7], [3, 6, 7], [4, 5, 8], [4, 7, 8], [5, 8, 9], [6, 7, 11], [6, 10, 11], [7, 8, 12], [7, 11, 12], [8, 9, 13], [8, 12, 13], [9, 13, 14], [10, 11, 16], [10, 15, 16], [11, 12, 17], [11, 16, 17], [12, 13, 18], [12, 17, 18], [13, 14, 19], [13, 18, 19], [14, 19, 20], [15, 16, 22], [15, 21, 22], [16, 17, 23], [16, 22, 23], [17, 18, 24], [17, 23, 24], [18, 19, 25], [18, 24, 25], [19, 20, 26], [19, 25, 26], [20, 26, 27]]
  | 7 => [[0, 1, 2], [1, 2, 4], [1, 3, 4], [2, 4, 5], [3, 4, 7], [3, 6, 7], [4, 5, 8], [4, 7, 8], [5, 8, 9], [6, 7, 11], [6, 10, 11], [7, 8, 12], [7, 11, 12], [8, 9, 13], [8, 12, 13], [9, 13, 14], [10, 11, 16], [10, 15, 16], [11, 12, 17], [11, 16, 17], [12, 13, 18], [12, 17, 18], [13, 14, 19], [13, 18, 19], [14, 19, 20], [15, 16, 22], [15, 21, 22], [16, 17, 23], [16, 22, 23], [17, 18, 24], [17, 23, 24], [18, 19, 25], [18, 24, 25], [19, 20, 26], [19, 25, 26], [20, 26, 27], [21, 22, 29], [21, 28, 29], [22, 23, 30], [22, 29, 30], [23, 24, 31], [23, 30, 31], [24, 25, 32], [24, 31, 32], [25, 26, 33], [25, 32, 33], [26, 27, 34], [26, 33, 34], [27, 34, 35]]
  | 8 => [[0, 1, 2], [1, 2, 4], [1, 3, 4], [2, 4, 5], [3, 4, 7], [3, 6, 7], [4, 5, 8], [4, 7, 8], [5, 8, 9], [6, 7, 11], [6, 10, 11], [7, 8, 12], [7, 11, 12], [8, 9, 13], [8, 12, 13], [9, 13, 14], [10, 11, 16], [10, 15, 16], [11, 12, 17], [11, 16, 17], [12, 13, 18], [12, 17, 18], [13, 14, 19], [13, 18, 19], [14, 19, 20], [15, 16, 22], [15, 21, 22], [16, 17, 23], [16, 22, 23], [17, 18, 24], [17, 23, 24], [18, 19, 25], [18, 24, 25], [19, 20, 26], [19, 25, 26], [20, 26, 27], [21, 22, 29], [21, 28, 29], [22, 23, 30], [22, 29, 30], [23, 24, 31], [23, 30, 31], [24, 25, 32], [24, 31, 32], [25, 26, 33], [25, 32, 33], [26, 27, 34], [26, 33, 34], [27, 34, 35], [28, 29, 37], [28, 36, 37], [29, 30, 38], [29, 37, 38], [30, 31, 39], [30, 38, 39], [31, 32, 40], [31, 39, 40], [32, 33, 41], [32, 40, 41], [33, 34, 42], [33, 41, 42], [34, 35, 43], [34, 42, 43], [35, 43, 44]]
  | _ => []
theorem all_range {P : Int → Bool} {lo : Int} {n : Nat} (h : (List.range n).all (fun j => P (lo + j)) = true) (i : Int) (h0 : lo ≤ i) (h1 : i < lo + n) : P i = true := by
  have := List.all_eq_true.1 h (i - lo).toNat (List.mem_range.2 (by omega))
  rwa [show lo + ((i - lo).toNat : Int) = i by omega] at this
theorem cells_ev : ∀ n : Int, 1 ≤ n → n ≤ 8 → Ev (fun k => impl_cells.f k n) (cellsV n) := by
  intro n h0 h1
  have h := all_range (P := fun n => impl_cells.f 100000 n == some (cellsV n)) (lo := 1) (n := 8) (by decide +kernel) n h0 (by omega)
  exact Ev.of 100000 (fun k => impl_cells.mono _ _) (by simpa using h)
theorem meCells_ev : ∀ n : Int, 1 ≤ n → n ≤ 8 → Ev (fun k => spec_meCells.f k n) (cellsV n) := by
  intro n h0 h1
  have h := all_range (P := fun n => spec_meCells.f 100000 n == some (cellsV n)) (lo := 1) (n := 8) (by decide +kernel) n h0 (by omega)
  exact Ev.of 100000 (fun k => spec_meCells.mono _ _) (by simpa using h)
end Go.Proofs.Ytckiebdehlcjoaa.Pure
