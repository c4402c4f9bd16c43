/- A part of the proof of the law FnDoorsOfRooms. -/
import Derived.Test.YtckiebdehlcjoaaTFnDoorsOfRooms17
namespace Go.Proofs.Ytckiebdehlcjoaa.P
open Go.Proofs.Ytckiebdehlcjoaa.Own
open Go.RowKit Go.Proofs.YtckiebdehlcjoaaW.PrintWords Go.Proofs.YtckiebdehlcjoaaW.PrintLast Go.Proofs.YtckiebdehlcjoaaW.PrintMore
attribute [local go_sem] max2_int min2_int max_two min_two max_three min_three max_four min_four   -- for this text's walks alone
set_option linter.unusedVariables false
set_option linter.unusedSimpArgs false
mutual
def laws_FnDoorsOfRooms.j0 : Nat → List Int → Int → List Int → List (List Int) → Bool → Bool → Bool → Option (Bool)
  | 0, _, _, _, _, _, _, _ => none
  | k + 1, x1, x5, x6, x8, x9, x12, x102 => if x102 = true then (none) else (if x9 = true then (if (x12 != ((x8.length : Int) == 1)) = true then (none) else (laws_FnDoorsOfRooms.j1 k x1 x5 x6 x8 (decide ((x8.length : Int) > 2)))) else (laws_FnDoorsOfRooms.j3 k x1))
def laws_FnDoorsOfRooms.j3 : Nat → List Int → Option (Bool)
  | 0, _ => none
  | k + 1, x1 => (spec_DrawDoorsOf.f k x1).bind fun bt385 => ((impl_DoorsOf.f k bt385.1 bt385.2).bind fun bt389 => ((spec_DoorsOf.f k bt385.1 bt385.2).bind fun bt393 => ((impl_BorderDoors.f k bt385.1 bt385.2).bind fun bt397 => ((spec_BorderDoors.f k bt385.1 bt385.2).bind fun bt401 => (if (bt389.2 != bt393.2) = true then (none) else ((laws_uSameRows.f k bt389.1 bt393.1).bind fun t405 => (if t405 = true then (if (bt397.2 != bt401.2) = true then (none) else ((laws_uSameRows.f k bt397.1 bt401.1).bind fun t406 => (if t406 = true then (laws_FnDoorsOfRooms.j4 k x1 bt385.1 bt385.2 bt389.1 bt389.2 bt397.1 (bt397.2 != bt389.2)) else (none)))) else (none))))))))
def laws_FnDoorsOfRooms.j4 : Nat → List Int → Int → List Int → List (List Int) → Bool → List (List Int) → Bool → Option (Bool)
  | 0, _, _, _, _, _, _, _ => none
  | k + 1, x1, x20, x21, x22, x23, x26, x192 => if x192 = true then (none) else (if x23 = true then (laws_FnDoorsOfRooms.l1 k x1 x20 x21 x22 x26 0 0) else ((spec_DrawIsDoor.f k x1).bind fun bt421 => ((impl_IsDoor.f k bt421.1 bt421.2.1 bt421.2.2.1 bt421.2.2.2).bind fun bt427 => ((spec_IsDoor.f k bt421.1 bt421.2.1 bt421.2.2.1 bt421.2.2.2).bind fun bt429 => (if (bt427.2 == bt429.2) = true then (some (bt427.1 == bt429.1)) else (none))))))
def laws_FnDoorsOfRooms.l1 : Nat → List Int → Int → List Int → List (List Int) → List (List Int) → Int → Int → Option (Bool)
  | 0, _, _, _, _, _, _, _ => none
  | k + 1, x1, x20, x21, x22, x26, x30, x31 => if x31 < (wrap64 (x20 * x20)) then ((impl_DoorsOfCell.f k x20 x21 x31).bind fun bt407 => (if bt407.2 = true then (laws_FnDoorsOfRooms.l1 k x1 x20 x21 x22 x26 (wrap64 (x30 + (bt407.1.length : Int))) (wrap64 (x31 + 1))) else (none))) else (if x30 = (wrap64 ((wrap64 (2 * (x22.length : Int))) - (x26.length : Int))) then ((spec_DrawIsDoor.f k x1).bind fun bt411 => ((impl_IsDoor.f k bt411.1 bt411.2.1 bt411.2.2.1 bt411.2.2.2).bind fun bt417 => ((spec_IsDoor.f k bt411.1 bt411.2.1 bt411.2.2.1 bt411.2.2.2).bind fun bt419 => (if (bt417.2 == bt419.2) = true then (some (bt417.1 == bt419.1)) else (none))))) else (none))
def laws_FnDoorsOfRooms.j1 : Nat → List Int → Int → List Int → List (List Int) → Bool → Option (Bool)
  | 0, _, _, _, _, _ => none
  | k + 1, x1, x5, x6, x8, x113 => if x113 = true then (none) else (laws_FnDoorsOfRooms.l0 k x1 x5 x6 x8 (x8.length : Int) 0)
def laws_FnDoorsOfRooms.l0 : Nat → List Int → Int → List Int → List (List Int) → Int → Int → Option (Bool)
  | 0, _, _, _, _, _, _ => none
  | k + 1, x1, x5, x6, x114, x115, x116 => if x116 < x115 then (if 0 ≤ x116 then (if x116 < (x114.length : Int) then (if 0 < ((rd_L2 x114 x116).length : Int) then (if 1 < ((rd_L2 x114 x116).length : Int) then ((impl_IsDoor.f k x5 x6 (rd (rd_L2 x114 x116) 0) (rd (rd_L2 x114 x116) 1)).bind fun bt383 => (if bt383.2 = true then (if bt383.1 = true then (laws_FnDoorsOfRooms.l0 k x1 x5 x6 x114 x115 (wrap64 (x116 + 1))) else (none)) else (none))) else (none)) else (none)) else (none)) else (none)) else (laws_FnDoorsOfRooms.j3 k x1)
end
def laws_FnDoorsOfRooms.f (k : Nat) (l0 : List Int) (l1 : List Int) : Option (Bool) := (laws_big.f l0 l1).bind fun t361 => (if t361 = true then (some true) else ((spec_DrawDoorsOfCell.f k l0).bind fun bt362 => ((impl_DoorsOfCell.f k bt362.1 bt362.2.1 bt362.2.2).bind fun bt367 => ((spec_DoorsOfCell.f k bt362.1 bt362.2.1 bt362.2.2).bind fun bt371 => ((impl_IsFull.f k bt362.1 bt362.2.1 bt362.2.2).bind fun bt375 => ((spec_IsFull.f k bt362.1 bt362.2.1 bt362.2.2).bind fun bt377 => (if (bt367.2 != bt371.2) = true then (none) else ((laws_uSameRows.f k bt367.1 bt371.1).bind fun t379 => (if t379 = true then (if (bt375.2 != bt377.2) = true then (none) else (if (bt375.1 != bt377.1) = true then (none) else (laws_FnDoorsOfRooms.j0 k l1 bt362.1 bt362.2.1 bt367.1 bt367.2 bt375.1 (bt375.2 != bt367.2)))) else (none))))))))))
def laws_FnDoorsOfRooms.T16 : Bool × List (List Nat × List Nat) := (true, [([], []), ([], []), ([], []), ([2], [2]), ([3], [3]), ([], []), ([5], [5]), ([6], [6]), ([0, 1, 4, 7], [0, 1, 4, 7]), ([8], [8]), ([9], [9]), ([9], [9]), ([10, 8, 0, 1, 2, 3, 4, 5, 6, 7, 8, 9, 10], [10]), ([11, 12, 0, 1, 2, 3, 4, 5, 6, 7, 8, 9, 10, 11, 12], [11])])
def laws_FnDoorsOfRooms.B16 : List Nat := [0, 0, 0, 4, 12, 0, 32, 96, 255, 511, 1023, 1023, 2047, 8191]
theorem laws_FnDoorsOfRooms.tab16 : rtab .any (opsOf Try.f8 16) = laws_FnDoorsOfRooms.T16 := by kernel_rfl
theorem laws_FnDoorsOfRooms.bits16 : waitsOk laws_FnDoorsOfRooms.T16.2 laws_FnDoorsOfRooms.B16 = true := by kernel_rfl
/-- THE ONE PURE STATEMENT of laws_FnDoorsOfRooms: yours. -/
def laws_FnDoorsOfRooms.Pure : Prop := ∀ (l0 : List Int) (l1 : List Int), l0.length ≤ maxLen → l0.length * 1 ≤ 140737488351232 → (∀ x ∈ l0, (Lit.int .u8 x).wf = true) → l1.length ≤ maxLen → l1.length * 1 ≤ 140737488351232 → (∀ x ∈ l1, (Lit.int .u8 x).wf = true) → ∃ k, laws_FnDoorsOfRooms.f k l0 l1 = some true
end Go.Proofs.Ytckiebdehlcjoaa.P
