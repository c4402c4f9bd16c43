/- A part of the proof of the law FnTrianglesAreCut. -/
import Derived.Test.YtckiebdehlcjoaaTFnTrianglesAreCut14
import Derived.Test.YtckiebdehlcjoaaTFnTrianglesAreCut15
import Derived.Test.YtckiebdehlcjoaaProg
import Derived.Below
import Derived.Deep.Draws
import Derived.Deep.AppendLies
import Derived.Maps.AppendAt
import Derived.OwnWalk
import Derived.Laws.BytesArg
import Derived.Laws.MakeOwn
import Derived.Laws.OwnMore
import Derived.Deep.OwnRows
import Derived.Tactics
import Derived.Lib.ConvBytes
import Derived.Laws.Slices
import Derived.WalkKit
import Derived.KernelRfl
import Derived.RowKit3
import Derived.Deep.LoopGhost
import Derived.Deep.QuietTactic
import Derived.BigQuiet
import Derived.WideLaws
import Derived.Deep.DeepCutAuto
import Derived.Deep.CutBlock
import Derived.Deep.RegionHeld3
import Derived.Laws.Rows
import Derived.Lib.AppendStr
import Derived.ArgAppend
import Derived.Laws.IdiomCopy
import Derived.OrdersHeld
import Derived.Laws.BitsLemmas
import Derived.RowKit
import Derived.Test.YtckiebdehlcjoaaTFnTrianglesAreCut1
import Derived.Test.YtckiebdehlcjoaaTFnTrianglesAreCut2
import Derived.Test.YtckiebdehlcjoaaTFnTrianglesAreCut3
import Derived.Test.YtckiebdehlcjoaaTFnTrianglesAreCut4
import Derived.Test.YtckiebdehlcjoaaTFnTrianglesAreCut5
import Derived.Test.YtckiebdehlcjoaaTFnTrianglesAreCut6
import Derived.Test.YtckiebdehlcjoaaTFnTrianglesAreCut7
import Derived.Test.YtckiebdehlcjoaaTFnTrianglesAreCut11
import Derived.Test.YtckiebdehlcjoaaTFnTrianglesAreCut9
import Derived.Test.YtckiebdehlcjoaaTFnTrianglesAreCut10
namespace Go.Proofs.Ytckiebdehlcjoaa.Pure
open Go.RowKit Go.Proofs.Ytckiebdehlcjoaa.P Go.Proofs.Ytckiebdehlcjoaa.Own Go.Proofs.YtckiebdehlcjoaaW.PrintWords Go.Proofs.YtckiebdehlcjoaaW.PrintLast
set_option linter.unusedVariables false
abbrev K : Nat := 100000
theorem big_cases (l0 l1 : List Int) : laws_big.f l0 l1 = some true ∨ (laws_big.f l0 l1 = some false ∧ l0.length ≤ 1048576 ∧ l1.length ≤ 1048576) := by
  unfold laws_big.f
  by_cases h : (l0.length : Int) > 1048576
  · rw [if_pos h]; exact .inl rfl
  · rw [if_neg h, wrap64_id (by omega) (by omega)]
    by_cases h2 : (l1.length : Int) > 1048576 - (l0.length : Int)
    · left; simp [h2]
    · right; exact ⟨by simp [h2], by omega, by omega⟩
def cw (C : List (List Int)) (n x y : Int) : Option (List Int × Bool) :=
  (impl_isPoint.f n [x, y]).bind fun t => if t = true then (impl_points.f K n).bind fun ps => (if 0 ≤ x then (if x < (ps.length : Int) then (if 0 ≤ y then (if y < (ps.length : Int) then ((impl_near.f K ((rd_T109 ps x).f0) ((rd_T109 ps x).f1) ((rd_T109 ps x).f2) ((rd_T109 ps y).f0) ((rd_T109 ps y).f1) ((rd_T109 ps y).f2)).bind fun t => if t = true then (impl_with.f K C x y).bind fun l => some (l, true) else some ([], false)) else none) else none) else none) else none) else some ([], false)
theorem isPoint_side {n : Int} {l : List Int} (h : impl_isPoint.f n l = some true) : 1 ≤ n ∧ n ≤ 8 := by
  have h := Option.some.inj h
  unfold pointB sideI inI at h
  simp at h
  exact h.1
theorem cw_ev {n x y : Int} {v} (h : cw (cellsV n) n x y = some v) : Ev (fun k => impl_CellsWith.f k n x y) v := by
  unfold impl_CellsWith.f
  unfold cw at h
  obtain ⟨t, ht, h⟩ := Option.bind_eq_some_iff.1 h
  refine Ev.bind0 ht ?_
  refine Ev.sync_if h (fun hp h => ?_) (fun _ h => Ev.pure h)
  subst hp
  obtain ⟨n0, n1⟩ := isPoint_side ht
  refine Ev.sync_bind (fun k => impl_points.mono _ _) h fun ps h => ?_
  refine Ev.sync_yes h fun h => Ev.sync_yes h fun h => Ev.sync_yes h fun h => Ev.sync_yes h fun h => ?_
  refine Ev.sync_bind (fun k => impl_near.mono _ _ _ _ _ _ _) h fun t h => ?_
  refine Ev.sync_if h (fun hp h => ?_) (fun _ h => Ev.pure h)
  refine Ev.bind (cells_ev n n0 n1) ?_
  refine Ev.sync_bind (fun k => impl_with.mono _ _ _ _) h fun l h => Ev.pure h
def up (C : List (List Int)) (n c : Int) : Option (Bool × Bool) :=
  (impl_isCell.f n c).bind fun t => if t = true then (if 0 ≤ c then (if c < (C.length : Int) then (impl_isUp.f K n (rd_L2 C c)).bind fun t => some (t, true) else none) else none) else some (false, false)
theorem isCell_side {n c : Int} (h : impl_isCell.f n c = some true) : 1 ≤ n ∧ n ≤ 8 := by
  unfold impl_isCell.f impl_isSide.f impl_in.f at h
  obtain ⟨t, ht, h⟩ := Option.bind_eq_some_iff.1 h
  obtain ⟨t2, ht2, ht⟩ := Option.bind_eq_some_iff.1 ht
  have ht := Option.some.inj ht
  subst ht
  cases t2 with
  | false => simp at h
  | true =>
    split at ht2
    · have := Option.some.inj ht2
      simp at this
      omega
    · simp at ht2
theorem up_ev {n c : Int} {v} (h : up (cellsV n) n c = some v) : Ev (fun k => impl_IsUpCell.f k n c) v := by
  unfold impl_IsUpCell.f
  unfold up at h
  obtain ⟨t, ht, h⟩ := Option.bind_eq_some_iff.1 h
  refine Ev.bind0 ht ?_
  refine Ev.sync_if h (fun hp h => ?_) (fun _ h => Ev.pure h)
  subst hp
  obtain ⟨n0, n1⟩ := isCell_side ht
  refine Ev.bind (cells_ev n n0 n1) ?_
  refine Ev.sync_yes h fun h => Ev.sync_yes h fun h => ?_
  refine Ev.sync_bind (fun k => impl_isUp.mono _ _ _) h fun l h => Ev.pure h
def meCw (C : List (List Int)) (n x y : Int) : Option (List Int × Bool) :=
  let fin := fun (b : Bool) => if b = true then some ([], false) else (if 1 ≤ n ∧ n ≤ 8 then (spec_meWith.f K C x y).bind fun l => some (l, true) else none)
  (spec_mePoint.f n x).bind fun t => if t = true then ((spec_mePoint.f n y).bind fun t => if t = true then ((spec_meNear.f K n x y).bind fun t => fin (!t)) else fin true) else fin true
theorem meCw_ev {n x y : Int} {v} (h : meCw (cellsV n) n x y = some v) : Ev (fun k => spec_CellsWith.f k n x y) v := by
  have fin : ∀ b, (if b = true then some ([], false) else (if 1 ≤ n ∧ n ≤ 8 then (spec_meWith.f K (cellsV n) x y).bind fun l => some (l, true) else none)) = some v → Ev (fun k => spec_CellsWith.j0 k n x y b) v := by
    intro b h
    refine Ev.succ ?_
    simp only [spec_CellsWith.j0]
    refine Ev.sync_if h (fun hp h => Ev.pure h) (fun _ h => ?_)
    by_cases hn : 1 ≤ n ∧ n ≤ 8
    · rw [if_pos hn] at h
      refine Ev.bind (meCells_ev n hn.1 hn.2) ?_
      exact Ev.sync_bind (fun k => spec_meWith.mono _ _ _ _) h fun l h => Ev.pure h
    · rw [if_neg hn] at h; cases h
  unfold spec_CellsWith.f
  unfold meCw at h
  refine Ev.sync_bind0 h fun t h => ?_
  refine Ev.sync_if h (fun hp h => ?_) (fun _ h => fin _ h)
  refine Ev.sync_bind0 h fun t h => ?_
  refine Ev.sync_if h (fun hp h => ?_) (fun _ h => fin _ h)
  exact Ev.sync_bind (fun k => spec_meNear.mono _ _ _ _) h fun t h => fin _ h
def meUpC (C : List (List Int)) (n c : Int) : Option (Bool × Bool) :=
  let fin := fun (b : Bool) => if b = true then some (false, false) else (if 1 ≤ n ∧ n ≤ 8 then (if 0 ≤ c then (if c < (C.length : Int) then (spec_meUp.f K n (rd_L2 C c)).bind fun t => some (t, true) else none) else none) else none)
  (spec_meSide.f n).bind fun t => if t = true then ((spec_l1In.f c 0 (wrap64 ((wrap64 (n * n)) - 1))).bind fun t => fin (!t)) else fin true
theorem meUp_ev {n c : Int} {v} (h : meUpC (cellsV n) n c = some v) : Ev (fun k => spec_IsUpCell.f k n c) v := by
  have fin : ∀ b, (if b = true then some (false, false) else (if 1 ≤ n ∧ n ≤ 8 then (if 0 ≤ c then (if c < ((cellsV n).length : Int) then (spec_meUp.f K n (rd_L2 (cellsV n) c)).bind fun t => some (t, true) else none) else none) else none)) = some v → Ev (fun k => spec_IsUpCell.j0 k n c b) v := by
    intro b h
    refine Ev.succ ?_
    simp only [spec_IsUpCell.j0]
    refine Ev.sync_if h (fun hp h => Ev.pure h) (fun _ h => ?_)
    by_cases hn : 1 ≤ n ∧ n ≤ 8
    · rw [if_pos hn] at h
      refine Ev.bind (meCells_ev n hn.1 hn.2) ?_
      refine Ev.sync_yes h fun h => Ev.sync_yes h fun h => ?_
      exact Ev.sync_bind (fun k => spec_meUp.mono _ _ _) h fun l h => Ev.pure h
    · rw [if_neg hn] at h; cases h
  unfold spec_IsUpCell.f
  unfold meUpC at h
  refine Ev.sync_bind0 h fun t h => ?_
  refine Ev.sync_if h (fun hp h => ?_) (fun _ h => fin _ h)
  exact Ev.sync_bind0 h fun t h => fin _ h
def okNear (n i j : Int) : Bool := match impl_NeighboursOf.f K n j, cw (cellsV n) n i j with
  | some b, some c => b.2 && (laws_uHas.f K b.1 i == some true) && c.2 && decide (¬ (c.1.length : Int) < 1) && decide (¬ (c.1.length : Int) > 2)
  | _, _ => false
def ck1 (n i : Int) : Option Unit :=
  (impl_PointAt.f K n i).bind fun b1 => (spec_PointAt.f K n i).bind fun b2 => (impl_NeighboursOf.f K n i).bind fun b3 => (spec_NeighboursOf.f K n i).bind fun b4 => (impl_SidesOf.f K n i).bind fun b5 => (spec_SidesOf.f K n i).bind fun b6 => if (b1.2 != b2.2) = true then none else ((laws_uSame.f K b1.1 b2.1).bind fun t => if t = true then (if (b3.2 != b4.2) = true then none else ((laws_uSame.f K b3.1 b4.1).bind fun t => if t = true then (if (b5.2 != b6.2) = true then none else ((laws_uSame.f K b5.1 b6.1).bind fun t => if t = true then (if (b3.2 != b1.2) = true then none else
    (if (b5.2 != b1.2) = true then none else (if b1.2 = true then ((impl_IndexOfPoint.f K n b1.1).bind fun b7 => if b7.2 = true then (if b7.1 = i then ((laws_uSum.f K b1.1).bind fun s => if (s != n) = true then none else ((impl_BorderOf.f K n).bind fun b8 => if b8.2 = true then ((laws_uHas.f K b8.1 i).bind fun t => if (t != decide ((b5.1.length : Int) > 0)) = true then none else (if (b3.1.all fun j => okNear n i j) = true then (if b3.1.length ≤ 1000 then some () else none) else none)) else none)) else none) else none) else some ()))) else none)) else none)) else none)
theorem ck1_fin : ∀ n : Int, n ∈ [(-1 : Int), 0, 9, 1, 2, 3, 4, 5, 6, 8] → ∀ i : Int, -1 ≤ i → i ≤ 28 → ck1 n i = some () := by
  intro n hn i h0 h1
  have hA : ([(-1 : Int), 0, 9, 1, 2, 3, 4, 5, 6, 8]).all (fun n => (List.range 30).all (fun j => ck1 n (-1 + (j : Int)) == some ())) = true := by decide +kernel
  have := all_range (P := fun i => ck1 n i == some ()) (lo := -1) (n := 30) (List.all_eq_true.1 hA n hn) i h0 (by omega)
  simpa using this
def vars (q : List Int) : List (List Int) :=
  q :: (q ++ [0]) :: q.set 0 4611686018427387904 :: (List.range 3).flatMap fun (a : Nat) => (List.range 3).map fun (d : Nat) => q.set a (rd q (a : Int) + ((d : Int) - 1))
def ck2 (m : Int) (q : List Int) : Option Unit :=
  (impl_IndexOfPoint.f K m q).bind fun b1 => (spec_IndexOfPoint.f K m q).bind fun b2 => if (b1.2 != b2.2) = true then none else (if (b1.1 != b2.1) = true then none else some ())
theorem ck2_fin0 : ∀ n : Int, n ∈ [(-1 : Int), 0, 9] → ck2 n [0, 0, 0] = some () := by decide +kernel
def cnt (n : Int) : Nat := ((n + 1) * (n + 2) / 2).toNat
theorem ck2_fin : ∀ n : Int, n ∈ [(1 : Int), 2, 3, 4, 5, 6, 8] → ∀ i : Int, 0 ≤ i → i < cnt n → ∃ q, spec_meAt.f K n i = some q ∧ q.length = 3 ∧ (∀ x ∈ q, 0 ≤ x ∧ x ≤ 8) ∧ ∀ q' ∈ vars q, ck2 n q' = some () := by
  intro n hn i h0 h1
  have hA : ([(1 : Int), 2, 3, 4, 5, 6, 8]).all (fun n => (List.range (cnt n)).all (fun j => match spec_meAt.f K n (0 + (j : Int)) with | some q => q.length == 3 && q.all (fun x => decide (0 ≤ x) && decide (x ≤ 8)) && (vars q).all (fun q' => ck2 n q' == some ()) | none => false)) = true := by decide +kernel
  have := all_range (P := fun i => match spec_meAt.f K n i with | some q => q.length == 3 && q.all (fun x => decide (0 ≤ x) && decide (x ≤ 8)) && (vars q).all (fun q' => ck2 n q' == some ()) | none => false) (lo := 0) (n := cnt n) (List.all_eq_true.1 hA n hn) i h0 (by omega)
  revert this
  cases spec_meAt.f K n i with
  | none => intro h; cases h
  | some q =>
    intro h
    simp only [Bool.and_eq_true, List.all_eq_true, beq_iff_eq, decide_eq_true_eq] at h
    exact ⟨q, rfl, h.1.1, h.1.2, h.2⟩
def okCell (n : Int) (c : Int) : Bool := match up (cellsV n) n c with
  | some b => b.2 && (decide (c ≤ 0) || (laws_uLess.f K (rd_L2 (cellsV n) (c - 1)) (rd_L2 (cellsV n) c) == some true))
  | none => false
def isUpV (n c : Int) : Bool := match up (cellsV n) n c with | some b => b.1 | none => false
def ups (n : Int) : Nat → Int → Int → Int
  | 0, _, s => s
  | m + 1, c, s => ups n m (c + 1) (if isUpV n c = true then s + 1 else s)
def ck3 (n : Int) : Bool :=
  (laws_uSameRows.f K (cellsV n) (cellsV n) == some true) && ((List.range (cellsV n).length).all fun (c : Nat) => okCell n c) && decide (((cellsV n).length : Int) = n * n) && decide (ups n (cellsV n).length 0 0 = n * (n + 1) / 2)
theorem ck3_fin : ∀ n : Int, n ∈ [(1 : Int), 2, 3, 4, 5, 8] → ck3 n = true := by decide +kernel
def ck4 (n x y : Int) : Option Unit :=
  (cw (cellsV n) n x y).bind fun b1 => (meCw (cellsV n) n x y).bind fun b2 => if (b1.2 == b2.2) = true then ((laws_uSame.f K b1.1 b2.1).bind fun t => if t = true then some () else none) else none
theorem ck4_fin : ∀ n : Int, n ∈ [(-1 : Int), 0, 9, 1, 2, 3, 4, 5, 8] → ∀ x : Int, -1 ≤ x → x ≤ 20 → ∀ d : Int, d ∈ [(1 : Int), 2, 3, 4, 5, -1, 0] → ck4 n x (x + d) = some () := by
  intro n hn x h0 h1 d hd
  have hA : ([(-1 : Int), 0, 9, 1, 2, 3, 4, 5, 8]).all (fun n => (List.range 22).all (fun j => ([(1 : Int), 2, 3, 4, 5, -1, 0]).all (fun d => ck4 n (-1 + (j : Int)) (-1 + (j : Int) + d) == some ()))) = true := by decide +kernel
  have := all_range (P := fun x => ([(1 : Int), 2, 3, 4, 5, -1, 0]).all (fun d => ck4 n x (x + d) == some ())) (lo := -1) (n := 22) (List.all_eq_true.1 hA n hn) x h0 (by omega)
  simpa using List.all_eq_true.1 this d hd
def ck5 (n c : Int) : Option Unit :=
  (up (cellsV n) n c).bind fun b1 => (meUpC (cellsV n) n c).bind fun b2 => if (b1.2 == b2.2) = true then (if (b1.1 == b2.1) = true then some () else none) else none
theorem ck5_fin : ∀ n : Int, n ∈ [(-1 : Int), 0, 9, 1, 2, 3, 4, 5, 8] → ∀ c : Int, -1 ≤ c → c ≤ 25 → ck5 n c = some () := by
  intro n hn c h0 h1
  have hA : ([(-1 : Int), 0, 9, 1, 2, 3, 4, 5, 8]).all (fun n => (List.range 27).all (fun j => ck5 n (-1 + (j : Int)) == some ())) = true := by decide +kernel
  have := all_range (P := fun c => ck5 n c == some ()) (lo := -1) (n := 27) (List.all_eq_true.1 hA n hn) c h0 (by omega)
  simpa using this
end Go.Proofs.Ytckiebdehlcjoaa.Pure
