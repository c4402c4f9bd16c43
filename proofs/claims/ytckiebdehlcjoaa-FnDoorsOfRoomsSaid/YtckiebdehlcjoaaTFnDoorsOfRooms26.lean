/- A part of the proof of the law FnDoorsOfRooms. -/
import Derived.Test.YtckiebdehlcjoaaTFnDoorsOfRooms25
namespace Go.Proofs.Ytckiebdehlcjoaa.Pure
open Go.RowKit Go.Proofs.Ytckiebdehlcjoaa.P Go.Proofs.Ytckiebdehlcjoaa.Own Go.Proofs.YtckiebdehlcjoaaW.PrintWords Go.Proofs.YtckiebdehlcjoaaW.PrintLast
set_option linter.unusedVariables false
set_option linter.unusedSimpArgs false
def cod (a b : Int) : Nat := if a ≤ b then a.toNat * 64 + b.toNat else b.toNat * 64 + a.toNat
def cd (s : List Int) : Nat := cod (rd s 0) (rd s 1)
def dC (l : List Int) (c : Nat) : Bool := dL l ((c / 64 : Nat) : Int) ((c % 64 : Nat) : Int)
theorem dC_cod (l : List Int) {a b : Int} (ha : 0 ≤ a ∧ a < 64) (hb : 0 ≤ b ∧ b < 64) : dC l (cod a b) = dL l a b := by
  unfold dC cod
  split
  · rw [show (a.toNat * 64 + b.toNat) / 64 = a.toNat by omega, show (a.toNat * 64 + b.toNat) % 64 = b.toNat by omega, Int.toNat_of_nonneg ha.1, Int.toNat_of_nonneg hb.1]
  · rw [show (b.toNat * 64 + a.toNat) / 64 = b.toNat by omega, show (b.toNat * 64 + a.toNat) % 64 = a.toNat by omega, Int.toNat_of_nonneg ha.1, Int.toNat_of_nonneg hb.1]
    unfold dL dB
    rw [Int.add_comm]
def edR (m i : Nat) : List (List Int) := ((List.range' (i + 1) (m - (i + 1))).filter fun (j : Nat) => nearV i j).map fun (j : Nat) => [(i : Int), (j : Int)]
def edg (m : Nat) : List (List Int) := (List.range' 0 m).flatMap fun i => edR m i
def cps (n : Int) : List (List Int) := (cellsV n).flatMap pairsC
theorem perm_tab : ([1, 2, 3, 4, 5, 6, 7, 8] : List Int).all (fun n => List.isPerm ((cps n).map cd ++ (stV n).map cd) ((edg (manyI n).toNat).map cd ++ (edg (manyI n).toNat).map cd) && (cps n).all (fun s => decide (0 ≤ rd s 0 ∧ rd s 0 < 64) && decide (0 ≤ rd s 1 ∧ rd s 1 < 64)) && (stV n).all (fun s => decide (0 ≤ rd s 0 ∧ rd s 0 < 64) && decide (0 ≤ rd s 1 ∧ rd s 1 < 64)) && (edg (manyI n).toNat).all (fun s => decide (0 ≤ rd s 0 ∧ rd s 0 < 64) && decide (0 ≤ rd s 1 ∧ rd s 1 < 64))) = true := by decide +kernel
theorem countC (l : List Int) (X : List (List Int)) (h : X.all (fun s => decide (0 ≤ rd s 0 ∧ rd s 0 < 64) && decide (0 ≤ rd s 1 ∧ rd s 1 < 64)) = true) : X.countP (dP l) = (X.map cd).countP (dC l) := by
  rw [List.countP_map]
  refine List.countP_congr fun s hs => ?_
  have := List.all_eq_true.1 h s hs
  simp only [Bool.and_eq_true, decide_eq_true_eq] at this
  have e : dC l (cd s) = dP l s := dC_cod l this.1 this.2
  show dP l s = true ↔ dC l (cd s) = true
  rw [e]
theorem count_eq {n : Int} (h0 : 1 ≤ n) (h1 : n ≤ 8) (l : List Int) : (cps n).countP (dP l) + (bordV n l).length = 2 * ((edg (manyI n).toNat).countP (dP l)) := by
  have h := List.all_eq_true.1 perm_tab n (by rcases side8 h0 h1 with rfl | rfl | rfl | rfl | rfl | rfl | rfl | rfl <;> decide)
  simp only [Bool.and_eq_true] at h
  obtain ⟨⟨⟨p, a⟩, b⟩, c⟩ := h
  have e := (List.isPerm_iff.1 p).countP_eq (dC l)
  rw [List.countP_append, List.countP_append, ← countC l _ a, ← countC l _ b, ← countC l _ c] at e
  unfold bordV
  rw [← List.countP_eq_length_filter]
  omega
theorem allF_edg (l : List Int) (m : Nat) : (allF l m 0).length = (edg m).countP (dP l) := by
  have e : allF l m 0 = (edg m).filter (dP l) := by
    unfold allF edg
    rw [List.filter_flatMap, Nat.sub_zero]
    congr 1
    funext i
    unfold rowF edR
    rw [List.filter_map, List.filter_filter]
    congr 1
    refine List.filter_congr fun j _ => ?_
    show (nearV i j && dL l i j) = (dL l i j && nearV i j)
    exact Bool.and_comm _ _
  rw [e, List.countP_eq_length_filter]
theorem cps_sum (l : List Int) (n : Int) : (cps n).countP (dP l) = ((cellsV n).map fun c => (doorsC l c).length).sum := by
  unfold cps
  rw [List.countP_flatMap]
  congr 1
  refine List.map_congr_left fun c _ => ?_
  show List.countP (dP l) (pairsC c) = (doorsC l c).length
  unfold doorsC
  rw [List.countP_eq_length_filter]
/-- what the sum over the cells must be -/
theorem sum_eq {n : Int} {l : List Int} (h : Lb n l) : (((cellsV n).map fun c => (doorsC l c).length).sum : Int) = 2 * ((allF l l.length 0).length : Int) - ((bordV n l).length : Int) := by
  have e := count_eq h.n0 h.n1 l
  have hm : (manyI n).toNat = l.length := by have := h.len; omega
  rw [cps_sum, hm, ← allF_edg] at e
  omega
end Go.Proofs.Ytckiebdehlcjoaa.Pure
