/- A part of the proof of the law FnDoorsOfRooms. -/
import Derived.Test.YtckiebdehlcjoaaTFnDoorsOfRooms21
import Derived.Test.YtckiebdehlcjoaaTFnDoorsOfRooms22
import Derived.Test.YtckiebdehlcjoaaTFnDoorsOfRooms17
namespace Go.Proofs.Ytckiebdehlcjoaa.Pure
open Go.RowKit Go.Proofs.Ytckiebdehlcjoaa.P Go.Proofs.Ytckiebdehlcjoaa.Own Go.Proofs.YtckiebdehlcjoaaW.PrintWords Go.Proofs.YtckiebdehlcjoaaW.PrintLast
set_option linter.unusedVariables false
abbrev K : Nat := 100000
theorem drop_rd (l : List Int) (i : Nat) (h : i < l.length) : l.drop i = rd l (i : Int) :: l.drop (i + 1) := by
  rw [List.drop_eq_getElem_cons h]
  congr 1
  unfold rd
  rw [List.getD_eq_getElem?_getD, Int.toNat_natCast, List.getElem?_eq_getElem h]; rfl
theorem drop_L2 (l : List (List Int)) (i : Nat) (h : i < l.length) : l.drop i = rd_L2 l (i : Int) :: l.drop (i + 1) := by
  rw [List.drop_eq_getElem_cons h]
  congr 1
  unfold rd_L2
  rw [List.getD_eq_getElem?_getD, Int.toNat_natCast, List.getElem?_eq_getElem h]; rfl
theorem rd_L2_mem {l : List (List Int)} {i : Int} (h0 : 0 ≤ i) (h1 : i < l.length) : rd_L2 l i ∈ l := by
  unfold rd_L2
  rw [List.getD_eq_getElem?_getD, List.getElem?_eq_getElem (by omega : i.toNat < l.length)]
  exact List.getElem_mem _
theorem nat_add1 (i : Nat) (h : i < 1000000) : wrap64 ((i : Int) + 1) = ((i + 1 : Nat) : Int) := by rw [wrap64_id (by omega) (by omega)]; omega
theorem uSame_refl (l : List Int) (hl : l.length ≤ 100000) : Ev (fun k => laws_uSame.f k l l) true := by
  have h : ∀ m i : Nat, i + m = l.length → Ev (fun k => laws_uSame.l0 k l l (l.length : Int) (i : Int)) true := by
    intro m
    induction m with
    | zero => intro i hi; refine Ev.succ ?_; simp only [laws_uSame.l0]; exact Ev.neg (by omega) (Ev.pure rfl)
    | succ m ih =>
      intro i hi
      refine Ev.succ ?_
      simp only [laws_uSame.l0]
      rw [nat_add1 i (by omega)]
      exact Ev.pos (by omega) (Ev.pos (by omega) (Ev.pos (by omega) (Ev.pos (by omega) (Ev.pos (by first | trivial | rfl) (ih (i + 1) (by omega))))))
  unfold laws_uSame.f
  exact Ev.pos rfl (h l.length 0 (by omega))
theorem uSameRows_refl (l : List (List Int)) (hl : l.length ≤ 100000) (hr : ∀ x ∈ l, x.length ≤ 100000) : Ev (fun k => laws_uSameRows.f k l l) true := by
  have h : ∀ m i : Nat, i + m = l.length → Ev (fun k => laws_uSameRows.l0 k l l (l.length : Int) (i : Int)) true := by
    intro m
    induction m with
    | zero => intro i hi; refine Ev.succ ?_; simp only [laws_uSameRows.l0]; exact Ev.neg (by omega) (Ev.pure rfl)
    | succ m ih =>
      intro i hi
      refine Ev.succ ?_
      simp only [laws_uSameRows.l0]
      rw [nat_add1 i (by omega)]
      exact Ev.pos (by omega) (Ev.pos (by omega) (Ev.pos (by omega) (Ev.pos (by omega) (Ev.bind (uSame_refl _ (hr _ (rd_L2_mem (by omega) (by omega)))) (Ev.pos rfl (ih (i + 1) (by omega)))))))
  unfold laws_uSameRows.f
  exact Ev.pos rfl (h l.length 0 (by omega))
structure Lb (n : Int) (l : List Int) : Prop where
  n0 : 1 ≤ n
  n1 : n ≤ 8
  len : (l.length : Int) = manyI n
  vals : ∀ x ∈ l, 0 ≤ x ∧ x ≤ 2
theorem lb_of {n : Int} {l : List Int} (h : labelsB n l = true) : Lb n l := by
  unfold labelsB sideI inI at h
  simp only [Bool.and_eq_true, decide_eq_true_eq, Bool.not_eq_true', List.any_eq_false] at h
  obtain ⟨⟨⟨h0, h1⟩, h2⟩, h3⟩ := h
  exact ⟨h0, h1, h2, fun x hx => by have := h3 x hx; simpa using this⟩
theorem Lb.B {n : Int} {l : List Int} (h : Lb n l) : labelsB n l = true := by
  unfold labelsB sideI inI
  simp only [Bool.and_eq_true, decide_eq_true_eq, Bool.not_eq_true', List.any_eq_false]
  exact ⟨⟨⟨h.n0, h.n1⟩, h.len⟩, fun x hx => by have := h.vals x hx; simpa using this⟩
theorem Lb.len45 {n : Int} {l : List Int} (h : Lb n l) : 3 ≤ l.length ∧ l.length ≤ 45 := by
  have := many_bd n h.n0 h.n1
  have := h.len
  omega
theorem Lb.rd {n : Int} {l : List Int} (h : Lb n l) {i : Int} (h0 : 0 ≤ i) (h1 : i < manyI n) : 0 ≤ rd l i ∧ rd l i ≤ 2 := h.vals _ (rd_mem_of h0 (by rw [h.len]; exact h1))
theorem side8 {n : Int} (h0 : 1 ≤ n) (h1 : n ≤ 8) : n = 1 ∨ n = 2 ∨ n = 3 ∨ n = 4 ∨ n = 5 ∨ n = 6 ∨ n = 7 ∨ n = 8 := by omega
theorem meSide_eq (n : Int) : spec_meSide.f n = some (sideI n) := by
  unfold spec_meSide.f spec_l1In.f sideI inI
  by_cases h : n ≥ 1
  · rw [if_pos h]; simp [show (1 : Int) ≤ n from h]
  · rw [if_neg h]; simp [show ¬ (1 : Int) ≤ n from h]
theorem isSide_eq (n : Int) : impl_isSide.f n = some (sideI n) := by
  unfold impl_isSide.f impl_in.f sideI inI
  by_cases h : 1 ≤ n
  · rw [if_pos h]; simp [h]
  · rw [if_neg h]; simp [h]
theorem l1In_eq (x a b : Int) : spec_l1In.f x a b = some (inI x a b) := by
  unfold spec_l1In.f inI
  by_cases h : x ≥ a
  · rw [if_pos h]; simp [show a ≤ x from h]
  · rw [if_neg h]; simp [show ¬ a ≤ x from h]
theorem in_eq (x a b : Int) : impl_in.f x a b = some (inI x a b) := by
  unfold impl_in.f inI
  by_cases h : a ≤ x
  · rw [if_pos h]; simp [h]
  · rw [if_neg h]; simp [h]
theorem meCount_eq {n : Int} (h0 : 1 ≤ n) (h1 : n ≤ 8) : spec_meCount.f n = some (manyI n) := by
  rcases side8 h0 h1 with rfl | rfl | rfl | rfl | rfl | rfl | rfl | rfl <;> decide +kernel
theorem l1All_ev (a b : Int) (l : List Int) (hl : l.length ≤ 100000) : Ev (fun k => spec_l1All.f k l a b) (!(l.any fun x => !inI x a b)) := by
  have h : ∀ m i : Nat, i + m = l.length → Ev (fun k => spec_l1All.l0 k a b l (l.length : Int) (i : Int)) (!((l.drop i).any fun x => !inI x a b)) := by
    intro m
    induction m with
    | zero =>
      intro i hi
      refine Ev.succ ?_
      simp only [spec_l1All.l0]
      rw [List.drop_eq_nil_of_le (by omega)]
      exact Ev.neg (by omega) (Ev.pure rfl)
    | succ m ih =>
      intro i hi
      refine Ev.succ ?_
      simp only [spec_l1All.l0]
      rw [nat_add1 i (by omega), drop_rd l i (by omega), List.any_cons]
      refine Ev.pos (by omega) (Ev.pos (by omega) (Ev.pos (by omega) (Ev.bind0 (l1In_eq _ _ _) ?_)))
      cases hin : inI (rd l i) a b with
      | true => refine Ev.pos rfl ?_; simpa using ih (i + 1) (by omega)
      | false => exact Ev.neg (by decide) (Ev.pure (by simp))
  unfold spec_l1All.f
  exact h l.length 0 (by omega)
theorem meLabels_ev (n : Int) (l : List Int) (hl : l.length ≤ 100000) : Ev (fun k => spec_meLabels.f k n l) (labelsB n l) := by
  unfold spec_meLabels.f labelsB
  refine Ev.bind0 (meSide_eq n) ?_
  cases hs : sideI n with
  | false => exact Ev.neg (by decide) (Ev.pure rfl)
  | true =>
    have hb : 1 ≤ n ∧ n ≤ 8 := by simpa [sideI, inI] using hs
    refine Ev.pos rfl (Ev.bind0 (meCount_eq hb.1 hb.2) ?_)
    by_cases hc : (l.length : Int) = manyI n
    · refine Ev.pos hc (Ev.bind (l1All_ev 0 2 l hl) (Ev.pure ?_))
      simp [hc]
    · exact Ev.neg hc (Ev.pure (by simp [hc]))
def borderV (n : Int) : List Int := match impl_border.f K n with | some b => b | none => []
theorem border_tab : ([1, 2, 3, 4, 5, 6, 7, 8] : List Int).all (fun n => impl_border.f K n == some (borderV n) && spec_meBorder.f K n == some (borderV n) && decide ((borderV n).length = 3 * n.toNat) && (borderV n).all (fun x => decide (0 ≤ x) && decide (x < manyI n))) = true := by decide +kernel
structure Bd (n : Int) : Prop where
  impl_ : Ev (fun k => impl_border.f k n) (borderV n)
  spec_ : Ev (fun k => spec_meBorder.f k n) (borderV n)
  len : (borderV n).length = 3 * n.toNat
  vals : ∀ x ∈ borderV n, 0 ≤ x ∧ x < manyI n
theorem bd {n : Int} (h0 : 1 ≤ n) (h1 : n ≤ 8) : Bd n := by
  have h := List.all_eq_true.1 border_tab n (by rcases side8 h0 h1 with rfl | rfl | rfl | rfl | rfl | rfl | rfl | rfl <;> decide)
  simp only [Bool.and_eq_true, beq_iff_eq, decide_eq_true_eq, List.all_eq_true] at h
  obtain ⟨⟨⟨a, b⟩, c⟩, d⟩ := h
  exact ⟨Ev.of K (fun k => impl_border.mono _ _) a, Ev.of K (fun k => spec_meBorder.mono _ _) b, c, d⟩
def rowT : List Int := [0, 1, 1, 2, 2, 2, 3, 3, 3, 3, 4, 4, 4, 4, 4, 5, 5, 5, 5, 5, 5, 6, 6, 6, 6, 6, 6, 6, 7, 7, 7, 7, 7, 7, 7, 7, 8, 8, 8, 8, 8, 8, 8, 8, 8]
def colT : List Int := [0, 0, 1, 0, 1, 2, 0, 1, 2, 3, 0, 1, 2, 3, 4, 0, 1, 2, 3, 4, 5, 0, 1, 2, 3, 4, 5, 6, 0, 1, 2, 3, 4, 5, 6, 7, 0, 1, 2, 3, 4, 5, 6, 7, 8]
def stepB (r c : Int) : Bool := (r == 0 && (c == 1 || c == -1)) || (r == 1 && (c == 0 || c == 1)) || (r == -1 && (c == 0 || c == -1))
def nearV (i j : Int) : Bool := stepB (rd rowT j - rd rowT i) (rd colT j - rd colT i)
def ptsV (n : Int) : List S109 := match impl_points.f K n with | some b => b | none => []
theorem pts_tab : ([1, 2, 3, 4, 5, 6, 7, 8] : List Int).all (fun n => (impl_points.f K n).isSome && decide (((ptsV n).length : Int) = manyI n)) = true := by decide +kernel
theorem pts_ev {n : Int} (h0 : 1 ≤ n) (h1 : n ≤ 8) : Ev (fun k => impl_points.f k n) (ptsV n) ∧ ((ptsV n).length : Int) = manyI n := by
  have h := List.all_eq_true.1 pts_tab n (by rcases side8 h0 h1 with rfl | rfl | rfl | rfl | rfl | rfl | rfl | rfl <;> decide)
  simp only [Bool.and_eq_true, decide_eq_true_eq] at h
  refine ⟨Ev.of K (fun k => impl_points.mono _ _) ?_, h.2⟩
  obtain ⟨b, hb⟩ := Option.isSome_iff_exists.1 h.1
  unfold ptsV
  rw [hb]
def nearOk (n : Int) : Bool :=
  let P := ptsV n
  (List.range (manyI n).toNat).all fun i => (List.range (manyI n).toNat).all fun j =>
    let p := rd_T109 P (i : Int); let q := rd_T109 P (j : Int)
    impl_near.f K p.f0 p.f1 p.f2 q.f0 q.f1 q.f2 == some (nearV i j) && spec_meNear.f K n i j == some (nearV i j)
theorem near_tab : ([1, 2, 3, 4, 5, 6, 7, 8] : List Int).all nearOk = true := by decide +kernel
theorem near_ev {n : Int} (h0 : 1 ≤ n) (h1 : n ≤ 8) {i j : Int} (i0 : 0 ≤ i) (i1 : i < manyI n) (j0 : 0 ≤ j) (j1 : j < manyI n) :
    Ev (fun k => impl_near.f k ((rd_T109 (ptsV n) i).f0) ((rd_T109 (ptsV n) i).f1) ((rd_T109 (ptsV n) i).f2) ((rd_T109 (ptsV n) j).f0) ((rd_T109 (ptsV n) j).f1) ((rd_T109 (ptsV n) j).f2)) (nearV i j) ∧ Ev (fun k => spec_meNear.f k n i j) (nearV i j) := by
  have h := List.all_eq_true.1 near_tab n (by rcases side8 h0 h1 with rfl | rfl | rfl | rfl | rfl | rfl | rfl | rfl <;> decide)
  have h := List.all_eq_true.1 (List.all_eq_true.1 h i.toNat (List.mem_range.2 (by omega))) j.toNat (List.mem_range.2 (by omega))
  rw [Int.toNat_of_nonneg i0, Int.toNat_of_nonneg j0] at h
  simp only [Bool.and_eq_true, beq_iff_eq] at h
  exact ⟨Ev.of K (fun k => impl_near.mono _ _ _ _ _ _ _) h.1, Ev.of K (fun k => spec_meNear.mono _ _ _ _) h.2⟩
end Go.Proofs.Ytckiebdehlcjoaa.Pure
