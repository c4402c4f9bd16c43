/- A part of the proof of the law FnDoorsOfRooms. -/
import Derived.Test.YtckiebdehlcjoaaTFnDoorsOfRooms24
namespace Go.Proofs.Ytckiebdehlcjoaa.Pure
open Go.RowKit Go.Proofs.Ytckiebdehlcjoaa.P Go.Proofs.Ytckiebdehlcjoaa.Own Go.Proofs.YtckiebdehlcjoaaW.PrintWords Go.Proofs.YtckiebdehlcjoaaW.PrintLast
set_option linter.unusedVariables false
set_option linter.unusedSimpArgs false
theorem house_ok {n : Int} {l : List Int} (h : Lb n l) : Ev (fun k => impl_houseOf.f k n l) (n, l, cellsV n, borderV n, true) := by
  unfold impl_houseOf.f
  refine Ev.bind0 (show impl_areLabels.f n l = some (labelsB n l) from rfl) ?_
  rw [h.B]
  exact Ev.pos rfl (Ev.bind (cells_ev n h.n0 h.n1) (Ev.bind (bd h.n0 h.n1).impl_ (Ev.pure rfl)))
theorem house_no {n : Int} {l : List Int} (h : labelsB n l = false) : Ev (fun k => impl_houseOf.f k n l) (0, [], [], [], false) := by
  unfold impl_houseOf.f
  refine Ev.bind0 (show impl_areLabels.f n l = some (labelsB n l) from rfl) ?_
  rw [h]
  exact Ev.neg (by decide) (Ev.pure rfl)
theorem Lb.short {n : Int} {l : List Int} (h : Lb n l) : l.length ≤ 100000 := by have := h.len45; omega
theorem Lb.me {n : Int} {l : List Int} (h : Lb n l) : Ev (fun k => spec_meLabels.f k n l) true := by
  have := meLabels_ev n l h.short
  rwa [h.B] at this
theorem cellW {n : Int} (h0 : 1 ≤ n) (h1 : n ≤ 8) : wrap64 (wrap64 (n * n) - 1) = n * n - 1 := by
  rcases side8 h0 h1 with rfl | rfl | rfl | rfl | rfl | rfl | rfl | rfl <;> exact (by unfold wrap64; decide)
theorem isCell_eq {n : Int} (c : Int) (h0 : 1 ≤ n) (h1 : n ≤ 8) : impl_isCell.f n c = some (inI c 0 (n * n - 1)) := by
  unfold impl_isCell.f
  rw [isSide_eq, Option.bind_some, if_pos (by simp [sideI, inI, h0, h1]), cellW h0 h1, in_eq, Option.bind_some]
theorem doCell_ev {n : Int} {l : List Int} (h : Lb n l) (c : Int) : Ev (fun k => spec_doCell.f k n l c) (inI c 0 (n * n - 1)) := by
  unfold spec_doCell.f
  refine Ev.bind h.me (Ev.pos rfl ?_)
  rw [cellW h.n0 h.n1]
  exact Ev.bind0 (l1In_eq _ _ _) (Ev.pure rfl)
structure Good (n : Int) (l : List Int) (c : Int) : Prop where
  id : Ev (fun k => impl_DoorsOfCell.f k n l c) (doorsC l (rd_L2 (cellsV n) c), true)
  sd : Ev (fun k => spec_DoorsOfCell.f k n l c) (doorsC l (rd_L2 (cellsV n) c), true)
theorem good_cell {n : Int} {l : List Int} (h : Lb n l) {c : Int} (c0 : 0 ≤ c) (c1 : c < n * n) : Good n l c ∧ ∃ x y z, rd_L2 (cellsV n) c = [x, y, z] ∧ (0 ≤ x ∧ x < manyI n) ∧ (0 ≤ y ∧ y < manyI n) ∧ (0 ≤ z ∧ z < manyI n) ∧ nearV x y = true ∧ nearV x z = true ∧ nearV y z = true ∧
    Ev (fun k => impl_IsFull.f k n l c) (fl (rd l x) (rd l y) (rd l z), true) ∧ Ev (fun k => spec_IsFull.f k n l c) (fl (rd l x) (rd l y) (rd l z), true) := by
  have hL := cells_len h.n0 h.n1
  have c1' : c < ((cellsV n).length : Int) := by rw [hL.1]; exact c1
  obtain ⟨x, y, z, e, hx, hy, hz, nxy, nxz, nyz⟩ := cell_mem h.n0 h.n1 (rd_L2_mem c0 c1')
  have hin : inI c 0 (n * n - 1) = true := by unfold inI; simp only [Bool.and_eq_true, decide_eq_true_eq]; omega
  have hc : impl_isCell.f n c = some true := by rw [isCell_eq c h.n0 h.n1, hin]
  have hc' : Ev (fun k => spec_doCell.f k n l c) true := by have := doCell_ev h c; rwa [hin] at this
  have ax := h.at hx
  have ay := h.at hy
  have az := h.at hz
  refine ⟨⟨?_, ?_⟩, x, y, z, e, hx, hy, hz, nxy, nxz, nyz, ?_, ?_⟩
  · unfold impl_DoorsOfCell.f
    refine Ev.bind (house_ok h) (Ev.pos rfl (Ev.bind0 hc (Ev.pos rfl ?_)))
    rw [e]
    exact Ev.bind (house_doors_ev n l (cellsV n) (borderV n) h.v2 c0 c1' e ax ay az) (Ev.pure rfl)
  · unfold spec_DoorsOfCell.f
    refine Ev.bind hc' (Ev.pos rfl (Ev.bind (meCells_ev n h.n0 h.n1) (Ev.pos c0 (Ev.pos c1' ?_))))
    rw [e]
    exact Ev.bind (doOfCell_ev l h.v2 ax ay az) (Ev.pure rfl)
  · unfold impl_IsFull.f
    refine Ev.bind (house_ok h) (Ev.pos rfl (Ev.bind0 hc (Ev.pos rfl ?_)))
    exact Ev.bind0 (isFull_eq n l (cellsV n) (borderV n) h.v2 c0 c1' e ax ay az) (Ev.pure rfl)
  · unfold spec_IsFull.f
    refine Ev.bind hc' (Ev.pos rfl (Ev.bind (meCells_ev n h.n0 h.n1) (Ev.pos c0 (Ev.pos c1' ?_))))
    rw [e]
    exact Ev.bind (doFull_ev l h.v2 ax ay az) (Ev.pure rfl)
theorem bad_cell {n : Int} {l : List Int} {c : Int} (hl : l.length ≤ 100000) (h : ¬ (labelsB n l = true ∧ 0 ≤ c ∧ c < n * n)) :
    Ev (fun k => impl_DoorsOfCell.f k n l c) ([], false) ∧ Ev (fun k => spec_DoorsOfCell.f k n l c) ([], false) ∧ Ev (fun k => impl_IsFull.f k n l c) (false, false) ∧ Ev (fun k => spec_IsFull.f k n l c) (false, false) := by
  cases hB : labelsB n l with
  | false =>
    have hs : Ev (fun k => spec_doCell.f k n l c) false := by
      unfold spec_doCell.f
      have := meLabels_ev n l hl
      rw [hB] at this
      exact Ev.bind this (Ev.neg (by decide) (Ev.pure rfl))
    refine ⟨?_, ?_, ?_, ?_⟩
    · unfold impl_DoorsOfCell.f; exact Ev.bind (house_no hB) (Ev.neg (by decide) (Ev.pure rfl))
    · unfold spec_DoorsOfCell.f; exact Ev.bind hs (Ev.neg (by decide) (Ev.pure rfl))
    · unfold impl_IsFull.f; exact Ev.bind (house_no hB) (Ev.neg (by decide) (Ev.pure rfl))
    · unfold spec_IsFull.f; exact Ev.bind hs (Ev.neg (by decide) (Ev.pure rfl))
  | true =>
    have hb := lb_of hB
    have hin : inI c 0 (n * n - 1) = false := by
      cases hi : inI c 0 (n * n - 1) with
      | false => rfl
      | true => unfold inI at hi; simp only [Bool.and_eq_true, decide_eq_true_eq] at hi; exact absurd ⟨hB, hi.1, by omega⟩ h
    have hc : impl_isCell.f n c = some false := by rw [isCell_eq c hb.n0 hb.n1, hin]
    have hs : Ev (fun k => spec_doCell.f k n l c) false := by have := doCell_ev hb c; rwa [hin] at this
    refine ⟨?_, ?_, ?_, ?_⟩
    · unfold impl_DoorsOfCell.f; exact Ev.bind (house_ok hb) (Ev.pos rfl (Ev.bind0 hc (Ev.neg (by decide) (Ev.pure rfl))))
    · unfold spec_DoorsOfCell.f; exact Ev.bind hs (Ev.neg (by decide) (Ev.pure rfl))
    · unfold impl_IsFull.f; exact Ev.bind (house_ok hb) (Ev.pos rfl (Ev.bind0 hc (Ev.neg (by decide) (Ev.pure rfl))))
    · unfold spec_IsFull.f; exact Ev.bind hs (Ev.neg (by decide) (Ev.pure rfl))
def rowF (l : List Int) (m i j : Nat) : List (List Int) := ((List.range' j (m - j)).filter fun (j : Nat) => nearV i j && dL l i j).map fun (j : Nat) => [(i : Int), (j : Int)]
def allF (l : List Int) (m i : Nat) : List (List Int) := (List.range' i (m - i)).flatMap fun i => rowF l m i (i + 1)
theorem rowF_nil (l : List Int) (m i : Nat) : rowF l m i m = [] := by unfold rowF; simp
theorem rowF_cons (l : List Int) {m i j : Nat} (h : j < m) : rowF l m i j = (if (nearV i j && dL l i j) = true then [[(i : Int), (j : Int)]] else []) ++ rowF l m i (j + 1) := by
  unfold rowF
  obtain ⟨d, hd⟩ : ∃ d, m - j = d + 1 := ⟨m - j - 1, by omega⟩
  rw [hd, show m - (j + 1) = d by omega, List.range'_succ, List.filter_cons]
  split <;> simp
theorem rowF_len (l : List Int) (m i j : Nat) : (rowF l m i j).length ≤ m - j := by
  unfold rowF
  rw [List.length_map]
  exact Nat.le_trans (List.length_filter_le _ _) (by simp)
theorem allF_nil (l : List Int) (m : Nat) : allF l m m = [] := by unfold allF; simp
theorem allF_cons (l : List Int) {m i : Nat} (h : i < m) : allF l m i = rowF l m i (i + 1) ++ allF l m (i + 1) := by
  unfold allF
  obtain ⟨d, hd⟩ : ∃ d, m - i = d + 1 := ⟨m - i - 1, by omega⟩
  rw [hd, show m - (i + 1) = d by omega, List.range'_succ, List.flatMap_cons]
section
variable {n : Int} {l : List Int} (h : Lb n l)
include h
theorem impl_row (i : Nat) (hi : i < l.length) {R : List (List Int) × Bool} : ∀ (d j : Nat), j + d = l.length → ∀ acc : List (List Int), acc.length + d ≤ 1000000 →
    Ev (fun k => impl_DoorsOf.l0 k (acc ++ rowF l l.length i j) (ptsV n) (ptsV n) ((ptsV n).length : Int) (wrap64 ((i : Int) + 1)) n l (cellsV n) (borderV n)) R →
    Ev (fun k => impl_DoorsOf.l1 k acc (ptsV n) (i : Int) (j : Int) (ptsV n) ((ptsV n).length : Int) (i : Int) n l (cellsV n) (borderV n) ((rd_T109 (ptsV n) i).f0) ((rd_T109 (ptsV n) i).f1) ((rd_T109 (ptsV n) i).f2)) R := by
  have hm := (pts_ev h.n0 h.n1).2
  have hlen := h.len
  have h45 := h.len45
  intro d
  induction d with
  | zero =>
    intro j hj acc ha hR
    refine Ev.succ ?_
    simp only [impl_DoorsOf.l1]
    have : j = l.length := by omega
    subst this
    rw [rowF_nil, List.append_nil] at hR
    exact Ev.neg (by omega) hR
  | succ d ih =>
    intro j hj acc ha hR
    refine Ev.succ ?_
    simp only [impl_DoorsOf.l1]
    rw [nat_add1 j (by omega)]
    rw [rowF_cons l (by omega)] at hR
    refine Ev.pos (by omega) (Ev.pos (by omega) (Ev.bind (near_ev h.n0 h.n1 (i := (i : Int)) (j := (j : Int)) (by omega) (by omega) (by omega) (by omega)).1 ?_))
    cases hn : nearV i j with
    | false =>
      rw [hn] at hR
      exact Ev.neg (by decide) (ih (j + 1) (by omega) acc (by omega) (by simpa using hR))
    | true =>
      rw [hn] at hR
      refine Ev.pos rfl (Ev.bind0 (isDoor_eq n l _ _ h.v2 ⟨by omega, by omega⟩ ⟨by omega, by omega⟩) ?_)
      cases hd : dL l i j with
      | false =>
        rw [hd] at hR
        exact Ev.neg (by decide) (ih (j + 1) (by omega) acc (by omega) (by simpa using hR))
      | true =>
        rw [hd] at hR
        exact Ev.pos rfl (Ev.pos (by omega) (ih (j + 1) (by omega) _ (by simp; omega) (by simpa using hR)))
theorem impl_all : ∀ (d i : Nat), i + d = l.length → ∀ acc : List (List Int), acc.length + d * 45 ≤ 100000 →
    Ev (fun k => impl_DoorsOf.l0 k acc (ptsV n) (ptsV n) ((ptsV n).length : Int) (i : Int) n l (cellsV n) (borderV n)) (acc ++ allF l l.length i, true) := by
  have hm := (pts_ev h.n0 h.n1).2
  have hlen := h.len
  have h45 := h.len45
  intro d
  induction d with
  | zero =>
    intro i hi acc ha
    refine Ev.succ ?_
    simp only [impl_DoorsOf.l0]
    have : i = l.length := by omega
    subst this
    rw [allF_nil, List.append_nil]
    exact Ev.neg (by omega) (Ev.pure rfl)
  | succ d ih =>
    intro i hi acc ha
    refine Ev.succ ?_
    simp only [impl_DoorsOf.l0]
    refine Ev.pos (by omega) (Ev.pos (by omega) (Ev.pos (by omega) ?_))
    rw [nat_add1 i (by omega)]
    refine impl_row h i (by omega) (l.length - (i + 1)) (i + 1) (by omega) acc (by omega) ?_
    rw [nat_add1 i (by omega), allF_cons l (by omega), ← List.append_assoc]
    have := rowF_len l l.length i (i + 1)
    exact ih (i + 1) (by omega) _ (by rw [List.length_append]; omega)
theorem spec_row (i : Nat) (hi : i < l.length) {R : List (List Int) × Bool} : ∀ (d j : Nat), j + d = l.length → ∀ acc : List (List Int), acc.length + d ≤ 1000000 →
    Ev (fun k => spec_DoorsOf.l0 k n l (acc ++ rowF l l.length i j) (l.length : Int) (wrap64 ((i : Int) + 1))) R →
    Ev (fun k => spec_DoorsOf.l1 k n l acc (i : Int) (j : Int) (l.length : Int) (i : Int)) R := by
  have hlen := h.len
  have h45 := h.len45
  intro d
  induction d with
  | zero =>
    intro j hj acc ha hR
    refine Ev.succ ?_
    simp only [spec_DoorsOf.l1]
    have : j = l.length := by omega
    subst this
    rw [rowF_nil, List.append_nil] at hR
    exact Ev.neg (by omega) hR
  | succ d ih =>
    intro j hj acc ha hR
    refine Ev.succ ?_
    simp only [spec_DoorsOf.l1]
    rw [nat_add1 j (by omega)]
    rw [rowF_cons l (by omega)] at hR
    refine Ev.pos (by omega) (Ev.bind (near_ev h.n0 h.n1 (i := (i : Int)) (j := (j : Int)) (by omega) (by omega) (by omega) (by omega)).2 ?_)
    cases hn : nearV i j with
    | false =>
      rw [hn] at hR
      exact Ev.neg (by decide) (ih (j + 1) (by omega) acc (by omega) (by simpa using hR))
    | true =>
      rw [hn] at hR
      refine Ev.pos rfl (Ev.bind0 (doDoor_eq l h.v2 ⟨by omega, by omega⟩ ⟨by omega, by omega⟩) ?_)
      cases hd : dL l i j with
      | false =>
        rw [hd] at hR
        exact Ev.neg (by decide) (ih (j + 1) (by omega) acc (by omega) (by simpa using hR))
      | true =>
        rw [hd] at hR
        exact Ev.pos rfl (Ev.pos (by omega) (ih (j + 1) (by omega) _ (by simp; omega) (by simpa using hR)))
theorem spec_all : ∀ (d i : Nat), i + d = l.length → ∀ acc : List (List Int), acc.length + d * 45 ≤ 100000 →
    Ev (fun k => spec_DoorsOf.l0 k n l acc (l.length : Int) (i : Int)) (acc ++ allF l l.length i, true) := by
  have hlen := h.len
  have h45 := h.len45
  intro d
  induction d with
  | zero =>
    intro i hi acc ha
    refine Ev.succ ?_
    simp only [spec_DoorsOf.l0]
    have : i = l.length := by omega
    subst this
    rw [allF_nil, List.append_nil]
    exact Ev.neg (by omega) (Ev.pure rfl)
  | succ d ih =>
    intro i hi acc ha
    refine Ev.succ ?_
    simp only [spec_DoorsOf.l0]
    refine Ev.pos (by omega) ?_
    rw [nat_add1 i (by omega)]
    refine spec_row h i (by omega) (l.length - (i + 1)) (i + 1) (by omega) acc (by omega) ?_
    rw [nat_add1 i (by omega), allF_cons l (by omega), ← List.append_assoc]
    have := rowF_len l l.length i (i + 1)
    exact ih (i + 1) (by omega) _ (by rw [List.length_append]; omega)
theorem doorsOf_ok : Ev (fun k => impl_DoorsOf.f k n l) (allF l l.length 0, true) ∧ Ev (fun k => spec_DoorsOf.f k n l) (allF l l.length 0, true) := by
  have h45 := h.len45
  constructor
  · unfold impl_DoorsOf.f
    refine Ev.bind (house_ok h) (Ev.pos rfl (Ev.bind (pts_ev h.n0 h.n1).1 ?_))
    exact impl_all h l.length 0 (by omega) [] (by simp; omega)
  · unfold spec_DoorsOf.f
    refine Ev.bind h.me (Ev.pos rfl ?_)
    exact spec_all h l.length 0 (by omega) [] (by simp; omega)
end
theorem doorsOf_no {n : Int} {l : List Int} (hl : l.length ≤ 100000) (h : labelsB n l = false) : Ev (fun k => impl_DoorsOf.f k n l) ([], false) ∧ Ev (fun k => spec_DoorsOf.f k n l) ([], false) := by
  have := meLabels_ev n l hl
  rw [h] at this
  constructor
  · unfold impl_DoorsOf.f; exact Ev.bind (house_no h) (Ev.neg (by decide) (Ev.pure rfl))
  · unfold spec_DoorsOf.f; exact Ev.bind this (Ev.neg (by decide) (Ev.pure rfl))
def stepP (B : List Int) (i : Nat) : List Int := [rd B i, rd B (Int.tmod (wrap64 ((i : Int) + 1)) (B.length : Int))]
theorem dP_pair (l : List Int) (a b : Int) : dP l [a, b] = dL l a b := rfl
theorem rd_p0 (a b : Int) : rd [a, b] 0 = a := rfl
theorem rd_p1 (a b : Int) : rd [a, b] 1 = b := rfl
def stV (n : Int) : List (List Int) := (List.range (borderV n).length).map (stepP (borderV n))
theorem steps_l (l : List Int) (C : List (List Int)) (B : List Int) : ∀ k acc xs len i n, impl_house_steps.l0 k acc xs len i n l C B = impl_house_steps.l0 k acc xs len i 0 [] [] B := by
  intro k
  induction k with
  | zero => intros; simp only [impl_house_steps.l0]
  | succ k ih =>
    intro acc xs len i n
    simp only [impl_house_steps.l0]
    rw [ih]
theorem st_tab : ([1, 2, 3, 4, 5, 6, 7, 8] : List Int).all (fun n => impl_house_steps.f K 0 [] [] (borderV n) == some (stV n) && (stV n).all (fun s => match s with | [a, b] => decide (0 ≤ a) && decide (a < manyI n) && decide (0 ≤ b) && decide (b < manyI n) | _ => false) && decide ((stV n).length ≤ 100) &&
    (List.range (borderV n).length).all (fun i => let j := Int.tmod (wrap64 ((i : Int) + 1)) ((borderV n).length : Int); decide (0 ≤ j) && decide (j < ((borderV n).length : Int)))) = true := by decide +kernel
structure St (n : Int) : Prop where
  ev : ∀ (l : List Int) (C : List (List Int)), Ev (fun k => impl_house_steps.f k n l C (borderV n)) (stV n)
  vals : ∀ s ∈ stV n, ∃ a b, s = [a, b] ∧ (0 ≤ a ∧ a < manyI n) ∧ (0 ≤ b ∧ b < manyI n)
  len : (stV n).length ≤ 100
  ix : ∀ i : Nat, i < (borderV n).length → 0 ≤ Int.tmod (wrap64 ((i : Int) + 1)) ((borderV n).length : Int) ∧ Int.tmod (wrap64 ((i : Int) + 1)) ((borderV n).length : Int) < ((borderV n).length : Int)
theorem st {n : Int} (h0 : 1 ≤ n) (h1 : n ≤ 8) : St n := by
  have h := List.all_eq_true.1 st_tab n (by rcases side8 h0 h1 with rfl | rfl | rfl | rfl | rfl | rfl | rfl | rfl <;> decide)
  simp only [Bool.and_eq_true, beq_iff_eq, decide_eq_true_eq] at h
  obtain ⟨⟨⟨a, b⟩, c⟩, d⟩ := h
  refine ⟨?_, ?_, c, ?_⟩
  · intro l C
    have : Ev (fun k => impl_house_steps.f k 0 [] [] (borderV n)) (stV n) := Ev.of K (fun k => impl_house_steps.mono _ _ _ _ _) a
    refine Ev.eq this fun k => ?_
    unfold impl_house_steps.f
    rw [steps_l]
  · intro s hs
    have := List.all_eq_true.1 b s hs
    split at this
    · rename_i x y
      simp only [Bool.and_eq_true, decide_eq_true_eq] at this
      exact ⟨x, y, rfl, ⟨this.1.1.1, this.1.1.2⟩, ⟨this.1.2, this.2⟩⟩
    · cases this
  · intro i hi
    have := List.all_eq_true.1 d i (List.mem_range.2 hi)
    simpa only [Bool.and_eq_true, decide_eq_true_eq] using this
theorem doBorder_l0 (l : List Int) (hl : V2 l) (B : List Int) (hlen : B.length ≤ 1000) (ix : ∀ i : Nat, i < B.length → 0 ≤ Int.tmod (wrap64 ((i : Int) + 1)) (B.length : Int) ∧ Int.tmod (wrap64 ((i : Int) + 1)) (B.length : Int) < (B.length : Int))
    (hat : ∀ i : Nat, i < B.length → At l (rd B i) ∧ At l (rd B (Int.tmod (wrap64 ((i : Int) + 1)) (B.length : Int)))) : ∀ m i : Nat, i + m = B.length → ∀ acc : List (List Int), acc.length ≤ i →
    Ev (fun k => spec_doBorder.l0 k l B acc B (B.length : Int) (i : Int)) (acc ++ ((List.range' i m).map (stepP B)).filter (dP l)) := by
  intro m
  induction m with
  | zero =>
    intro i hi acc ha
    refine Ev.succ ?_
    simp only [spec_doBorder.l0]
    exact Ev.neg (by omega) (Ev.pure (by simp))
  | succ m ih =>
    intro i hi acc ha
    refine Ev.succ ?_
    simp only [spec_doBorder.l0]
    rw [List.range'_succ, List.map_cons, List.filter_cons]
    obtain ⟨i0, i1⟩ := ix i (by omega)
    obtain ⟨a2, a3⟩ := hat i (by omega)
    refine Ev.pos (by omega) (Ev.pos (by omega) (Ev.pos (by omega) (Ev.neg (by omega) (Ev.pos i0 (Ev.pos i1 (Ev.bind0 (doDoor_eq l hl a2 a3) ?_))))))
    have hs : stepP B i = [rd B i, rd B (Int.tmod (wrap64 ((i : Int) + 1)) (B.length : Int))] := stepP.eq_1 B i
    have hp : dP l (stepP B i) = dL l (rd B i) (rd B (Int.tmod (wrap64 ((i : Int) + 1)) (B.length : Int))) := by rw [hs]; exact dP_pair _ _ _
    rw [hp]
    cases hd : dL l (rd B i) (rd B (Int.tmod (wrap64 ((i : Int) + 1)) (B.length : Int))) with
    | true =>
      have := ih (i + 1) (by omega) (acc ++ [stepP B i]) (by simp; omega)
      rw [hs] at this ⊢
      rw [← nat_add1 i (by omega)] at this
      exact Ev.pos rfl (Ev.pos (by omega) (by simpa using this))
    | false =>
      have := ih (i + 1) (by omega) acc (by omega)
      rw [← nat_add1 i (by omega)] at this
      exact Ev.neg (by decide) (by simpa using this)
def bordV (n : Int) (l : List Int) : List (List Int) := (stV n).filter (dP l)
section
variable {n : Int} {l : List Int} (h : Lb n l)
include h
theorem st_at {s : List Int} (hs : s ∈ stV n) : 1 < s.length ∧ At l (rd s 0) ∧ At l (rd s 1) := by
  obtain ⟨a, b, rfl, ha, hb⟩ := (st h.n0 h.n1).vals s hs
  exact ⟨by simp, h.at ha, h.at hb⟩
theorem entries_ev : Ev (fun k => impl_house_entries.f k n l (cellsV n) (borderV n)) (bordV n l) := by
  have e : ∀ s ∈ stV n, entB n l (cellsV n) (borderV n) s = some (dP l s) := by
    intro s hs
    obtain ⟨a, b, c⟩ := st_at h hs
    unfold entB
    rw [if_pos a]
    exact isDoor_eq n l _ _ h.v2 b c
  unfold impl_house_entries.f
  refine Ev.bind ((st h.n0 h.n1).ev l (cellsV n)) (Ev.pos ?_ (Ev.pure ?_))
  · rw [List.all_eq_true]
    intro s hs
    rw [e s hs]; rfl
  · unfold bordV
    congr 1
    refine List.filter_congr fun s hs => ?_
    rw [e s hs]
    cases dP l s <;> rfl
theorem doBorder_ev : Ev (fun k => spec_doBorder.f k n l) (bordV n l) := by
  have hS := st h.n0 h.n1
  have hb := (bd h.n0 h.n1).len
  have := h.n0
  have := h.n1
  have hat : ∀ i : Nat, i < (borderV n).length → At l (rd (borderV n) i) ∧ At l (rd (borderV n) (Int.tmod (wrap64 ((i : Int) + 1)) ((borderV n).length : Int))) := by
    intro i hi
    have hm : stepP (borderV n) i ∈ stV n := List.mem_map.2 ⟨i, List.mem_range.2 hi, rfl⟩
    obtain ⟨a1, a2, a3⟩ := st_at h hm
    rw [stepP.eq_1, rd_p0] at a2
    rw [stepP.eq_1, rd_p1] at a3
    exact ⟨a2, a3⟩
  unfold spec_doBorder.f
  refine Ev.bind (bd h.n0 h.n1).spec_ ?_
  have := doBorder_l0 l h.v2 (borderV n) (by omega) hS.ix hat (borderV n).length 0 (by omega) [] (by simp)
  unfold bordV stV
  rw [List.range_eq_range']
  simpa using this
theorem borderDoors_ok : Ev (fun k => impl_BorderDoors.f k n l) (bordV n l, true) ∧ Ev (fun k => spec_BorderDoors.f k n l) (bordV n l, true) := by
  constructor
  · unfold impl_BorderDoors.f
    exact Ev.bind (house_ok h) (Ev.pos rfl (Ev.bind (entries_ev h) (Ev.pure rfl)))
  · unfold spec_BorderDoors.f
    exact Ev.bind h.me (Ev.pos rfl (Ev.bind (doBorder_ev h) (Ev.pure rfl)))
end
theorem borderDoors_no {n : Int} {l : List Int} (hl : l.length ≤ 100000) (h : labelsB n l = false) : Ev (fun k => impl_BorderDoors.f k n l) ([], false) ∧ Ev (fun k => spec_BorderDoors.f k n l) ([], false) := by
  have := meLabels_ev n l hl
  rw [h] at this
  constructor
  · unfold impl_BorderDoors.f; exact Ev.bind (house_no h) (Ev.neg (by decide) (Ev.pure rfl))
  · unfold spec_BorderDoors.f; exact Ev.bind this (Ev.neg (by decide) (Ev.pure rfl))
theorem mePoint_eq {n : Int} (i : Int) (h0 : 1 ≤ n) (h1 : n ≤ 8) : spec_mePoint.f n i = some (inI i 0 (manyI n - 1)) := by
  have hb := many_bd n h0 h1
  unfold spec_mePoint.f
  rw [meSide_eq, Option.bind_some, if_pos (by simp [sideI, inI, h0, h1]), meCount_eq h0 h1, Option.bind_some, wrap64_id (by omega) (by omega), l1In_eq, Option.bind_some]
theorem isDoor_ok {n : Int} {l : List Int} (h : Lb n l) {i j : Int} (hi : 0 ≤ i ∧ i < manyI n) (hj : 0 ≤ j ∧ j < manyI n) :
    ∃ R, Ev (fun k => impl_IsDoor.f k n l i j) R ∧ Ev (fun k => spec_IsDoor.f k n l i j) R ∧ (nearV i j = true → R = (dL l i j, true)) := by
  have hp := pts_ev h.n0 h.n1
  have qi : inI i 0 (manyI n - 1) = true := by unfold inI; simp only [Bool.and_eq_true, decide_eq_true_eq]; omega
  have qj : inI j 0 (manyI n - 1) = true := by unfold inI; simp only [Bool.and_eq_true, decide_eq_true_eq]; omega
  have hs : sideI n = true := by simp [sideI, inI, h.n0, h.n1]
  have hpt : pointB n [i, j] = true := by unfold pointB; simp [hs, qi, qj]
  have hne := near_ev h.n0 h.n1 hi.1 hi.2 hj.1 hj.2
  refine ⟨if nearV i j = true then (dL l i j, true) else (false, false), ?_, ?_, fun e => if_pos e⟩
  · unfold impl_IsDoor.f
    refine Ev.bind (house_ok h) (Ev.pos rfl (Ev.bind0 (show impl_isPoint.f n [i, j] = some (pointB n [i, j]) from rfl) ?_))
    rw [hpt]
    refine Ev.succ ?_
    simp only [impl_IsDoor.j0]
    refine Ev.neg (by decide) (Ev.bind hp.1 (Ev.pos hi.1 (Ev.pos (by omega) (Ev.pos hj.1 (Ev.pos (by omega) (Ev.bind hne.1 ?_))))))
    cases hn : nearV i j with
    | false => exact Ev.neg (by decide) (Ev.pure rfl)
    | true => exact Ev.pos rfl (Ev.bind0 (isDoor_eq n l _ _ h.v2 (h.at hi) (h.at hj)) (Ev.pure rfl))
  · unfold spec_IsDoor.f
    have : Ev (fun k => spec_doPair.f k n l i j) (nearV i j) := by
      unfold spec_doPair.f
      refine Ev.bind h.me (Ev.pos rfl (Ev.bind0 ((mePoint_eq i h.n0 h.n1).trans (by rw [qi])) (Ev.pos rfl (Ev.bind0 ((mePoint_eq j h.n0 h.n1).trans (by rw [qj])) (Ev.pos rfl (Ev.bind hne.2 (Ev.pure rfl)))))))
    refine Ev.bind this ?_
    cases hn : nearV i j with
    | false => exact Ev.neg (by decide) (Ev.pure rfl)
    | true => exact Ev.pos rfl (Ev.bind0 (doDoor_eq l h.v2 (h.at hi) (h.at hj)) (Ev.pure rfl))
theorem isDoor_both {n : Int} {l : List Int} (hl : l.length ≤ 100000) (i j : Int) : ∃ R, Ev (fun k => impl_IsDoor.f k n l i j) R ∧ Ev (fun k => spec_IsDoor.f k n l i j) R := by
  cases hB : labelsB n l with
  | false =>
    have hm := meLabels_ev n l hl
    rw [hB] at hm
    refine ⟨(false, false), ?_, ?_⟩
    · unfold impl_IsDoor.f
      refine Ev.bind (house_no hB) (Ev.neg (by decide) ?_)
      refine Ev.succ ?_
      simp only [impl_IsDoor.j0]
      exact Ev.pos (by trivial) (Ev.pure rfl)
    · unfold spec_IsDoor.f spec_doPair.f
      exact Ev.bind (Ev.bind hm (Ev.neg (by decide) (Ev.pure rfl))) (Ev.neg (by decide) (Ev.pure rfl))
  | true =>
    have h := lb_of hB
    have hs : sideI n = true := by simp [sideI, inI, h.n0, h.n1]
    by_cases hc : inI i 0 (manyI n - 1) = true ∧ inI j 0 (manyI n - 1) = true
    · have hi : 0 ≤ i ∧ i < manyI n := by have := hc.1; unfold inI at this; simp only [Bool.and_eq_true, decide_eq_true_eq] at this; omega
      have hj : 0 ≤ j ∧ j < manyI n := by have := hc.2; unfold inI at this; simp only [Bool.and_eq_true, decide_eq_true_eq] at this; omega
      obtain ⟨R, a, b, _⟩ := isDoor_ok h hi hj
      exact ⟨R, a, b⟩
    · refine ⟨(false, false), ?_, ?_⟩
      · have hpt : pointB n [i, j] = false := by
          unfold pointB
          cases h1 : inI i 0 (manyI n - 1) <;> cases h2 : inI j 0 (manyI n - 1) <;> simp_all
        unfold impl_IsDoor.f
        refine Ev.bind (house_ok h) (Ev.pos rfl (Ev.bind0 (show impl_isPoint.f n [i, j] = some (pointB n [i, j]) from rfl) ?_))
        rw [hpt]
        refine Ev.succ ?_
        simp only [impl_IsDoor.j0]
        exact Ev.pos (by trivial) (Ev.pure rfl)
      · have : Ev (fun k => spec_doPair.f k n l i j) false := by
          unfold spec_doPair.f
          refine Ev.bind h.me (Ev.pos rfl (Ev.bind0 (mePoint_eq i h.n0 h.n1) ?_))
          cases h1 : inI i 0 (manyI n - 1) with
          | false => exact Ev.neg (by decide) (Ev.pure rfl)
          | true =>
            refine Ev.pos rfl (Ev.bind0 (mePoint_eq j h.n0 h.n1) ?_)
            cases h2 : inI j 0 (manyI n - 1) with
            | false => exact Ev.neg (by decide) (Ev.pure rfl)
            | true => exact absurd ⟨h1, h2⟩ hc
        unfold spec_IsDoor.f
        exact Ev.bind this (Ev.neg (by decide) (Ev.pure rfl))
end Go.Proofs.Ytckiebdehlcjoaa.Pure
