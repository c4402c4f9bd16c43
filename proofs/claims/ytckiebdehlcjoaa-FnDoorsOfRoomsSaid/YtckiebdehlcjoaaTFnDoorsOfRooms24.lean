/- A part of the proof of the law FnDoorsOfRooms. -/
import Derived.Test.YtckiebdehlcjoaaTFnDoorsOfRooms23
namespace Go.Proofs.Ytckiebdehlcjoaa.Pure
open Go.RowKit Go.Proofs.Ytckiebdehlcjoaa.P Go.Proofs.Ytckiebdehlcjoaa.Own Go.Proofs.YtckiebdehlcjoaaW.PrintWords Go.Proofs.YtckiebdehlcjoaaW.PrintLast
set_option linter.unusedVariables false
set_option linter.unusedSimpArgs false
def dB (x y : Int) : Bool := x + y == 1
def dL (l : List Int) (a b : Int) : Bool := dB (rd l a) (rd l b)
def dP (l : List Int) (s : List Int) : Bool := dL l (rd s 0) (rd s 1)
def V2 (l : List Int) : Prop := ∀ x ∈ l, 0 ≤ x ∧ x ≤ 2
def At (l : List Int) (a : Int) : Prop := 0 ≤ a ∧ a < (l.length : Int)
theorem isDoor_eq (n : Int) (l : List Int) (C : List (List Int)) (B : List Int) {a b : Int} (hl : V2 l) (ha : At l a) (hb : At l b) : impl_house_isDoor.f n l C B a b = some (dL l a b) := by
  unfold impl_house_isDoor.f dL dB
  rw [if_pos ha.1, if_pos ha.2, if_pos hb.1, if_pos hb.2]
  have h1 := hl _ (rd_mem_of ha.1 ha.2)
  have h2 := hl _ (rd_mem_of hb.1 hb.2)
  generalize rd l a = x at *
  generalize rd l b = y at *
  obtain rfl | rfl | rfl : x = 0 ∨ x = 1 ∨ x = 2 := by omega
  all_goals obtain rfl | rfl | rfl : y = 0 ∨ y = 1 ∨ y = 2 := by omega
  all_goals decide
theorem doDoor_eq (l : List Int) {a b : Int} (hl : V2 l) (ha : At l a) (hb : At l b) : spec_doDoor.f l a b = some (dL l a b) := by
  unfold spec_doDoor.f dL dB
  rw [if_pos ha.1, if_pos ha.2, if_pos hb.1, if_pos hb.2]
  have h1 := hl _ (rd_mem_of ha.1 ha.2)
  have h2 := hl _ (rd_mem_of hb.1 hb.2)
  rw [wrap64_id (by omega) (by omega)]
def cellB (n : Int) (c : List Int) : Bool := match c with
  | [x, y, z] => decide (0 ≤ x) && decide (x < manyI n) && decide (0 ≤ y) && decide (y < manyI n) && decide (0 ≤ z) && decide (z < manyI n) && nearV x y && nearV x z && nearV y z
  | _ => false
theorem cells_tab : ([1, 2, 3, 4, 5, 6, 7, 8] : List Int).all (fun n => decide (((cellsV n).length : Int) = n * n) && decide ((cellsV n).length ≤ 64) && (cellsV n).all (cellB n)) = true := by decide +kernel
theorem cells_len {n : Int} (h0 : 1 ≤ n) (h1 : n ≤ 8) : ((cellsV n).length : Int) = n * n ∧ (cellsV n).length ≤ 64 := by
  have h := List.all_eq_true.1 cells_tab n (by rcases side8 h0 h1 with rfl | rfl | rfl | rfl | rfl | rfl | rfl | rfl <;> decide)
  simp only [Bool.and_eq_true, decide_eq_true_eq] at h
  exact h.1
theorem cell_mem {n : Int} (h0 : 1 ≤ n) (h1 : n ≤ 8) {c : List Int} (hc : c ∈ cellsV n) : ∃ x y z, c = [x, y, z] ∧ (0 ≤ x ∧ x < manyI n) ∧ (0 ≤ y ∧ y < manyI n) ∧ (0 ≤ z ∧ z < manyI n) ∧ nearV x y = true ∧ nearV x z = true ∧ nearV y z = true := by
  have h := List.all_eq_true.1 cells_tab n (by rcases side8 h0 h1 with rfl | rfl | rfl | rfl | rfl | rfl | rfl | rfl <;> decide)
  simp only [Bool.and_eq_true] at h
  have h := List.all_eq_true.1 h.2 c hc
  unfold cellB at h
  split at h
  · rename_i x y z
    simp only [Bool.and_eq_true, decide_eq_true_eq] at h
    exact ⟨x, y, z, rfl, ⟨h.1.1.1.1.1.1.1.1, h.1.1.1.1.1.1.1.2⟩, ⟨h.1.1.1.1.1.1.2, h.1.1.1.1.1.2⟩, ⟨h.1.1.1.1.2, h.1.1.1.2⟩, h.1.1.2, h.1.2, h.2⟩
  · cases h
theorem Lb.v2 {n : Int} {l : List Int} (h : Lb n l) : V2 l := h.vals
theorem Lb.at {n : Int} {l : List Int} (h : Lb n l) {a : Int} (ha : 0 ≤ a ∧ a < manyI n) : At l a := ⟨ha.1, by rw [h.len]; exact ha.2⟩
def pairsC (c : List Int) : List (List Int) := [[rd c 0, rd c 1], [rd c 0, rd c 2], [rd c 1, rd c 2]]
def doorsC (l c : List Int) : List (List Int) := (pairsC c).filter (dP l)
theorem doors_l0 (n : Int) (l : List Int) (C : List (List Int)) (B : List Int) (hl : V2 l) (ys : List (List Int)) (hy : ∀ s ∈ ys, 1 < s.length ∧ At l (rd s 0) ∧ At l (rd s 1)) (hlen : ys.length ≤ 1000) :
    ∀ m i : Nat, i + m = ys.length → ∀ acc : List (List Int), acc.length ≤ i → Ev (fun k => impl_house_doors.l0 k acc ys (ys.length : Int) (i : Int) n l C B) (acc ++ (ys.drop i).filter (dP l)) := by
  intro m
  induction m with
  | zero =>
    intro i hi acc ha
    refine Ev.succ ?_
    simp only [impl_house_doors.l0]
    rw [List.drop_eq_nil_of_le (by omega)]
    exact Ev.neg (by omega) (Ev.pure (by simp))
  | succ m ih =>
    intro i hi acc ha
    refine Ev.succ ?_
    simp only [impl_house_doors.l0]
    rw [nat_add1 i (by omega), drop_L2 ys i (by omega), List.filter_cons]
    obtain ⟨y1, y2, y3⟩ := hy _ (rd_L2_mem (l := ys) (i := (i : Int)) (by omega) (by omega))
    refine Ev.pos (by omega) (Ev.pos (by omega) (Ev.pos (by omega) (Ev.pos (by omega) (Ev.pos (by omega) (Ev.bind0 (isDoor_eq n l C B hl y2 y3) ?_)))))
    have hp : dP l (rd_L2 ys i) = dL l (rd (rd_L2 ys i) 0) (rd (rd_L2 ys i) 1) := rfl
    rw [hp]
    cases hd : dL l (rd (rd_L2 ys i) 0) (rd (rd_L2 ys i) 1) with
    | true =>
      refine Ev.pos rfl (Ev.pos (by omega) ?_)
      have := ih (i + 1) (by omega) (acc ++ [rd_L2 ys i]) (by simp; omega)
      simpa using this
    | false =>
      refine Ev.neg (by decide) ?_
      have := ih (i + 1) (by omega) acc (by omega)
      simpa using this
theorem pairs_at {l : List Int} {x y z : Int} (hx : At l x) (hy : At l y) (hz : At l z) : ∀ s ∈ pairsC [x, y, z], 1 < s.length ∧ At l (rd s 0) ∧ At l (rd s 1) := by
  intro s hs
  have : s = [x, y] ∨ s = [x, z] ∨ s = [y, z] := by
    have : pairsC [x, y, z] = [[x, y], [x, z], [y, z]] := rfl
    rw [this] at hs
    simpa using hs
  rcases this with rfl | rfl | rfl
  · exact ⟨by simp, hx, hy⟩
  · exact ⟨by simp, hx, hz⟩
  · exact ⟨by simp, hy, hz⟩
theorem house_doors_ev (n : Int) (l : List Int) (C : List (List Int)) (B : List Int) (hl : V2 l) {c x y z : Int} (c0 : 0 ≤ c) (c1 : c < (C.length : Int)) (e : rd_L2 C c = [x, y, z]) (hx : At l x) (hy : At l y) (hz : At l z) :
    Ev (fun k => impl_house_doors.f k n l C B c) (doorsC l [x, y, z]) := by
  unfold impl_house_doors.f
  simp only [e]
  refine Ev.pos c0 (Ev.pos c1 (Ev.pos (by simp) (Ev.pos (by simp) (Ev.pos (by simp) (Ev.bind0 rfl ?_)))))
  exact doors_l0 n l C B hl (pairsC [x, y, z]) (pairs_at hx hy hz) (show 3 ≤ 1000 by decide) 3 0 rfl [] (by simp)
theorem w01 : wrap64 (0 + 1) = 1 := wrap64_id (by decide) (by decide)
theorem w12 : wrap64 (1 + 1) = 2 := wrap64_id (by decide) (by decide)
theorem w23 : wrap64 (2 + 1) = 3 := wrap64_id (by decide) (by decide)
theorem doOfCell_l1 (l : List Int) (hl : V2 l) (x1 x10 : List Int) (x11 x12 : Int) {a : Int} (ha : At l a) (q : List Int) (hq : ∀ b ∈ q, At l b) (hlen : q.length ≤ 1000) {R : List (List Int)} :
    ∀ m j : Nat, j + m = q.length → ∀ acc : List (List Int), acc.length ≤ 100000 + j → Ev (fun k => spec_doOfCell.l0 k l x1 (acc ++ ((q.drop j).filter (dL l a)).map fun b => [a, b]) x10 x11 (wrap64 (x12 + 1))) R →
    Ev (fun k => spec_doOfCell.l1 k l x1 acc a x10 x11 x12 q (q.length : Int) (j : Int)) R := by
  intro m
  induction m with
  | zero =>
    intro j hj acc ha2 hR
    refine Ev.succ ?_
    simp only [spec_doOfCell.l1]
    rw [List.drop_eq_nil_of_le (by omega)] at hR
    exact Ev.neg (by omega) (by simpa using hR)
  | succ m ih =>
    intro j hj acc ha2 hR
    refine Ev.succ ?_
    simp only [spec_doOfCell.l1]
    rw [nat_add1 j (by omega)]
    rw [drop_rd q j (by omega), List.filter_cons] at hR
    refine Ev.pos (by omega) (Ev.pos (by omega) (Ev.pos (by omega) (Ev.bind0 (doDoor_eq l hl ha (hq _ (rd_mem_of (by omega) (by omega)))) ?_)))
    cases hd : dL l a (rd q j) with
    | true =>
      rw [hd] at hR
      refine Ev.pos rfl (Ev.pos (by omega) ?_)
      exact ih (j + 1) (by omega) _ (by simp; omega) (by simpa using hR)
    | false =>
      rw [hd] at hR
      refine Ev.neg (by decide) ?_
      exact ih (j + 1) (by omega) _ (by omega) (by simpa using hR)
theorem doOfCell_ev (l : List Int) (hl : V2 l) {x y z : Int} (hx : At l x) (hy : At l y) (hz : At l z) : Ev (fun k => spec_doOfCell.f k l [x, y, z]) (doorsC l [x, y, z]) := by
  unfold spec_doOfCell.f
  have hxy : ∀ b ∈ [y, z], At l b := by intro b hb; simp at hb; rcases hb with rfl | rfl <;> assumption
  have hzz : ∀ b ∈ [z], At l b := by intro b hb; simp at hb; subst hb; assumption
  refine Ev.succ ?_
  simp only [spec_doOfCell.l0, w01, w12, w23, List.length_cons, List.length_nil]
  refine Ev.pos (by decide) (Ev.pos (by decide) (Ev.pos (by decide) (Ev.pos (by decide) (Ev.pos (by decide) ?_))))
  refine doOfCell_l1 l hl [x, y, z] [x, y, z] 3 0 hx [y, z] hxy (by simp) 2 0 rfl [] (by simp) ?_
  refine Ev.succ ?_
  simp only [spec_doOfCell.l0, w01, w12, w23, List.length_cons, List.length_nil]
  refine Ev.pos (by decide) (Ev.pos (by decide) (Ev.pos (by decide) (Ev.pos (by decide) (Ev.pos (by decide) ?_))))
  refine doOfCell_l1 l hl [x, y, z] [x, y, z] 3 1 hy [z] hzz (by simp) 1 0 rfl _ ?_ ?_
  · simp only [List.nil_append, List.length_map]
    exact Nat.le_trans (List.length_filter_le _ _) (by simp)
  refine Ev.succ ?_
  simp only [spec_doOfCell.l0, w01, w12, w23, List.length_cons, List.length_nil]
  refine Ev.pos (by decide) (Ev.pos (by decide) (Ev.pos (by decide) (Ev.pos (by decide) (Ev.pos (by decide) ?_))))
  refine doOfCell_l1 l hl [x, y, z] [x, y, z] 3 2 hz [] (by simp) (by simp) 0 0 rfl _ ?_ ?_
  · simp only [List.nil_append, List.length_append, List.length_map]
    have h1 := List.length_filter_le (dL l x) (List.drop 0 [y, z])
    have h2 := List.length_filter_le (dL l y) (List.drop 0 [z])
    simp at h1 h2 ⊢
    omega
  refine Ev.succ ?_
  simp only [spec_doOfCell.l0, w01, w12, w23, List.length_cons, List.length_nil]
  refine Ev.neg (by decide) (Ev.pure ?_)
  unfold doorsC pairsC dP
  show some _ = some (List.filter _ [[x, y], [x, z], [y, z]])
  have r1 : rd [x, y] 0 = x ∧ rd [x, y] 1 = y ∧ rd [x, z] 0 = x ∧ rd [x, z] 1 = z ∧ rd [y, z] 0 = y ∧ rd [y, z] 1 = z := ⟨rfl, rfl, rfl, rfl, rfl, rfl⟩
  simp only [List.drop_zero, List.filter_cons, List.filter_nil, r1.1, r1.2.1, r1.2.2.1, r1.2.2.2.1, r1.2.2.2.2.1, r1.2.2.2.2.2]
  cases dL l x y <;> cases dL l x z <;> cases dL l y z <;> rfl
def fl (a b c : Int) : Bool := a != b && b != c && a != c
theorem isFull_eq (n : Int) (l : List Int) (C : List (List Int)) (B : List Int) (hl : V2 l) {c x y z : Int} (c0 : 0 ≤ c) (c1 : c < (C.length : Int)) (e : rd_L2 C c = [x, y, z]) (hx : At l x) (hy : At l y) (hz : At l z) :
    impl_house_isFull.f n l C B c = some (fl (rd l x) (rd l y) (rd l z)) := by
  have r3 : rd [x, y, z] 0 = x ∧ rd [x, y, z] 1 = y ∧ rd [x, y, z] 2 = z := ⟨rfl, rfl, rfl⟩
  have h1 := hl _ (rd_mem_of hx.1 hx.2)
  have h2 := hl _ (rd_mem_of hy.1 hy.2)
  have h3 := hl _ (rd_mem_of hz.1 hz.2)
  unfold impl_house_isFull.f
  simp only [e, r3.1, r3.2.1, r3.2.2]
  rw [if_pos c0, if_pos c1, if_pos (by simp), if_pos hx.1, if_pos hx.2, if_pos h1.1, if_pos (by simp), if_pos hy.1, if_pos hy.2, if_pos h2.1, if_pos (by simp), if_pos hz.1, if_pos hz.2, if_pos h3.1]
  generalize rd l x = a at *
  generalize rd l y = b at *
  generalize rd l z = d at *
  obtain rfl | rfl | rfl : a = 0 ∨ a = 1 ∨ a = 2 := by omega
  all_goals obtain rfl | rfl | rfl : b = 0 ∨ b = 1 ∨ b = 2 := by omega
  all_goals obtain rfl | rfl | rfl : d = 0 ∨ d = 1 ∨ d = 2 := by omega
  all_goals decide
theorem doFull_ev (l : List Int) (hl : V2 l) {x y z : Int} (hx : At l x) (hy : At l y) (hz : At l z) : Ev (fun k => spec_doFull.f k l [x, y, z]) (fl (rd l x) (rd l y) (rd l z)) := by
  have r3 : rd [x, y, z] 0 = x ∧ rd [x, y, z] 1 = y ∧ rd [x, y, z] 2 = z := ⟨rfl, rfl, rfl⟩
  have h1 := hl _ (rd_mem_of hx.1 hx.2)
  have h2 := hl _ (rd_mem_of hy.1 hy.2)
  have h3 := hl _ (rd_mem_of hz.1 hz.2)
  unfold spec_doFull.f
  refine Ev.succ ?_
  simp only [spec_doFull.l0, w01, w12, w23, List.length_cons, List.length_nil, r3.1]
  refine Ev.pos (by decide) (Ev.pos (by decide) (Ev.pos (by decide) (Ev.pos hx.1 (Ev.pos hx.2 (Ev.pos h1.1 ?_)))))
  refine Ev.succ ?_
  simp only [spec_doFull.l0, w01, w12, w23, List.length_cons, List.length_nil, r3.2.1]
  refine Ev.pos (by decide) (Ev.pos (by decide) (Ev.pos (by decide) (Ev.pos hy.1 (Ev.pos hy.2 (Ev.pos h2.1 ?_)))))
  refine Ev.succ ?_
  simp only [spec_doFull.l0, w01, w12, w23, List.length_cons, List.length_nil, r3.2.2]
  refine Ev.pos (by decide) (Ev.pos (by decide) (Ev.pos (by decide) (Ev.pos hz.1 (Ev.pos hz.2 (Ev.pos h3.1 ?_)))))
  refine Ev.succ ?_
  simp only [spec_doFull.l0, w01, w12, w23, List.length_cons, List.length_nil]
  refine Ev.neg (by decide) (Ev.pure ?_)
  generalize rd l x = a at *
  generalize rd l y = b at *
  generalize rd l z = d at *
  obtain rfl | rfl | rfl : a = 0 ∨ a = 1 ∨ a = 2 := by omega
  all_goals obtain rfl | rfl | rfl : b = 0 ∨ b = 1 ∨ b = 2 := by omega
  all_goals obtain rfl | rfl | rfl : d = 0 ∨ d = 1 ∨ d = 2 := by omega
  all_goals decide
end Go.Proofs.Ytckiebdehlcjoaa.Pure
namespace Go.Proofs.Ytckiebdehlcjoaa.Pure
open Go.RowKit Go.Proofs.Ytckiebdehlcjoaa.P Go.Proofs.Ytckiebdehlcjoaa.Own Go.Proofs.YtckiebdehlcjoaaW.PrintWords Go.Proofs.YtckiebdehlcjoaaW.PrintLast
set_option linter.unusedVariables false
set_option linter.unusedSimpArgs false
theorem bigD (l0 l1 : List Int) : laws_big.f l0 l1 = some true ∨ (laws_big.f l0 l1 = some false ∧ l0.length ≤ 1048576 ∧ l1.length ≤ 1048576) := by
  unfold laws_big.f
  by_cases h : (l0.length : Int) > 1048576
  · rw [if_pos h]; exact .inl rfl
  · rw [if_neg h, wrap64_id (by omega) (by omega)]
    by_cases h2 : (l1.length : Int) > 1048576 - (l0.length : Int)
    · left; simp [h2]
    · right; exact ⟨by simp [h2], by omega, by omega⟩
def atV (n i : Int) : List Int := match spec_meAt.f K n i with | some b => b | none => []
theorem at_tab : ([1, 2, 3, 4, 5, 6, 7, 8] : List Int).all (fun n => (List.range (manyI n).toNat).all fun i => (spec_meAt.f K n i).isSome && (match atV n i with | [a, b, c] => decide (0 < a) || decide (0 < b) || decide (0 < c) | _ => false)) = true := by decide +kernel
theorem at_ev {n : Int} (h0 : 1 ≤ n) (h1 : n ≤ 8) {i : Int} (i0 : 0 ≤ i) (i1 : i < manyI n) : ∃ a b c, Ev (fun k => spec_meAt.f k n i) [a, b, c] ∧ (0 < a ∨ 0 < b ∨ 0 < c) := by
  have h := List.all_eq_true.1 at_tab n (by rcases side8 h0 h1 with rfl | rfl | rfl | rfl | rfl | rfl | rfl | rfl <;> decide)
  have h := List.all_eq_true.1 h i.toNat (List.mem_range.2 (by omega))
  rw [Int.toNat_of_nonneg i0] at h
  simp only [Bool.and_eq_true] at h
  obtain ⟨q, hq⟩ := Option.isSome_iff_exists.1 h.1
  have h2 := h.2
  have e : atV n i = q := by unfold atV; rw [hq]
  rw [e] at h2
  split at h2
  · rename_i a b c
    simp only [Bool.or_eq_true, decide_eq_true_eq] at h2
    exact ⟨a, b, c, Ev.of K (fun k => spec_meAt.mono _ _ _) hq, by rcases h2 with (h | h) | h <;> simp [h]⟩
  · cases h2
section
variable {s : List Int} (hs : Bytes s) (hl : s.length ≤ 1048576)
include hs hl
/-- one label that the coordinates allow -/
theorem sure_l1 (n : Int) (x5 : List Int) (hx5 : x5.length ≤ 1000) (x6 : Int) (q : List Int) (hq : q.length ≤ 3) : ∀ (m j : Nat), j + m = q.length → ∀ (x7 : List Int) (p h : Int), x7.length ≤ j → (0 < x7.length ∨ ∃ t : Nat, j ≤ t ∧ t < q.length ∧ 0 < rd q t) → 0 ≤ p → p ≤ 900000000000 →
    ∃ v p' h', p ≤ p' ∧ p' ≤ p + 2 ∧ ∀ R, Ev (fun k => spec_l1Cur_sureLabels.l0 k n (x5 ++ [v]) (wrap64 (x6 + 1)) s p' h') R → Ev (fun k => spec_l1Cur_sureLabels.l1 k n x5 x6 x7 q (q.length : Int) (j : Int) s p h) R := by
  intro m
  induction m with
  | zero =>
    intro j hj x7 p h h7 hpos p0 p1
    have h70 : 0 < x7.length := by
      rcases hpos with h | ⟨t, a, b, _⟩
      · exact h
      · omega
    obtain ⟨v, p', h', e, v0, v1, q0, q1⟩ := pick_ok hs hl p h x7.length p0 (by omega) (by omega)
    refine ⟨rd x7 v, p', h', q0, q1, fun R hR => Ev.succ ?_⟩
    simp only [spec_l1Cur_sureLabels.l1]
    exact Ev.neg (by omega) (Ev.bind0 e (Ev.pos v0 (Ev.pos (by show v < _; omega) (Ev.pos (by omega) hR))))
  | succ m ih =>
    intro j hj x7 p h h7 hpos p0 p1
    by_cases hj0 : 0 < rd q j
    · obtain ⟨v, p', h', a, b, c⟩ := ih (j + 1) (by omega) (x7 ++ [(j : Int)]) p h (by simp; omega) (.inl (by simp)) p0 p1
      refine ⟨v, p', h', a, b, fun R hR => Ev.succ ?_⟩
      simp only [spec_l1Cur_sureLabels.l1]
      rw [nat_add1 j (by omega)]
      exact Ev.pos (by omega) (Ev.pos (by omega) (Ev.pos (by omega) (Ev.pos hj0 (Ev.pos (by omega) (c R hR)))))
    · obtain ⟨v, p', h', a, b, c⟩ := ih (j + 1) (by omega) x7 p h (by omega) (by
        rcases hpos with h | ⟨t, a, b, c⟩
        · exact .inl h
        · refine .inr ⟨t, ?_, b, c⟩
          by_cases htj : t = j
          · subst htj; exact absurd c hj0
          · omega) p0 p1
      refine ⟨v, p', h', a, b, fun R hR => Ev.succ ?_⟩
      simp only [spec_l1Cur_sureLabels.l1]
      rw [nat_add1 j (by omega)]
      exact Ev.pos (by omega) (Ev.pos (by omega) (Ev.pos (by omega) (Ev.neg hj0 (c R hR))))
theorem sure_l0 {n : Int} (h0 : 1 ≤ n) (h1 : n ≤ 8) : ∀ (m i : Nat), (i : Int) + m = manyI n → ∀ (x5 : List Int) (p h : Int), x5.length = i → 0 ≤ p → p ≤ 800000000000 + i * 2 →
    ∃ r p' h', Ev (fun k => spec_l1Cur_sureLabels.l0 k n x5 (i : Int) s p h) (r, p', h') ∧ (r.length : Int) = manyI n ∧ p ≤ p' ∧ p' ≤ p + 2 * m := by
  have hb := many_bd n h0 h1
  intro m
  induction m with
  | zero =>
    intro i hi x5 p h h5 p0 p1
    refine ⟨x5, p, h, Ev.succ ?_, by omega, by omega, by omega⟩
    simp only [spec_l1Cur_sureLabels.l0]
    exact Ev.bind0 (meCount_eq h0 h1) (Ev.neg (by omega) (Ev.pure rfl))
  | succ m ih =>
    intro i hi x5 p h h5 p0 p1
    obtain ⟨a, b, c, e, hpos⟩ := at_ev h0 h1 (i := (i : Int)) (by omega) (by omega)
    obtain ⟨v, p', h', q0, q1, hR⟩ := sure_l1 hs hl n x5 (by omega) (i : Int) [a, b, c] (by simp) 3 0 rfl [] p h (by simp) (.inr (by
      rcases hpos with h | h | h
      · exact ⟨0, by omega, by simp, h⟩
      · exact ⟨1, by omega, by simp, h⟩
      · exact ⟨2, by omega, by simp, h⟩)) p0 (by omega)
    obtain ⟨r, p2, h2, er, lr, q2, q3⟩ := ih (i + 1) (by omega) (x5 ++ [v]) p' h' (by simp; omega) (by omega) (by omega)
    refine ⟨r, p2, h2, Ev.succ ?_, lr, by omega, by omega⟩
    simp only [spec_l1Cur_sureLabels.l0]
    refine Ev.bind0 (meCount_eq h0 h1) (Ev.pos (by omega) (Ev.bind e ?_))
    refine hR _ ?_
    rw [nat_add1 i (by omega)]
    exact er
theorem sure_ok {n : Int} (h0 : 1 ≤ n) (h1 : n ≤ 8) (p h : Int) (p0 : 0 ≤ p) (p1 : p ≤ 800000000000) :
    ∃ r p' h', Ev (fun k => spec_l1Cur_sureLabels.f k s p h n) (r, p', h') ∧ (r.length : Int) = manyI n ∧ p ≤ p' ∧ p' ≤ p + 100 := by
  have hb := many_bd n h0 h1
  obtain ⟨r, p', h', e, l, a, b⟩ := sure_l0 hs hl h0 h1 (manyI n).toNat 0 (by omega) [] p h rfl p0 (by omega)
  exact ⟨r, p', h', e, l, a, by omega⟩
theorem labels_l0 (n : Int) : ∀ (m i : Nat) (x7 : List Int), x7.length = i + m → x7.length ≤ 1000 → ∀ (p h : Int), 0 ≤ p → p ≤ 800000000000 + 2 * i →
    ∃ r p' h', Ev (fun k => spec_l1Cur_labels.l0 k n x7 (x7.length : Int) (i : Int) s p h) (n, r, p', h') ∧ r.length = x7.length ∧ p ≤ p' ∧ p' ≤ p + 2 * m := by
  intro m
  induction m with
  | zero =>
    intro i x7 hi h7 p h p0 p1
    refine ⟨x7, p, h, Ev.succ ?_, rfl, by omega, by omega⟩
    simp only [spec_l1Cur_labels.l0]
    exact Ev.neg (by omega) (Ev.pure rfl)
  | succ m ih =>
    intro i x7 hi h7 p h p0 p1
    obtain ⟨v, p', h', e, v0, v1, q0, q1⟩ := pick_ok hs hl p h 3 p0 (by omega) (by omega)
    obtain ⟨r, p2, h2, er, lr, q2, q3⟩ := ih (i + 1) (x7.set i v) (by simp; omega) (by simp; omega) p' h' (by omega) (by omega)
    rw [List.length_set] at er lr
    refine ⟨r, p2, h2, Ev.succ ?_, lr, by omega, by omega⟩
    simp only [spec_l1Cur_labels.l0]
    rw [nat_add1 i (by omega)]
    exact Ev.pos (by omega) (Ev.bind0 e (Ev.pos (by omega) (Ev.pos (by omega) er)))
theorem labels_ok (p h : Int) (p0 : 0 ≤ p) (p1 : p ≤ 100000) :
    ∃ n l p' h', Ev (fun k => spec_l1Cur_labels.f k s p h 4) (n, l, p', h') ∧ l.length ≤ 100 ∧ p ≤ p' ∧ p' ≤ p + 1000 := by
  obtain ⟨n, pa, ha, ea, hn, a0, a1⟩ := side_ok hs hl p h 4 p0 (by omega) (by decide) (by decide)
  unfold spec_l1Cur_labels.f
  cases hS : sideI n with
  | false =>
    exact ⟨n, [0, 1, 2], pa, ha, Ev.bind0 ea (Ev.bind0 (meSide_eq n) (by rw [hS]; exact Ev.neg (by decide) (Ev.pure rfl))), by decide, by omega, by omega⟩
  | true =>
    have hb : 1 ≤ n ∧ n ≤ 8 := by simpa [sideI, inI] using hS
    have hmb := many_bd n hb.1 hb.2
    obtain ⟨r, pb, hb', eb, lr, b0, b1⟩ := sure_ok hs hl hb.1 hb.2 pa ha (by omega) (by omega)
    obtain ⟨c, pc, hc, ec, c0, c1, cp0, cp1⟩ := pick_ok hs hl pb hb' 10 (by omega) (by omega) (by omega)
    have start : ∀ (g : Nat → Option (Int × List Int × Int × Int)) (R : Int × List Int × Int × Int), Ev g R → Ev g R := fun _ _ h => h
    by_cases k0 : c = 0
    · obtain ⟨d, pd, hd, ed, d0, d1, dp0, dp1⟩ := pick_ok hs hl pc hc r.length (by omega) (by omega) (by omega)
      obtain ⟨w, pe, he, ee, w0, w1, ep0, ep1⟩ := pick_ok hs hl pd hd 3 (by omega) (by omega) (by omega)
      refine ⟨n, r.set d.toNat w, pe, he, ?_, by rw [List.length_set]; omega, by omega, by omega⟩
      refine Ev.bind0 ea (Ev.bind0 (meSide_eq n) ?_)
      rw [hS]
      exact Ev.pos rfl (Ev.bind eb (Ev.bind0 ec (Ev.pos k0 (Ev.bind0 ed (Ev.bind0 ee (Ev.pos d0 (Ev.pos (by show d < (r.length : Int); omega) (Ev.pure rfl))))))))
    · by_cases k1 : c = 1
      · obtain ⟨d, pd, hd, ed, d0, d1, dp0, dp1⟩ := pick_ok hs hl pc hc r.length (by omega) (by omega) (by omega)
        obtain ⟨w, pe, he, ee, w0, ep0, ep1⟩ := among_ok hs hl pd hd [(-1), 3, 4611686018427387904] (by omega) (by omega) (by decide) (by decide)
        refine ⟨n, r.set d.toNat w, pe, he, ?_, by rw [List.length_set]; omega, by omega, by omega⟩
        refine Ev.bind0 ea (Ev.bind0 (meSide_eq n) ?_)
        rw [hS]
        exact Ev.pos rfl (Ev.bind eb (Ev.bind0 ec (Ev.neg k0 (Ev.pos k1 (Ev.bind0 ed (Ev.bind0 ee (Ev.pos d0 (Ev.pos (by show d < (r.length : Int); omega) (Ev.pure rfl)))))))))
      · by_cases k2 : c = 2
        · obtain ⟨r2, pd, hd, ed, ld, dp0, dp1⟩ := labels_l0 hs hl n r.length 0 r (by omega) (by omega) pc hc (by omega) (by omega)
          refine ⟨n, r2, pd, hd, ?_, by omega, by omega, by omega⟩
          refine Ev.bind0 ea (Ev.bind0 (meSide_eq n) ?_)
          rw [hS]
          exact Ev.pos rfl (Ev.bind eb (Ev.bind0 ec (Ev.neg k0 (Ev.neg k1 (Ev.pos k2 ed)))))
        · by_cases k3 : c = 3
          · refine ⟨n, r ++ [0], pc, hc, ?_, by simp; omega, by omega, by omega⟩
            refine Ev.bind0 ea (Ev.bind0 (meSide_eq n) ?_)
            rw [hS]
            exact Ev.pos rfl (Ev.bind eb (Ev.bind0 ec (Ev.neg k0 (Ev.neg k1 (Ev.neg k2 (Ev.pos k3 (Ev.pos (by show r.length < _; omega) (Ev.pure rfl))))))))
          · refine ⟨n, r, pc, hc, ?_, by omega, by omega, by omega⟩
            refine Ev.bind0 ea (Ev.bind0 (meSide_eq n) ?_)
            rw [hS]
            exact Ev.pos rfl (Ev.bind eb (Ev.bind0 ec (Ev.neg k0 (Ev.neg k1 (Ev.neg k2 (Ev.neg k3 (Ev.pure rfl)))))))
theorem any_l0 (n : Int) : ∀ (m : Nat) (x7 : List Int), 0 < x7.length → x7.length ≤ 1000 → ∀ (p h : Int), 0 ≤ p → p ≤ 800000000000 - 4 * m → m ≤ 100 →
    ∃ r p' h', Ev (fun k => spec_l1Cur_anyLabels.l0 k n x7 (m : Int) s p h) (n, r, p', h') ∧ r.length = x7.length ∧ p ≤ p' ∧ p' ≤ p + 4 * m := by
  intro m
  induction m with
  | zero =>
    intro x7 h70 h7 p h p0 p1 hm
    refine ⟨x7, p, h, Ev.succ ?_, rfl, by omega, by omega⟩
    simp only [spec_l1Cur_anyLabels.l0]
    exact Ev.neg (by omega) (Ev.pure rfl)
  | succ m ih =>
    intro x7 h70 h7 p h p0 p1 hm
    obtain ⟨d, pd, hd, ed, d0, d1, dp0, dp1⟩ := pick_ok hs hl p h x7.length (by omega) (by omega) (by omega)
    obtain ⟨w, pe, he, ee, w0, w1, ep0, ep1⟩ := pick_ok hs hl pd hd 3 (by omega) (by omega) (by omega)
    obtain ⟨r, p2, h2, er, lr, q2, q3⟩ := ih (x7.set d.toNat w) (by simp; omega) (by simp; omega) pe he (by omega) (by omega) (by omega)
    rw [List.length_set] at lr
    refine ⟨r, p2, h2, Ev.succ ?_, lr, by omega, by omega⟩
    simp only [spec_l1Cur_anyLabels.l0]
    have hw : wrap64 (((m + 1 : Nat) : Int) - 1) = (m : Int) := by rw [wrap64_id (by omega) (by omega)]; omega
    rw [hw]
    exact Ev.pos (by omega) (Ev.bind0 ed (Ev.bind0 ee (Ev.pos d0 (Ev.pos (by show d < _; omega) er))))
theorem any_ok (p h : Int) (p0 : 0 ≤ p) (p1 : p ≤ 100000) :
    ∃ n l p' h', Ev (fun k => spec_l1Cur_anyLabels.f k s p h 4) (n, l, p', h') ∧ l.length ≤ 100 ∧ p ≤ p' ∧ p' ≤ p + 2000 := by
  obtain ⟨n, l, pa, ha, ea, la, a0, a1⟩ := labels_ok hs hl p h p0 p1
  have hm := meLabels_ev n l (by omega)
  unfold spec_l1Cur_anyLabels.f
  cases hB : labelsB n l with
  | false =>
    rw [hB] at hm
    refine ⟨n, l, pa, ha, Ev.bind ea (Ev.bind hm (Ev.neg (by decide) (Ev.succ ?_))), la, by omega, by omega⟩
    simp only [spec_l1Cur_anyLabels.j0]
    exact Ev.neg (by decide) (Ev.pure rfl)
  | true =>
    rw [hB] at hm
    have hL := lb_of hB
    have h45 := hL.len45
    obtain ⟨b, pb, hb, eb, b0, b1⟩ := one_ok hs hl pa ha 2 (by omega) (by omega) (by omega)
    cases b with
    | false =>
      refine ⟨n, l, pb, hb, Ev.bind ea (Ev.bind hm (Ev.pos rfl (Ev.bind0 eb (Ev.succ ?_)))), la, by omega, by omega⟩
      simp only [spec_l1Cur_anyLabels.j0]
      exact Ev.neg (by decide) (Ev.pure rfl)
    | true =>
      obtain ⟨c, pc, hc, ec, c0, c1, cp0, cp1⟩ := pick_ok hs hl pb hb 8 (by omega) (by omega) (by omega)
      obtain ⟨r, pd, hd, ed, ld, d0, d1⟩ := any_l0 hs hl n c.toNat l (by omega) (by omega) pc hc (by omega) (by omega) (by omega)
      rw [Int.toNat_of_nonneg c0] at ed
      refine ⟨n, r, pd, hd, Ev.bind ea (Ev.bind hm (Ev.pos rfl (Ev.bind0 eb (Ev.succ ?_)))), by omega, by omega, by omega⟩
      simp only [spec_l1Cur_anyLabels.j0]
      exact Ev.pos (by trivial) (Ev.bind0 ec ed)
end
end Go.Proofs.Ytckiebdehlcjoaa.Pure
