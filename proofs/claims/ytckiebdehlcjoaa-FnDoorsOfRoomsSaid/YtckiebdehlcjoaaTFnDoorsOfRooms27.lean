/- A part of the proof of the law FnDoorsOfRooms. -/
import Derived.Test.YtckiebdehlcjoaaTFnDoorsOfRooms26
import Derived.Test.YtckiebdehlcjoaaTFnDoorsOfRooms18
namespace Go.Proofs.Ytckiebdehlcjoaa.Pure
open Go.RowKit Go.Proofs.Ytckiebdehlcjoaa.P Go.Proofs.Ytckiebdehlcjoaa.Own Go.Proofs.YtckiebdehlcjoaaW.PrintWords Go.Proofs.YtckiebdehlcjoaaW.PrintLast
set_option linter.unusedVariables false
set_option linter.unusedSimpArgs false
section
variable {s : List Int} (hs : Bytes s) (hl : s.length ≤ 1048576)
include hs hl
omit hs hl in
theorem allFull_l0 {n : Int} {l : List Int} (h : Lb n l) : ∀ (m i : Nat), i + m = (cellsV n).length → ∀ acc : List Int, acc.length ≤ i → ∃ r, Ev (fun k => spec_doAllFull.l0 k l acc (cellsV n) ((cellsV n).length : Int) (i : Int)) r ∧ r.length ≤ 64 := by
  have h64 := (cells_len h.n0 h.n1).2
  intro m
  induction m with
  | zero =>
    intro i hi acc ha
    refine ⟨acc, Ev.succ ?_, by omega⟩
    simp only [spec_doAllFull.l0]
    exact Ev.neg (by omega) (Ev.pure rfl)
  | succ m ih =>
    intro i hi acc ha
    obtain ⟨x, y, z, e, hx, hy, hz, _⟩ := cell_mem h.n0 h.n1 (rd_L2_mem (l := cellsV n) (i := (i : Int)) (by omega) (by omega))
    have hf := doFull_ev l h.v2 (h.at hx) (h.at hy) (h.at hz)
    cases hq : fl (rd l x) (rd l y) (rd l z) with
    | true =>
      rw [hq] at hf
      obtain ⟨r, er, lr⟩ := ih (i + 1) (by omega) (acc ++ [(i : Int)]) (by simp; omega)
      refine ⟨r, Ev.succ ?_, lr⟩
      simp only [spec_doAllFull.l0]
      rw [e, nat_add1 i (by omega)]
      exact Ev.pos (by omega) (Ev.pos (by omega) (Ev.pos (by omega) (Ev.bind hf (Ev.pos rfl (Ev.pos (by omega) er)))))
    | false =>
      rw [hq] at hf
      obtain ⟨r, er, lr⟩ := ih (i + 1) (by omega) acc (by omega)
      refine ⟨r, Ev.succ ?_, lr⟩
      simp only [spec_doAllFull.l0]
      rw [e, nat_add1 i (by omega)]
      exact Ev.pos (by omega) (Ev.pos (by omega) (Ev.pos (by omega) (Ev.bind hf (Ev.neg (by decide) er))))
theorem room_ok : ∃ n l c p' h', Ev (fun k => spec_l1Cur_room.f k s 0 0) (n, l, c, p', h') ∧ l.length ≤ 100 := by
  obtain ⟨n, l, pa, ha, ea, la, a0, a1⟩ := any_ok hs hl 0 0 (by omega) (by omega)
  have hm := meLabels_ev n l (by omega)
  unfold spec_l1Cur_room.f
  have last : ∀ p h, 0 ≤ p → p ≤ 200000 → ∃ c p' h', Ev (fun k => spec_l1Cur_room.j0 k n l false s p h) (n, l, c, p', h') := by
    intro p h p0 p1
    obtain ⟨v, p2, h2, e, _, _, _, _⟩ := pick_ok hs hl p h 18 p0 (by omega) (by omega)
    refine ⟨wrap64 (v - 1), p2, h2, Ev.succ ?_⟩
    simp only [spec_l1Cur_room.j0]
    exact Ev.neg (by decide) (Ev.bind0 e (Ev.pure rfl))
  cases hB : labelsB n l with
  | false =>
    rw [hB] at hm
    obtain ⟨c, p', h', e⟩ := last pa ha (by omega) (by omega)
    exact ⟨n, l, c, p', h', Ev.bind ea (Ev.bind hm (Ev.neg (by decide) e)), la⟩
  | true =>
    rw [hB] at hm
    have h := lb_of hB
    obtain ⟨b, pb, hb, eb, b0, b1⟩ := one_ok hs hl pa ha 3 (by omega) (by omega) (by omega)
    cases b with
    | true =>
      obtain ⟨c, p', h', e⟩ := last pb hb (by omega) (by omega)
      exact ⟨n, l, c, p', h', Ev.bind ea (Ev.bind hm (Ev.pos rfl (Ev.bind0 eb e))), la⟩
    | false =>
      obtain ⟨r, er, lr⟩ := allFull_l0 h (cellsV n).length 0 (by omega) [] (by simp)
      have hr : Ev (fun k => spec_doAllFull.f k n l) r := by
        unfold spec_doAllFull.f
        exact Ev.bind (meCells_ev n h.n0 h.n1) er
      by_cases h0 : (r.length : Int) > 0
      · obtain ⟨v, p2, h2, e, v0, v1, _, _⟩ := pick_ok hs hl pb hb r.length (by omega) (by omega) (by omega)
        refine ⟨n, l, rd r v, p2, h2, Ev.bind ea (Ev.bind hm (Ev.pos rfl (Ev.bind0 eb (Ev.succ ?_)))), la⟩
        simp only [spec_l1Cur_room.j0]
        exact Ev.pos (by trivial) (Ev.bind hr (Ev.pos h0 (Ev.bind0 e (Ev.pos v0 (Ev.pos (by show v < _; omega) (Ev.pure rfl))))))
      · obtain ⟨v, p2, h2, e, _, _, _, _⟩ := pick_ok hs hl pb hb 18 (by omega) (by omega) (by omega)
        refine ⟨n, l, wrap64 (v - 1), p2, h2, Ev.bind ea (Ev.bind hm (Ev.pos rfl (Ev.bind0 eb (Ev.succ ?_)))), la⟩
        simp only [spec_l1Cur_room.j0]
        exact Ev.pos (by trivial) (Ev.bind hr (Ev.neg h0 (Ev.bind0 e (Ev.pure rfl))))
theorem door_ok : ∃ n l i j p' h', Ev (fun k => spec_l1Cur_door.f k s 0 0) (n, l, i, j, p', h') ∧ l.length ≤ 100 := by
  obtain ⟨n, l, pa, ha, ea, la, a0, a1⟩ := any_ok hs hl 0 0 (by omega) (by omega)
  have hm := meLabels_ev n l (by omega)
  unfold spec_l1Cur_door.f
  cases hB : labelsB n l with
  | false =>
    rw [hB] at hm
    exact ⟨n, l, 0, 1, pa, ha, Ev.bind ea (Ev.bind hm (Ev.neg (by decide) (Ev.pure rfl))), la⟩
  | true =>
    rw [hB] at hm
    have h := lb_of hB
    have hd := doBorder_ev h
    have last : ∀ p h, 0 ≤ p → p ≤ 200000 → ∃ i j p' h', Ev (fun k => spec_l1Cur_door.j0 k n l (bordV n l) false s p h) (n, l, i, j, p', h') := by
      intro p h p0 p1
      obtain ⟨v, p2, h2, e, _, _, q0, q1⟩ := pick_ok hs hl p h l.length p0 (by omega) (by omega)
      obtain ⟨w, p3, h3, e3, _, _, _⟩ := among_ok hs hl p2 h2 [1, 2, 3, (-1), 0] (by omega) (by omega) (by decide) (by decide)
      refine ⟨v, wrap64 (v + w), p3, h3, Ev.succ ?_⟩
      simp only [spec_l1Cur_door.j0]
      exact Ev.neg (by decide) (Ev.bind0 e (Ev.bind0 e3 (Ev.pure rfl)))
    by_cases h0 : ((bordV n l).length : Int) > 0
    · obtain ⟨b, pb, hb, eb, b0, b1⟩ := one_ok hs hl pa ha 4 (by omega) (by omega) (by omega)
      cases b with
      | true =>
        obtain ⟨i, j, p', h', e⟩ := last pb hb (by omega) (by omega)
        exact ⟨n, l, i, j, p', h', Ev.bind ea (Ev.bind hm (Ev.pos rfl (Ev.bind hd (Ev.pos h0 (Ev.bind0 eb e))))), la⟩
      | false =>
        have h100 : (bordV n l).length ≤ 100 := by
          unfold bordV
          exact Nat.le_trans (List.length_filter_le _ _) (st h.n0 h.n1).len
        obtain ⟨v, p2, h2, e, v0, v1, q0, q1⟩ := pick_ok hs hl pb hb (bordV n l).length (by omega) (by omega) (by omega)
        have v1' : v < ((bordV n l).length : Int) := by omega
        obtain ⟨x, y, exy, _, _⟩ := (st h.n0 h.n1).vals _ (List.mem_filter.1 (show rd_L2 (bordV n l) v ∈ (stV n).filter (dP l) from rd_L2_mem v0 v1')).1
        obtain ⟨w, p3, h3, e3, w0, w1, _, _⟩ := pick_ok hs hl p2 h2 2 (by omega) (by omega) (by omega)
        have hw : wrap64 (1 - w) = 1 - w := wrap64_id (by omega) (by omega)
        refine ⟨n, l, rd [x, y] w, rd [x, y] (1 - w), p3, h3, Ev.bind ea (Ev.bind hm (Ev.pos rfl (Ev.bind hd (Ev.pos h0 (Ev.bind0 eb (Ev.succ ?_)))))), la⟩
        simp only [spec_l1Cur_door.j0]
        refine Ev.pos (by trivial) (Ev.bind0 e (Ev.pos v0 (Ev.pos v1' ?_)))
        rw [exy]
        refine Ev.bind0 e3 (Ev.pos w0 (Ev.pos (by show w < 2; omega) ?_))
        rw [hw]
        exact Ev.pos (by show 0 ≤ 1 - w; omega) (Ev.pos (by show 1 - w < 2; omega) (Ev.pure rfl))
    · obtain ⟨i, j, p', h', e⟩ := last pa ha (by omega) (by omega)
      exact ⟨n, l, i, j, p', h', Ev.bind ea (Ev.bind hm (Ev.pos rfl (Ev.bind hd (Ev.neg h0 e)))), la⟩
end
theorem rows2 {X : List (List Int)} {p : List Int → Bool} (h : ∀ s ∈ X, s.length = 2) (hl : X.length ≤ 1000) : (X.filter p).length ≤ 100000 ∧ ∀ s ∈ X.filter p, s.length ≤ 100000 :=
  ⟨by have := List.length_filter_le p X; omega, fun s hs => by have := h s (List.mem_filter.1 hs).1; omega⟩
theorem same_doorsC (l : List Int) (x y z : Int) : Ev (fun k => laws_uSameRows.f k (doorsC l [x, y, z]) (doorsC l [x, y, z])) true := by
  have h := rows2 (X := pairsC [x, y, z]) (p := dP l) (by
    intro s hs
    have : s = [x, y] ∨ s = [x, z] ∨ s = [y, z] := by
      have e : pairsC [x, y, z] = [[x, y], [x, z], [y, z]] := rfl
      rw [e] at hs
      simpa using hs
    rcases this with rfl | rfl | rfl <;> rfl) (show 3 ≤ 1000 by decide)
  exact uSameRows_refl _ h.1 h.2
theorem same_bord {n : Int} {l : List Int} (h : Lb n l) : Ev (fun k => laws_uSameRows.f k (bordV n l) (bordV n l)) true := by
  have hS := st h.n0 h.n1
  have := rows2 (X := stV n) (p := dP l) (by intro s hs; obtain ⟨a, b, rfl, _⟩ := hS.vals s hs; rfl) (by have := hS.len; omega)
  exact uSameRows_refl _ this.1 this.2
theorem allF_len (l : List Int) (m : Nat) : ∀ d i, i + d = m → (allF l m i).length ≤ d * m := by
  intro d
  induction d with
  | zero => intro i hi; have : i = m := by omega
            subst this; rw [allF_nil]; simp
  | succ d ih =>
    intro i hi
    rw [allF_cons l (by omega), List.length_append]
    have h1 := rowF_len l m i (i + 1)
    have h2 := ih (i + 1) (by omega)
    rw [Nat.succ_mul]
    omega
theorem same_all {n : Int} {l : List Int} (h : Lb n l) : Ev (fun k => laws_uSameRows.f k (allF l l.length 0) (allF l l.length 0)) true := by
  have h45 := h.len45
  refine uSameRows_refl _ ?_ ?_
  · have := allF_len l l.length l.length 0 (by omega)
    have h2 : l.length * l.length ≤ 45 * 45 := Nat.mul_le_mul h45.2 h45.2
    omega
  · intro s hs
    unfold allF rowF at hs
    obtain ⟨i, _, hi⟩ := List.mem_flatMap.1 hs
    obtain ⟨j, _, rfl⟩ := List.mem_map.1 hi
    simp
section
variable {l0 l1 : List Int} (b0 : Bytes l0) (n0 : l0.length ≤ 1048576) (b1 : Bytes l1) (n1 : l1.length ≤ 1048576)
include b1 n1
/-- the last question: is it a door? -/
theorem tail_ok : ∃ Q : Int × List Int × Int × Int, Ev (fun k => spec_DrawIsDoor.f k l1) Q ∧ Ev (fun k => (impl_IsDoor.f k Q.1 Q.2.1 Q.2.2.1 Q.2.2.2).bind fun bt427 => (spec_IsDoor.f k Q.1 Q.2.1 Q.2.2.1 Q.2.2.2).bind fun bt429 => if (bt427.2 == bt429.2) = true then some (bt427.1 == bt429.1) else none) true := by
  obtain ⟨n, l, i, j, p', h', e, hl⟩ := door_ok b1 n1
  obtain ⟨R, r1, r2⟩ := isDoor_both (n := n) (l := l) (by omega) i j
  refine ⟨(n, l, i, j), ?_, ?_⟩
  · unfold spec_DrawIsDoor.f
    exact Ev.bind e (Ev.pure rfl)
  · exact Ev.bind r1 (Ev.bind r2 (Ev.pos (by simp) (Ev.pure (by simp))))
theorem sum_l1 {n : Int} {l : List Int} (h : Lb n l) (A : Int) (hA : A = 2 * ((allF l l.length 0).length : Int) - ((bordV n l).length : Int)) : ∀ (m i : Nat), i + m = (cellsV n).length → ∀ x30 : Int, 0 ≤ x30 → x30 ≤ 3 * i → x30 + ((((cellsV n).drop i).map fun c => (doorsC l c).length).sum : Nat) = A →
    Ev (fun k => laws_FnDoorsOfRooms.l1 k l1 n l (allF l l.length 0) (bordV n l) x30 (i : Int)) true := by
  have hL := cells_len h.n0 h.n1
  have hb : 1 ≤ n * n ∧ n * n ≤ 64 := by
    rcases side8 h.n0 h.n1 with rfl | rfl | rfl | rfl | rfl | rfl | rfl | rfl <;> decide
  have hw : wrap64 (n * n) = n * n := wrap64_id (by omega) (by omega)
  have hF := allF_len l l.length l.length 0 (by omega)
  have h2 : l.length * l.length ≤ 45 * 45 := Nat.mul_le_mul h.len45.2 h.len45.2
  have hB : (bordV n l).length ≤ 100 := by
    unfold bordV
    exact Nat.le_trans (List.length_filter_le _ _) (st h.n0 h.n1).len
  have hw2 : wrap64 (wrap64 (2 * ((allF l l.length 0).length : Int)) - ((bordV n l).length : Int)) = A := by
    rw [wrap64_id (n := 2 * ((allF l l.length 0).length : Int)) (by omega) (by omega), wrap64_id (by omega) (by omega), hA]
  intro m
  induction m with
  | zero =>
    intro i hi x30 x0 x1 hx
    refine Ev.succ ?_
    simp only [laws_FnDoorsOfRooms.l1]
    rw [hw, hw2]
    rw [List.drop_eq_nil_of_le (by omega)] at hx
    obtain ⟨Q, q1, q2⟩ := tail_ok b1 n1
    refine Ev.neg (by omega) (Ev.pos (by simpa using hx) (Ev.bind q1 q2))
  | succ m ih =>
    intro i hi x30 x0 x1 hx
    refine Ev.succ ?_
    simp only [laws_FnDoorsOfRooms.l1]
    rw [hw, nat_add1 i (by omega)]
    obtain ⟨g, x, y, z, e, _⟩ := good_cell h (c := (i : Int)) (by omega) (by omega)
    have hd : (doorsC l (rd_L2 (cellsV n) i)).length ≤ 3 := by
      unfold doorsC
      exact Nat.le_trans (List.length_filter_le _ _) (Nat.le_of_eq rfl)
    rw [drop_L2 (cellsV n) i (by omega), List.map_cons, List.sum_cons] at hx
    refine Ev.pos (by omega) (Ev.bind g.id (Ev.pos rfl ?_))
    rw [wrap64_id (by show _ ≤ x30 + ((doorsC l (rd_L2 (cellsV n) i)).length : Int); omega) (by show x30 + ((doorsC l (rd_L2 (cellsV n) i)).length : Int) < _; omega)]
    exact ih (i + 1) (by omega) _ (by show 0 ≤ x30 + ((doorsC l (rd_L2 (cellsV n) i)).length : Int); omega) (by show x30 + ((doorsC l (rd_L2 (cellsV n) i)).length : Int) ≤ _; omega) (by show x30 + ((doorsC l (rd_L2 (cellsV n) i)).length : Int) + _ = _; omega)
theorem j3_ok : Ev (fun k => laws_FnDoorsOfRooms.j3 k l1) true := by
  refine Ev.succ ?_
  simp only [laws_FnDoorsOfRooms.j3]
  obtain ⟨n, l, p', h', e, hl, _, _⟩ := any_ok b1 n1 0 0 (by omega) (by omega)
  have ed : Ev (fun k => spec_DrawDoorsOf.f k l1) (n, l) := by
    unfold spec_DrawDoorsOf.f
    exact Ev.bind e (Ev.pure rfl)
  cases hB : labelsB n l with
  | false =>
    obtain ⟨d1, d2⟩ := doorsOf_no (n := n) (l := l) (by omega) hB
    obtain ⟨c1, c2⟩ := borderDoors_no (n := n) (l := l) (by omega) hB
    have u := uSameRows_refl [] (by simp) (by simp)
    refine Ev.bind ed (Ev.bind d1 (Ev.bind d2 (Ev.bind c1 (Ev.bind c2 (Ev.neg (by decide) (Ev.bind u (Ev.pos rfl (Ev.neg (by decide) (Ev.bind u (Ev.pos rfl (Ev.succ ?_)))))))))))
    simp only [laws_FnDoorsOfRooms.j4]
    obtain ⟨Q, q1, q2⟩ := tail_ok b1 n1
    exact Ev.neg (by decide) (Ev.neg (by decide) (Ev.bind q1 q2))
  | true =>
    have h := lb_of hB
    obtain ⟨d1, d2⟩ := doorsOf_ok h
    obtain ⟨c1, c2⟩ := borderDoors_ok h
    refine Ev.bind ed (Ev.bind d1 (Ev.bind d2 (Ev.bind c1 (Ev.bind c2 (Ev.neg (by simp) (Ev.bind (same_all h) (Ev.pos rfl (Ev.neg (by simp) (Ev.bind (same_bord h) (Ev.pos rfl (Ev.succ ?_)))))))))))
    simp only [laws_FnDoorsOfRooms.j4]
    refine Ev.neg (by decide) (Ev.pos (by trivial) ?_)
    exact sum_l1 b1 n1 h _ rfl (cellsV n).length 0 (by omega) 0 (by omega) (by omega) (by have := sum_eq h; simpa using this)
theorem l0_ok {n : Int} {l : List Int} (h : Lb n l) (D : List (List Int)) (hD : ∀ s ∈ D, ∃ a b, s = [a, b] ∧ (0 ≤ a ∧ a < manyI n) ∧ (0 ≤ b ∧ b < manyI n) ∧ nearV a b = true ∧ dL l a b = true) (hlen : D.length ≤ 1000) : ∀ m i : Nat, i + m = D.length → Ev (fun k => laws_FnDoorsOfRooms.l0 k l1 n l D (D.length : Int) (i : Int)) true := by
  intro m
  induction m with
  | zero =>
    intro i hi
    refine Ev.succ ?_
    simp only [laws_FnDoorsOfRooms.l0]
    exact Ev.neg (by omega) (j3_ok b1 n1)
  | succ m ih =>
    intro i hi
    refine Ev.succ ?_
    simp only [laws_FnDoorsOfRooms.l0]
    rw [nat_add1 i (by omega)]
    obtain ⟨a, b, e, ha, hb, hn, hd⟩ := hD _ (rd_L2_mem (l := D) (i := (i : Int)) (by omega) (by omega))
    obtain ⟨R, r1, _, hR⟩ := isDoor_ok h ha hb
    rw [hR hn, hd] at r1
    refine Ev.pos (by omega) (Ev.pos (by omega) (Ev.pos (by omega) ?_))
    rw [e]
    exact Ev.pos (by simp) (Ev.pos (by simp) (Ev.bind r1 (Ev.pos rfl (Ev.pos rfl (ih (i + 1) (by omega))))))
end
/-- a full room has one door, and no room has three -/
theorem full_doors {l : List Int} (hv : V2 l) {x y z : Int} (hx : At l x) (hy : At l y) (hz : At l z) : (fl (rd l x) (rd l y) (rd l z) != (((doorsC l [x, y, z]).length : Int) == 1)) = false ∧ (doorsC l [x, y, z]).length ≤ 2 := by
  have h1 := hv _ (rd_mem_of hx.1 hx.2)
  have h2 := hv _ (rd_mem_of hy.1 hy.2)
  have h3 := hv _ (rd_mem_of hz.1 hz.2)
  have e : (doorsC l [x, y, z]).length = (if dL l x y = true then 1 else 0) + (if dL l x z = true then 1 else 0) + (if dL l y z = true then 1 else 0) := by
    unfold doorsC
    have : pairsC [x, y, z] = [[x, y], [x, z], [y, z]] := rfl
    rw [this]
    have q1 : dP l [x, y] = dL l x y := dP_pair _ _ _
    have q2 : dP l [x, z] = dL l x z := dP_pair _ _ _
    have q3 : dP l [y, z] = dL l y z := dP_pair _ _ _
    simp only [List.filter_cons, List.filter_nil, q1, q2, q3]
    cases dL l x y <;> cases dL l x z <;> cases dL l y z <;> rfl
  rw [e]
  unfold dL
  generalize rd l x = a at *
  generalize rd l y = b at *
  generalize rd l z = d at *
  clear e hx hy hz hv
  obtain rfl | rfl | rfl : a = 0 ∨ a = 1 ∨ a = 2 := by omega
  all_goals obtain rfl | rfl | rfl : b = 0 ∨ b = 1 ∨ b = 2 := by omega
  all_goals obtain rfl | rfl | rfl : d = 0 ∨ d = 1 ∨ d = 2 := by omega
  all_goals decide
theorem doorsC_mem {n : Int} {l : List Int} {x y z : Int} (hx : 0 ≤ x ∧ x < manyI n) (hy : 0 ≤ y ∧ y < manyI n) (hz : 0 ≤ z ∧ z < manyI n) (nxy : nearV x y = true) (nxz : nearV x z = true) (nyz : nearV y z = true) :
    ∀ s ∈ doorsC l [x, y, z], ∃ a b, s = [a, b] ∧ (0 ≤ a ∧ a < manyI n) ∧ (0 ≤ b ∧ b < manyI n) ∧ nearV a b = true ∧ dL l a b = true := by
  intro s hs
  obtain ⟨h1, h2⟩ := List.mem_filter.1 hs
  have : s = [x, y] ∨ s = [x, z] ∨ s = [y, z] := by
    have e : pairsC [x, y, z] = [[x, y], [x, z], [y, z]] := rfl
    rw [e] at h1
    simpa using h1
  rcases this with rfl | rfl | rfl
  · exact ⟨x, y, rfl, hx, hy, nxy, (dP_pair l x y).symm.trans h2⟩
  · exact ⟨x, z, rfl, hx, hz, nxz, (dP_pair l x z).symm.trans h2⟩
  · exact ⟨y, z, rfl, hy, hz, nyz, (dP_pair l y z).symm.trans h2⟩
theorem FnDoorsOfRooms : laws_FnDoorsOfRooms.Pure := by
  intro l0 l1 _ _ w0 _ _ w1
  have b0 := Bytes.of w0
  have b1 := Bytes.of w1
  suffices h : Ev (fun k => laws_FnDoorsOfRooms.f k l0 l1) true from h.get
  unfold laws_FnDoorsOfRooms.f
  rcases bigD l0 l1 with h | ⟨h, n0, n1⟩
  · exact Ev.bind0 h (Ev.pos rfl (Ev.pure rfl))
  refine Ev.bind0 h (Ev.neg (by decide) ?_)
  obtain ⟨n, l, c, p', h', e, hl⟩ := room_ok b0 n0
  have ed : Ev (fun k => spec_DrawDoorsOfCell.f k l0) (n, l, c) := by
    unfold spec_DrawDoorsOfCell.f
    exact Ev.bind e (Ev.pure rfl)
  refine Ev.bind ed ?_
  by_cases hg : labelsB n l = true ∧ 0 ≤ c ∧ c < n * n
  · have hb := lb_of hg.1
    obtain ⟨g, x, y, z, ec, hx, hy, hz, nxy, nxz, nyz, f1, f2⟩ := good_cell hb hg.2.1 hg.2.2
    have hi := g.id
    have hsd := g.sd
    rw [ec] at hi hsd
    obtain ⟨q1, q2⟩ := full_doors hb.v2 (hb.at hx) (hb.at hy) (hb.at hz)
    refine Ev.bind hi (Ev.bind hsd (Ev.bind f1 (Ev.bind f2 (Ev.neg (by simp) (Ev.bind (same_doorsC l x y z) (Ev.pos rfl (Ev.neg (by simp) (Ev.neg (by simp) (Ev.succ ?_)))))))))
    simp only [laws_FnDoorsOfRooms.j0]
    refine Ev.neg (by decide) (Ev.pos (by trivial) (Ev.neg (by rw [q1]; decide) (Ev.succ ?_)))
    simp only [laws_FnDoorsOfRooms.j1]
    refine Ev.neg (by simp; omega) ?_
    exact l0_ok b1 n1 hb _ (doorsC_mem hx hy hz nxy nxz nyz) (by omega) (doorsC l [x, y, z]).length 0 (by omega)
  · obtain ⟨i1, i2, f1, f2⟩ := bad_cell (n := n) (l := l) (c := c) (by omega) hg
    have u := uSameRows_refl [] (by simp) (by simp)
    refine Ev.bind i1 (Ev.bind i2 (Ev.bind f1 (Ev.bind f2 (Ev.neg (by decide) (Ev.bind u (Ev.pos rfl (Ev.neg (by decide) (Ev.neg (by decide) (Ev.succ ?_)))))))))
    simp only [laws_FnDoorsOfRooms.j0]
    exact Ev.neg (by decide) (Ev.neg (by decide) (j3_ok b1 n1))
end Go.Proofs.Ytckiebdehlcjoaa.Pure
