/- A part of the proof of the law FnTrianglesAreCut. -/
import Derived.Test.YtckiebdehlcjoaaTFnTrianglesAreCut16
import Derived.Test.YtckiebdehlcjoaaTFnTrianglesAreCut11
namespace Go.Proofs.Ytckiebdehlcjoaa.Pure
open Go.RowKit Go.Proofs.Ytckiebdehlcjoaa.P Go.Proofs.Ytckiebdehlcjoaa.Own Go.Proofs.YtckiebdehlcjoaaW.PrintWords Go.Proofs.YtckiebdehlcjoaaW.PrintLast
set_option linter.unusedVariables false
section
variable {s : List Int} (hs : Bytes s) (hl : s.length ≤ 1048576)
include hs hl
theorem drawPointAt_ok : ∃ n i, spec_DrawPointAt.f s = some (n, i) ∧ n ∈ [(-1 : Int), 0, 9, 1, 2, 3, 4, 5, 6, 8] ∧ -1 ≤ i ∧ i ≤ 28 := by
  unfold spec_DrawPointAt.f
  obtain ⟨n, p, h, e, hn, p0, p1⟩ := side_ok hs hl 0 0 6 (by omega) (by omega) (by omega) (by omega)
  rw [e, Option.bind_some]
  obtain ⟨v, p2, h2, e2, v0, v1, q0, q1⟩ := pick_ok hs hl p h 30 (by omega) (by omega) (by omega)
  show ∃ n_ i_, (spec_l1Cur_pick.f s p h 30).bind _ = some (n_, i_) ∧ _
  rw [e2, Option.bind_some]
  refine ⟨n, wrap64 (v - 1), rfl, ?_, ?_⟩
  · rcases hn with hn | hn
    · simp at hn ⊢; omega
    · simp; omega
  · rw [wrap64_id (by omega) (by omega)]; omega
theorem drawCellsOf_ok : ∃ n, spec_DrawCellsOf.f s = some n ∧ n ∈ [(-1 : Int), 0, 9, 1, 2, 3, 4, 5, 8] := by
  unfold spec_DrawCellsOf.f
  obtain ⟨n, p, h, e, hn, p0, p1⟩ := side_ok hs hl 0 0 5 (by omega) (by omega) (by omega) (by omega)
  rw [e, Option.bind_some]
  refine ⟨n, rfl, ?_⟩
  rcases hn with hn | hn
  · simp at hn ⊢; omega
  · simp; omega
theorem drawCellsWith_ok : ∃ n x d, spec_DrawCellsWith.f s = some (n, x, x + d) ∧ n ∈ [(-1 : Int), 0, 9, 1, 2, 3, 4, 5, 8] ∧ -1 ≤ x ∧ x ≤ 20 ∧ d ∈ [(1 : Int), 2, 3, 4, 5, -1, 0] := by
  unfold spec_DrawCellsWith.f
  obtain ⟨n, p, h, e, hn, p0, p1⟩ := side_ok hs hl 0 0 5 (by omega) (by omega) (by omega) (by omega)
  rw [e, Option.bind_some]
  obtain ⟨v, p2, h2, e2, v0, v1, q0, q1⟩ := pick_ok hs hl p h 22 (by omega) (by omega) (by omega)
  show ∃ n_ x_ d_, (spec_l1Cur_pick.f s p h 22).bind _ = some (n_, x_, x_ + d_) ∧ _
  rw [e2, Option.bind_some]
  obtain ⟨d, p3, h3, e3, hd, r0, r1⟩ := among_ok hs hl p2 h2 [1, 1, 2, 3, 4, 5, -1, 0] (by omega) (by omega) (by decide) (by decide)
  show ∃ n_ x_ d_, (spec_l1Cur_among.f s p2 h2 [1, 1, 2, 3, 4, 5, -1, 0]).bind _ = some (n_, x_, x_ + d_) ∧ _
  rw [e3, Option.bind_some]
  have hw : wrap64 (v - 1) = v - 1 := wrap64_id (by omega) (by omega)
  have hd2 : d ∈ [(1 : Int), 2, 3, 4, 5, -1, 0] := by simp at hd ⊢; omega
  have hw2 : wrap64 (v - 1 + d) = v - 1 + d := by simp at hd; exact wrap64_id (by omega) (by omega)
  refine ⟨n, v - 1, d, ?_, ?_, by omega, by omega, hd2⟩
  · show some (n, wrap64 (v - 1), wrap64 (wrap64 (v - 1) + d)) = _
    rw [hw, hw2]
  · rcases hn with hn | hn
    · simp at hn ⊢; omega
    · simp; omega
theorem drawIsUpCell_ok : ∃ n c, spec_DrawIsUpCell.f s = some (n, c) ∧ n ∈ [(-1 : Int), 0, 9, 1, 2, 3, 4, 5, 8] ∧ -1 ≤ c ∧ c ≤ 25 := by
  unfold spec_DrawIsUpCell.f
  obtain ⟨n, p, h, e, hn, p0, p1⟩ := side_ok hs hl 0 0 5 (by omega) (by omega) (by omega) (by omega)
  rw [e, Option.bind_some]
  obtain ⟨v, p2, h2, e2, v0, v1, q0, q1⟩ := pick_ok hs hl p h 27 (by omega) (by omega) (by omega)
  show ∃ n_ i_, (spec_l1Cur_pick.f s p h 27).bind _ = some (n_, i_) ∧ _
  rw [e2, Option.bind_some]
  refine ⟨n, wrap64 (v - 1), rfl, ?_, ?_⟩
  · rcases hn with hn | hn
    · simp at hn ⊢; omega
    · simp; omega
  · rw [wrap64_id (by omega) (by omega)]; omega
theorem drawIndexOfPoint_ok : ∃ n q, Ev (fun k => spec_DrawIndexOfPoint.f k s) (n, q) ∧ ck2 n q = some () := by
  unfold spec_DrawIndexOfPoint.f
  obtain ⟨n, p, h, e, hn, p0, p1⟩ := side_ok hs hl 0 0 6 (by omega) (by omega) (by omega) (by omega)
  by_cases hside : n ∈ [(-1 : Int), 0, 9]
  · refine ⟨n, [0, 0, 0], Ev.bind0 e ?_, ck2_fin0 n hside⟩
    refine Ev.bind0 (a := false) ?_ (Ev.neg (by decide) (Ev.pure rfl))
    show spec_meSide.f n = some false
    clear hn e
    revert n
    decide
  · have hn2 : n ∈ [(1 : Int), 2, 3, 4, 5, 6, 8] := by
      rcases hn with hn | hn
      · simp at hn hside ⊢; omega
      · simp; omega
    have hc : spec_meCount.f n = some (cnt n : Int) ∧ 1 ≤ cnt n ∧ cnt n ≤ 45 ∧ spec_meSide.f n = some true := by
      clear e hside hn
      revert n
      decide +kernel
    obtain ⟨hc1, hc2, hc3, hc4⟩ := hc
    obtain ⟨v, p2, h2, e2, v0, v1, q0, q1⟩ := pick_ok hs hl p h (cnt n) (by omega) (by omega) (by omega)
    obtain ⟨q, hq, hq3, hqb, hqv⟩ := ck2_fin n hn2 v v0 (by omega)
    obtain ⟨c, p3, h3, e3, c0, c1, r0, r1⟩ := pick_ok hs hl p2 h2 8 (by omega) (by omega) (by omega)
    have hat : Ev (fun k => spec_meAt.f k n v) q := Ev.of K (fun k => spec_meAt.mono _ _ _) hq
    have step : ∃ q', q' ∈ vars q ∧ Ev (fun k => if c = 0 then (spec_l1Cur_pick.f s p3 h3 3).bind fun bt194 => (if 0 ≤ bt194.1 then (if bt194.1 < (q.length : Int) then ((spec_l1Cur_pick.f s bt194.2.1 bt194.2.2 3).bind fun bt198 => (some (n, (q.set (bt194.1 : Int).toNat (wrap64 ((rd q bt194.1) + (wrap64 (bt198.1 - 1)))))))) else (none)) else (none)) else (if c = 1 then (if q.length < 17592186044416 then (some (n, (q ++ [0]))) else (none)) else (if c = 2 then (if 0 < (q.length : Int) then (some (n, (q.set (0 : Int).toNat 4611686018427387904))) else (none)) else (some (n, q))))) (n, q') := by
      by_cases k0 : c = 0
      · obtain ⟨a, p4, h4, e4, a0, a1, s0, s1⟩ := pick_ok hs hl p3 h3 3 (by omega) (by omega) (by omega)
        obtain ⟨d, p5, h5, e5, d0, d1, t0, t1⟩ := pick_ok hs hl p4 h4 3 (by omega) (by omega) (by omega)
        have hb : 0 ≤ rd q a ∧ rd q a ≤ 8 := hqb _ (rd_mem_of a0 (by omega))
        have hw : wrap64 (rd q a + wrap64 (d - 1)) = rd q a + (d - 1) := by rw [wrap64_id (n := d - 1) (by omega) (by omega), wrap64_id (by omega) (by omega)]
        refine ⟨q.set a.toNat (rd q a + (d - 1)), ?_, Ev.pos k0 (Ev.bind0 e4 (Ev.pos a0 (Ev.pos (show a < (q.length : Int) by omega) (Ev.bind0 e5 (Ev.pure ?_)))))⟩
        · unfold vars
          refine List.mem_cons_of_mem _ (List.mem_cons_of_mem _ (List.mem_cons_of_mem _ (List.mem_flatMap.2 ⟨a.toNat, List.mem_range.2 (by omega), List.mem_map.2 ⟨d.toNat, List.mem_range.2 (by omega), ?_⟩⟩)))
          rw [Int.toNat_of_nonneg a0, Int.toNat_of_nonneg d0]
        · show some (n, q.set a.toNat (wrap64 (rd q a + wrap64 (d - 1)))) = _
          rw [hw]
      · by_cases k1 : c = 1
        · exact ⟨(q ++ [0]), by unfold vars; simp, Ev.neg k0 (Ev.pos k1 (Ev.pos (by omega) (Ev.pure rfl)))⟩
        · by_cases k2 : c = 2
          · exact ⟨(q.set 0 4611686018427387904), by unfold vars; simp, Ev.neg k0 (Ev.neg k1 (Ev.pos k2 (Ev.pos (by omega) (Ev.pure rfl))))⟩
          · exact ⟨q, by unfold vars; simp, Ev.neg k0 (Ev.neg k1 (Ev.neg k2 (Ev.pure rfl)))⟩
    obtain ⟨q', hv, hE⟩ := step
    exact ⟨n, q', Ev.bind0 e (Ev.bind0 hc4 (Ev.pos rfl (Ev.bind0 hc1 (Ev.bind0 e2 (Ev.bind hat (Ev.bind0 e3 hE)))))), hqv q' hv⟩
end
section
variable {l0 l1 : List Int} (h0 : Bytes l0) (n0 : l0.length ≤ 1048576) (h1 : Bytes l1) (n1 : l1.length ≤ 1048576)
include h0 n0
theorem j9_ok : Ev (fun k => laws_FnTrianglesAreCut.j9 k l0) true := by
  refine Ev.succ ?_
  simp only [laws_FnTrianglesAreCut.j9]
  obtain ⟨a, x, d, e, ha, hx0, hx1, hd⟩ := drawCellsWith_ok h0 n0
  obtain ⟨b, c, e2, hb, hc0, hc1⟩ := drawIsUpCell_ok h0 n0
  have k4 := ck4_fin a ha x hx0 hx1 d hd
  have k5 := ck5_fin b hb c hc0 hc1
  unfold ck4 at k4
  unfold ck5 at k5
  obtain ⟨v1, w1, k4⟩ := Option.bind_eq_some_iff.1 k4
  obtain ⟨v2, w2, k4⟩ := Option.bind_eq_some_iff.1 k4
  obtain ⟨v3, w3, k5⟩ := Option.bind_eq_some_iff.1 k5
  obtain ⟨v4, w4, k5⟩ := Option.bind_eq_some_iff.1 k5
  refine Ev.bind0 e (Ev.bind (cw_ev w1) (Ev.bind (meCw_ev w2) (Ev.bind0 e2 (Ev.bind (up_ev w3) (Ev.bind (meUp_ev w4) ?_)))))
  refine Ev.sync_yes k4 fun k4 => ?_
  refine Ev.sync_bind (fun k => laws_uSame.mono _ _ _) k4 fun t k4 => ?_
  refine Ev.sync_yes k4 fun _ => ?_
  refine Ev.sync_yes k5 fun k5 => ?_
  by_cases hq : (v3.1 == v4.1) = true
  · rw [hq]; exact Ev.pure rfl
  · rw [if_neg hq] at k5; cases k5
theorem l1_ok (n : Int) (hn : 1 ≤ n) (hn8 : n ≤ 8) (k3 : ck3 n = true) : ∀ (m : Nat) (c s : Int), 0 ≤ c → c + m = ((cellsV n).length : Int) → 0 ≤ s → s ≤ c → ups n m c s = n * (n + 1) / 2 → Ev (fun k => laws_FnTrianglesAreCut.l1 k l0 n (cellsV n) s (cellsV n) ((cellsV n).length : Int) c) true := by
  unfold ck3 at k3
  simp only [Bool.and_eq_true, decide_eq_true_eq, beq_iff_eq] at k3
  obtain ⟨⟨⟨_, kc⟩, kl⟩, _⟩ := k3
  have hl64 : n * n ≤ 64 := by
    have : n = 1 ∨ n = 2 ∨ n = 3 ∨ n = 4 ∨ n = 5 ∨ n = 6 ∨ n = 7 ∨ n = 8 := by omega
    rcases this with rfl | rfl | rfl | rfl | rfl | rfl | rfl | rfl <;> decide
  intro m
  induction m with
  | zero =>
    intro c s c0 cm s0 s1 hu
    refine Ev.succ ?_
    simp only [laws_FnTrianglesAreCut.l1]
    refine Ev.neg (by omega) ?_
    unfold ups at hu
    have hfin : impl_CountPoints.f n = some ((n + 1) * (n + 2) / 2, true) ∧ wrap64 (n * n) = n * n ∧ wrap64 (Int.tdiv (wrap64 (n * (wrap64 (n + 1)))) 2) = n * (n + 1) / 2 ∧ wrap64 (Int.tdiv (wrap64 ((wrap64 (n + 1)) * (wrap64 (n + 2)))) 2) = (n + 1) * (n + 2) / 2 := by
      have : n = 1 ∨ n = 2 ∨ n = 3 ∨ n = 4 ∨ n = 5 ∨ n = 6 ∨ n = 7 ∨ n = 8 := by omega
      rcases this with rfl | rfl | rfl | rfl | rfl | rfl | rfl | rfl <;> decide +kernel
    obtain ⟨f1, f2, f3, f4⟩ := hfin
    refine Ev.bind0 f1 (Ev.pos (by rw [f2]; exact kl) (Ev.pos (by rw [f3]; exact hu) (Ev.pos rfl (Ev.pos (by rw [f4]) (j9_ok h0 n0)))))
  | succ m ih =>
    intro c s c0 cm s0 s1 hu
    refine Ev.succ ?_
    simp only [laws_FnTrianglesAreCut.l1]
    have hk := List.all_eq_true.1 kc c.toNat (List.mem_range.2 (by omega))
    rw [Int.toNat_of_nonneg c0] at hk
    refine Ev.pos (by omega) (Ev.pos c0 (Ev.pos (by omega) ?_))
    unfold okCell at hk
    unfold ups isUpV at hu
    cases hup : up (cellsV n) n c with
    | none => rw [hup] at hk; cases hk
    | some b =>
      rw [hup] at hk hu
      simp only [Bool.and_eq_true, Bool.or_eq_true, decide_eq_true_eq, beq_iff_eq] at hk
      obtain ⟨hb2, hless⟩ := hk
      refine Ev.bind (up_ev hup) (Ev.pos hb2 ?_)
      have fin : Ev (fun k => laws_FnTrianglesAreCut.j8 k l0 n (cellsV n) s b.1 (cellsV n) ((cellsV n).length : Int) c false) true := by
        refine Ev.succ ?_
        simp only [laws_FnTrianglesAreCut.j8]
        have hw : wrap64 (c + 1) = c + 1 := wrap64_id (by omega) (by omega)
        have hw2 : wrap64 (s + 1) = s + 1 := wrap64_id (by omega) (by omega)
        rw [hw, hw2]
        refine Ev.neg (by decide) ?_
        by_cases hb1 : b.1 = true
        · refine Ev.pos hb1 ?_
          rw [if_pos hb1] at hu
          exact ih (c + 1) (s + 1) (by omega) (by omega) (by omega) (by omega) hu
        · refine Ev.neg hb1 ?_
          rw [if_neg hb1] at hu
          exact ih (c + 1) s (by omega) (by omega) (by omega) (by omega) hu
      by_cases hc : c > 0
      · have hw : wrap64 (c - 1) = c - 1 := wrap64_id (by omega) (by omega)
        rw [hw]
        have hless := hless.resolve_left (by omega)
        refine Ev.pos hc (Ev.pos (by omega) (Ev.pos (by omega) (Ev.bind (Ev.of K (fun k => laws_uLess.mono _ _ _) hless) ?_)))
        exact fin
      · exact Ev.neg hc fin
include h1 n1
theorem j4_ok : Ev (fun k => laws_FnTrianglesAreCut.j4 k l0 l1) true := by
  refine Ev.succ ?_
  simp only [laws_FnTrianglesAreCut.j4]
  obtain ⟨m, q, e, k2⟩ := drawIndexOfPoint_ok h1 n1
  unfold ck2 at k2
  refine Ev.bind e ?_
  refine Ev.sync_bind (fun k => impl_IndexOfPoint.mono _ _ _) k2 fun b1 k2 => ?_
  refine Ev.sync_bind (fun k => spec_IndexOfPoint.mono _ _ _) k2 fun b2 k2 => ?_
  refine Ev.sync_no k2 fun k2 => ?_
  by_cases hq : (b1.1 != b2.1) = true
  · rw [if_pos hq] at k2; cases k2
  · have hq := Bool.eq_false_iff.2 hq
    rw [hq]
    refine Ev.succ ?_
    simp only [laws_FnTrianglesAreCut.j5]
    refine Ev.neg (by decide) ?_
    obtain ⟨n, e3, hn⟩ := drawCellsOf_ok h1 n1
    refine Ev.bind0 e3 ?_
    by_cases hside : n ∈ [(-1 : Int), 0, 9]
    · have hc : (∀ k, impl_CellsOf.f k n = some ([], false)) ∧ (∀ k, spec_CellsOf.f k n = some ([], false)) := by
        clear e3 hn
        have : impl_isSide.f n = some false ∧ spec_meSide.f n = some false := by
          revert n
          decide
        constructor
        · intro k; unfold impl_CellsOf.f; rw [this.1]; rfl
        · intro k; unfold spec_CellsOf.f; rw [this.2]; rfl
      refine Ev.bind (Ev.eq (Ev.pure rfl) hc.1) (Ev.bind (Ev.eq (Ev.pure rfl) hc.2) (Ev.neg (by decide) ?_))
      refine Ev.bind (Ev.of K (fun k => laws_uSameRows.mono _ _ _) (show laws_uSameRows.f K [] [] = some true by decide +kernel)) ?_
      refine Ev.succ ?_
      simp only [laws_FnTrianglesAreCut.j6]
      exact Ev.neg (by decide) (Ev.neg (by decide) (j9_ok h0 n0))
    · have hn2 : n ∈ [(1 : Int), 2, 3, 4, 5, 8] := by simp at hn hside ⊢; omega
      have hn3 : 1 ≤ n ∧ n ≤ 8 := by simp at hn2; omega
      have k3 := ck3_fin n hn2
      have hs : impl_isSide.f n = some true ∧ spec_meSide.f n = some true := by
        clear e3 hn hside hn3 k3
        revert n
        decide
      have c1 : Ev (fun k => impl_CellsOf.f k n) (cellsV n, true) := by
        unfold impl_CellsOf.f
        exact Ev.bind0 hs.1 (Ev.pos rfl (Ev.bind (cells_ev n hn3.1 hn3.2) (Ev.pure rfl)))
      have c2 : Ev (fun k => spec_CellsOf.f k n) (cellsV n, true) := by
        unfold spec_CellsOf.f
        exact Ev.bind0 hs.2 (Ev.pos rfl (Ev.bind (meCells_ev n hn3.1 hn3.2) (Ev.pure rfl)))
      have k3' := k3
      unfold ck3 at k3'
      simp only [Bool.and_eq_true, decide_eq_true_eq, beq_iff_eq] at k3'
      refine Ev.bind c1 (Ev.bind c2 (Ev.neg (by simp) ?_))
      refine Ev.bind (Ev.of K (fun k => laws_uSameRows.mono _ _ _) k3'.1.1.1) ?_
      refine Ev.succ ?_
      simp only [laws_FnTrianglesAreCut.j6]
      refine Ev.neg (by decide) (Ev.pos (by trivial) ?_)
      exact l1_ok h0 n0 n hn3.1 hn3.2 k3 (cellsV n).length 0 0 (by omega) (by omega) (by omega) (by omega) k3'.2
theorem l0_ok (n i : Int) (near : List Int) (hall : ∀ j ∈ near, okNear n i j = true) (hlen : near.length ≤ 1000) : ∀ (m : Nat) (c : Int), 0 ≤ c → c + m = (near.length : Int) → Ev (fun k => laws_FnTrianglesAreCut.l0 k l0 l1 n i near (near.length : Int) c) true := by
  intro m
  induction m with
  | zero =>
    intro c c0 cm
    refine Ev.succ ?_
    simp only [laws_FnTrianglesAreCut.l0]
    exact Ev.neg (by omega) (j4_ok h0 n0 h1 n1)
  | succ m ih =>
    intro c c0 cm
    refine Ev.succ ?_
    simp only [laws_FnTrianglesAreCut.l0]
    refine Ev.pos (by omega) (Ev.pos c0 (Ev.pos (by omega) ?_))
    have hj := hall _ (rd_mem_of c0 (by omega : c < (near.length : Int)))
    generalize rd near c = j at hj ⊢
    unfold okNear at hj
    cases e1 : impl_NeighboursOf.f K n j with
    | none => rw [e1] at hj; cases hj
    | some b =>
      cases e2 : cw (cellsV n) n i j with
      | none => rw [e1, e2] at hj; cases hj
      | some d =>
        rw [e1, e2] at hj
        simp only [Bool.and_eq_true, decide_eq_true_eq, beq_iff_eq] at hj
        obtain ⟨⟨⟨⟨a1, a2⟩, a3⟩, a4⟩, a5⟩ := hj
        have hw : wrap64 (c + 1) = c + 1 := wrap64_id (by omega) (by omega)
        rw [hw]
        refine Ev.bind (Ev.of K (fun k => impl_NeighboursOf.mono _ _ _) e1) (Ev.bind (cw_ev e2) (Ev.pos a1 (Ev.bind (Ev.of K (fun k => laws_uHas.mono _ _ _) a2) (Ev.pos rfl (Ev.pos a3 (Ev.neg a4 (Ev.neg a5 ?_)))))))
        exact ih (c + 1) (by omega) (by omega)
end
theorem FnTrianglesAreCut : laws_FnTrianglesAreCut.Pure := by
  intro l0 l1 _ _ b0 _ _ b1
  refine Ev.get (g := fun k => laws_FnTrianglesAreCut.f k l0 l1) ?_
  unfold laws_FnTrianglesAreCut.f
  rcases big_cases l0 l1 with hb | ⟨hb, n0, n1⟩
  · exact Ev.bind0 hb (Ev.pos rfl (Ev.pure rfl))
  refine Ev.bind0 hb (Ev.neg (by decide) ?_)
  have h0 := Bytes.of b0
  have h1 := Bytes.of b1
  obtain ⟨n, i, e, hn, hi0, hi1⟩ := drawPointAt_ok h0 n0
  have k1 := ck1_fin n hn i hi0 hi1
  unfold ck1 at k1
  refine Ev.bind0 e ?_
  refine Ev.sync_bind (fun k => impl_PointAt.mono _ _ _) k1 fun v1 k1 => ?_
  refine Ev.sync_bind (fun k => spec_PointAt.mono _ _ _) k1 fun v2 k1 => ?_
  refine Ev.sync_bind (fun k => impl_NeighboursOf.mono _ _ _) k1 fun v3 k1 => ?_
  refine Ev.sync_bind (fun k => spec_NeighboursOf.mono _ _ _) k1 fun v4 k1 => ?_
  refine Ev.sync_bind (fun k => impl_SidesOf.mono _ _ _) k1 fun v5 k1 => ?_
  refine Ev.sync_bind (fun k => spec_SidesOf.mono _ _ _) k1 fun v6 k1 => ?_
  refine Ev.sync_no k1 fun k1 => ?_
  refine Ev.sync_bind (fun k => laws_uSame.mono _ _ _) k1 fun t k1 => ?_
  refine Ev.sync_yes k1 fun k1 => ?_
  refine Ev.sync_no k1 fun k1 => ?_
  refine Ev.sync_bind (fun k => laws_uSame.mono _ _ _) k1 fun t k1 => ?_
  refine Ev.sync_yes k1 fun k1 => ?_
  refine Ev.sync_no k1 fun k1 => ?_
  refine Ev.sync_bind (fun k => laws_uSame.mono _ _ _) k1 fun t k1 => ?_
  refine Ev.sync_yes k1 fun k1 => ?_
  refine Ev.sync_no k1 fun k1 => ?_
  refine Ev.succ ?_
  simp only [laws_FnTrianglesAreCut.j0]
  refine Ev.sync_no k1 fun k1 => ?_
  refine Ev.sync_if k1 (fun hp k1 => ?_) (fun _ _ => j4_ok h0 n0 h1 n1)
  refine Ev.sync_bind (fun k => impl_IndexOfPoint.mono _ _ _) k1 fun v7 k1 => ?_
  refine Ev.sync_yes k1 fun k1 => ?_
  refine Ev.sync_yes k1 fun k1 => ?_
  refine Ev.sync_bind (fun k => laws_uSum.mono _ _) k1 fun v8 k1 => ?_
  refine Ev.succ ?_
  simp only [laws_FnTrianglesAreCut.j1]
  refine Ev.sync_no k1 fun k1 => ?_
  refine Ev.sync_bind (fun k => impl_BorderOf.mono _ _) k1 fun v9 k1 => ?_
  refine Ev.sync_yes k1 fun k1 => ?_
  refine Ev.sync_bind (fun k => laws_uHas.mono _ _ _) k1 fun v10 k1 => ?_
  refine Ev.succ ?_
  simp only [laws_FnTrianglesAreCut.j2]
  refine Ev.sync_no k1 fun k1 => ?_
  by_cases hall : (v3.1.all fun j => okNear n i j) = true
  · exact l0_ok h0 n0 h1 n1 n i v3.1 (fun j hj => List.all_eq_true.1 hall j hj) (by rw [if_pos hall] at k1; by_cases hlen : v3.1.length ≤ 1000; exact hlen; rw [if_neg hlen] at k1; cases k1) v3.1.length 0 (by omega) (by omega)
  · rw [if_neg hall] at k1; cases k1
end Go.Proofs.Ytckiebdehlcjoaa.Pure
