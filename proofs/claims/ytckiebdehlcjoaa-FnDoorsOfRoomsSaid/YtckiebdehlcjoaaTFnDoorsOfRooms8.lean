/- A part of the proof of the law FnDoorsOfRooms. -/
import Derived.Test.YtckiebdehlcjoaaTFnDoorsOfRooms4
namespace Go.Proofs.Ytckiebdehlcjoaa.P
open Go.Proofs.Ytckiebdehlcjoaa.Own
open Go.RowKit Go.Proofs.YtckiebdehlcjoaaW.PrintWords Go.Proofs.YtckiebdehlcjoaaW.PrintLast Go.Proofs.YtckiebdehlcjoaaW.PrintMore
attribute [local go_sem] max2_int min2_int max_two min_two max_three min_three max_four min_four   -- for this text's walks alone
set_option linter.unusedVariables false
set_option linter.unusedSimpArgs false
def impl_near.l0 : Nat → Int → Int → Int → Int → Int → Int → Int → Int → Int → Option (Bool)
  | 0, _, _, _, _, _, _, _, _, _ => none
  | k + 1, x5, x6, x9, x102000, x102001, x102002, x103000, x103001, x103002 => if x9 < 3 then (if x9 = 0 then (impl_near.l0 k (wrap64 (x5 + (mx (wrap64 (x102000 - x103000)) (wrap64 (x103000 - x102000))))) (mx x6 (mx (wrap64 (x102000 - x103000)) (wrap64 (x103000 - x102000)))) (wrap64 (x9 + 1)) x102000 x102001 x102002 x103000 x103001 x103002) else (if x9 = 1 then (impl_near.l0 k (wrap64 (x5 + (mx (wrap64 (x102001 - x103001)) (wrap64 (x103001 - x102001))))) (mx x6 (mx (wrap64 (x102001 - x103001)) (wrap64 (x103001 - x102001)))) (wrap64 (x9 + 1)) x102000 x102001 x102002 x103000 x103001 x103002) else (if x9 = 2 then (impl_near.l0 k (wrap64 (x5 + (mx (wrap64 (x102002 - x103002)) (wrap64 (x103002 - x102002))))) (mx x6 (mx (wrap64 (x102002 - x103002)) (wrap64 (x103002 - x102002)))) (wrap64 (x9 + 1)) x102000 x102001 x102002 x103000 x103001 x103002) else (none)))) else (if x5 = 2 then (some (x6 == 1)) else (some false))
def impl_near.f (k : Nat) (a0_0 : Int) (a0_1 : Int) (a0_2 : Int) (a1_0 : Int) (a1_1 : Int) (a1_2 : Int) : Option (Bool) := impl_near.l0 k 0 0 0 a0_0 a0_1 a0_2 a1_0 a1_1 a1_2
theorem impl_near.mono_l : ∀ k, (∀ y0 y1 y2 y3 y4 y5 y6 y7 y8, LeO (impl_near.l0 k y0 y1 y2 y3 y4 y5 y6 y7 y8) (impl_near.l0 (k + 1) y0 y1 y2 y3 y4 y5 y6 y7 y8))
 | 0 => fun _ _ _ _ _ _ _ _ _ r h => by simp [impl_near.l0] at h
 | k + 1 => by
  have ih0 := impl_near.mono_l k
  ·
   intro y0 y1 y2 y3 y4 y5 y6 y7 y8
   unfold impl_near.l0
   repeat' first
   | (with_reducible exact ih0 _ _ _ _ _ _ _ _ _)
   | (with_reducible exact LeO.refl _)
   | (with_reducible exact LeO.none _)
   | (with_reducible refine LeO.ite ?_ ?_)
   | (with_reducible refine LeO.bind ?_ (fun _ => ?_))
   | exact ih0 _ _ _ _ _ _ _ _ _
   | exact LeO.none _
   | refine LeO.ite ?_ ?_
   | refine LeO.bind ?_ (fun _ => ?_)
theorem impl_near.mono : ∀ a0 a1 a2 a3 a4 a5 k, LeO (impl_near.f k a0 a1 a2 a3 a4 a5) (impl_near.f (k + 1) a0 a1 a2 a3 a4 a5) := by
 intro a0 a1 a2 a3 a4 a5 k
 have ih0 := impl_near.mono_l k
 unfold impl_near.f
 repeat' first
   | (with_reducible exact ih0 _ _ _ _ _ _ _ _ _)
   | (with_reducible exact LeO.refl _)
   | (with_reducible exact LeO.none _)
   | (with_reducible refine LeO.ite ?_ ?_)
   | (with_reducible refine LeO.bind ?_ (fun _ => ?_))
   | exact ih0 _ _ _ _ _ _ _ _ _
   | exact LeO.none _
   | refine LeO.ite ?_ ?_
   | refine LeO.bind ?_ (fun _ => ?_)
set_option maxHeartbeats 8000000 in
set_option maxRecDepth 100000 in
theorem impl_near.calls (k : Nat) (a0_0 : Int) (a0_1 : Int) (a0_2 : Int) (a1_0 : Int) (a1_1 : Int) (a1_2 : Int) (r : Bool) (w : World) (h : impl_near.f k a0_0 a0_1 a0_2 a1_0 a1_1 a1_2 = some r) :
  Calls Try.prog 191 #[.agg #[.int .i64 a0_0, .int .i64 a0_1, .int .i64 a0_2], .agg #[.int .i64 a1_0, .int .i64 a1_1, .int .i64 a1_2]] w fun e w' => e = .returned (.bool r) ∧ Below w.heap.size w w' := by
 have hu109 := Try.underlying109
 have HB := zA0 (Below.refl w.heap.size w)
 have H : (impl_near.l0 k 0 0 0 a0_0 a0_1 a0_2 a1_0 a1_1 a1_2) = some r := h
 clear h
 have H' := zA0 H
 clear H
 go_enter Try.func191, Try.ntmps191
 go_wp2_with (first | ((with_reducible refine gate_dst (N := 2) rfl ?_); refine box_event ?hg (N := 2) ?hd (cs := #[.int .i64 a0_0, .int .i64 a0_1, .int .i64 a0_2]) (t := 109) ?hr ?_; (case hd => rfl); (case hg => rfl); (case hr => first | (go_simp; done) | (go_simp; rfl)); intro gb101 hg w3 hbox hb; have n0_ := zA0 (below_step (zB HB) hb); have n1_ := zA0 (hbox); have n2_ := zA0 ((by rw [hg]; exact (below_size (zB HB)) : w.heap.size ≤ gb101)); have n3_ := zA0 ((by rw [hg]; exact (below_size (zB HB)) : w.heap.size ≤ gb101)); replace HB := n0_; have BK101 := n1_; have GW101 := n2_; have GE101 := n3_; clear n0_ n1_ n2_ n3_; clear hb hbox hg) | ((with_reducible refine gate_dst (N := 3) rfl ?_); refine box_event ?hg (N := 3) ?hd (cs := #[.int .i64 a1_0, .int .i64 a1_1, .int .i64 a1_2]) (t := 109) ?hr ?_; (case hd => rfl); (case hg => rfl); (case hr => first | (go_simp; done) | (go_simp; rfl)); intro gb102 hg w4 hbox hb; have n0_ := zA0 (blk_below (g := gb101) (o := .cells #[.int .i64 a0_0, .int .i64 a0_1, .int .i64 a0_2] 109 (0, 0)) (zQ BK101) hb); have n1_ := zA0 (below_step (by repeat (first | (with_reducible first | exact HB.out | apply zpA | apply zpN | apply zpD | refine below_set ?_ GE101.out) | exact HB.out)) hb); have n2_ := zA0 (hbox); have n3_ := zA0 ((by rw [hg]; exact (below_size (by repeat (first | (with_reducible first | exact HB.out | apply zpA | apply zpN | apply zpD | refine below_set ?_ GE101.out) | exact HB.out))) : w.heap.size ≤ gb102)); have n4_ := zA0 ((by rw [hg]; exact (below_size (by repeat (first | (with_reducible first | exact HB.out | apply zpA | apply zpN | apply zpD | refine below_set ?_ GE101.out) | exact HB.out))) : w.heap.size ≤ gb102)); have n5_ := zA0 ((by rw [hg]; exact Nat.ne_of_lt (blk_lt (g := gb101) (o := .cells #[.int .i64 a0_0, .int .i64 a0_1, .int .i64 a0_2] 109 (0, 0)) (zQ BK101)) : gb101 ≠ gb102)); have n6_ := zA0 ((by rw [hg]; exact Nat.ne_of_gt (blk_lt (g := gb101) (o := .cells #[.int .i64 a0_0, .int .i64 a0_1, .int .i64 a0_2] 109 (0, 0)) (zQ BK101)) : gb102 ≠ gb101)); replace BK101 := n0_; replace HB := n1_; have BK102 := n2_; have GW102 := n3_; have GE102 := n4_; have NB101_102 := n5_; have NB102_101 := n6_; clear n0_ n1_ n2_ n3_ n4_ n5_ n6_; clear hb hbox hg))
 repeat (go_quiet (first | ((with_reducible refine gate_dst (N := 2) rfl ?_); refine box_event ?hg (N := 2) ?hd (cs := #[.int .i64 a0_0, .int .i64 a0_1, .int .i64 a0_2]) (t := 109) ?hr ?_; (case hd => rfl); (case hg => rfl); (case hr => first | (go_simp; done) | (go_simp; rfl)); intro gb101 hg w3 hbox hb; have n0_ := zA0 (below_step (zB HB) hb); have n1_ := zA0 (hbox); have n2_ := zA0 ((by rw [hg]; exact (below_size (zB HB)) : w.heap.size ≤ gb101)); have n3_ := zA0 ((by rw [hg]; exact (below_size (zB HB)) : w.heap.size ≤ gb101)); replace HB := n0_; have BK101 := n1_; have GW101 := n2_; have GE101 := n3_; clear n0_ n1_ n2_ n3_; clear hb hbox hg) | ((with_reducible refine gate_dst (N := 3) rfl ?_); refine box_event ?hg (N := 3) ?hd (cs := #[.int .i64 a1_0, .int .i64 a1_1, .int .i64 a1_2]) (t := 109) ?hr ?_; (case hd => rfl); (case hg => rfl); (case hr => first | (go_simp; done) | (go_simp; rfl)); intro gb102 hg w4 hbox hb; have n0_ := zA0 (blk_below (g := gb101) (o := .cells #[.int .i64 a0_0, .int .i64 a0_1, .int .i64 a0_2] 109 (0, 0)) (zQ BK101) hb); have n1_ := zA0 (below_step (by repeat (first | (with_reducible first | exact HB.out | apply zpA | apply zpN | apply zpD | refine below_set ?_ GE101.out) | exact HB.out)) hb); have n2_ := zA0 (hbox); have n3_ := zA0 ((by rw [hg]; exact (below_size (by repeat (first | (with_reducible first | exact HB.out | apply zpA | apply zpN | apply zpD | refine below_set ?_ GE101.out) | exact HB.out))) : w.heap.size ≤ gb102)); have n4_ := zA0 ((by rw [hg]; exact (below_size (by repeat (first | (with_reducible first | exact HB.out | apply zpA | apply zpN | apply zpD | refine below_set ?_ GE101.out) | exact HB.out))) : w.heap.size ≤ gb102)); have n5_ := zA0 ((by rw [hg]; exact Nat.ne_of_lt (blk_lt (g := gb101) (o := .cells #[.int .i64 a0_0, .int .i64 a0_1, .int .i64 a0_2] 109 (0, 0)) (zQ BK101)) : gb101 ≠ gb102)); have n6_ := zA0 ((by rw [hg]; exact Nat.ne_of_gt (blk_lt (g := gb101) (o := .cells #[.int .i64 a0_0, .int .i64 a0_1, .int .i64 a0_2] 109 (0, 0)) (zQ BK101)) : gb102 ≠ gb101)); replace BK101 := n0_; replace HB := n1_; have BK102 := n2_; have GW102 := n3_; have GE102 := n4_; have NB101_102 := n5_; have NB102_101 := n6_; clear n0_ n1_ n2_ n3_ n4_ n5_ n6_; clear hb hbox hg)); try go_wp2_with (first | ((with_reducible refine gate_dst (N := 2) rfl ?_); refine box_event ?hg (N := 2) ?hd (cs := #[.int .i64 a0_0, .int .i64 a0_1, .int .i64 a0_2]) (t := 109) ?hr ?_; (case hd => rfl); (case hg => rfl); (case hr => first | (go_simp; done) | (go_simp; rfl)); intro gb101 hg w3 hbox hb; have n0_ := zA0 (below_step (zB HB) hb); have n1_ := zA0 (hbox); have n2_ := zA0 ((by rw [hg]; exact (below_size (zB HB)) : w.heap.size ≤ gb101)); have n3_ := zA0 ((by rw [hg]; exact (below_size (zB HB)) : w.heap.size ≤ gb101)); replace HB := n0_; have BK101 := n1_; have GW101 := n2_; have GE101 := n3_; clear n0_ n1_ n2_ n3_; clear hb hbox hg) | ((with_reducible refine gate_dst (N := 3) rfl ?_); refine box_event ?hg (N := 3) ?hd (cs := #[.int .i64 a1_0, .int .i64 a1_1, .int .i64 a1_2]) (t := 109) ?hr ?_; (case hd => rfl); (case hg => rfl); (case hr => first | (go_simp; done) | (go_simp; rfl)); intro gb102 hg w4 hbox hb; have n0_ := zA0 (blk_below (g := gb101) (o := .cells #[.int .i64 a0_0, .int .i64 a0_1, .int .i64 a0_2] 109 (0, 0)) (zQ BK101) hb); have n1_ := zA0 (below_step (by repeat (first | (with_reducible first | exact HB.out | apply zpA | apply zpN | apply zpD | refine below_set ?_ GE101.out) | exact HB.out)) hb); have n2_ := zA0 (hbox); have n3_ := zA0 ((by rw [hg]; exact (below_size (by repeat (first | (with_reducible first | exact HB.out | apply zpA | apply zpN | apply zpD | refine below_set ?_ GE101.out) | exact HB.out))) : w.heap.size ≤ gb102)); have n4_ := zA0 ((by rw [hg]; exact (below_size (by repeat (first | (with_reducible first | exact HB.out | apply zpA | apply zpN | apply zpD | refine below_set ?_ GE101.out) | exact HB.out))) : w.heap.size ≤ gb102)); have n5_ := zA0 ((by rw [hg]; exact Nat.ne_of_lt (blk_lt (g := gb101) (o := .cells #[.int .i64 a0_0, .int .i64 a0_1, .int .i64 a0_2] 109 (0, 0)) (zQ BK101)) : gb101 ≠ gb102)); have n6_ := zA0 ((by rw [hg]; exact Nat.ne_of_gt (blk_lt (g := gb101) (o := .cells #[.int .i64 a0_0, .int .i64 a0_1, .int .i64 a0_2] 109 (0, 0)) (zQ BK101)) : gb102 ≠ gb101)); replace BK101 := n0_; replace HB := n1_; have BK102 := n2_; have GW102 := n3_; have GE102 := n4_; have NB101_102 := n5_; have NB102_101 := n6_; clear n0_ n1_ n2_ n3_ n4_ n5_ n6_; clear hb hbox hg)))
 go_loopg [5, 6, 9] k (fun kq v5 v6 v9 w' => ∃ (x5_1 : Int) (x6_1 : Int) (x9_1 : Int), v5 = .int .i64 x5_1 ∧ v6 = .int .i64 x6_1 ∧ v9 = .int .i64 x9_1 ∧ Aside0 (impl_near.l0 kq x5_1 x6_1 x9_1 a0_0 a0_1 a0_2 a1_0 a1_1 a1_2 = some r) ∧ Aside0 (kq ≤ k) ∧ Aside0 (w'.heap[gb101]? = some (.cells #[.int .i64 a0_0, .int .i64 a0_1, .int .i64 a0_2] 109 (0, 0))) ∧ Aside0 (w'.heap[gb102]? = some (.cells #[.int .i64 a1_0, .int .i64 a1_1, .int .i64 a1_2] 109 (0, 0))) ∧ Aside0 (Below w.heap.size w w'))
 case atStart => exact ⟨(0), (0), (0), (by first | rfl | (simp; done) | (simp [*]; done) | (simp; decide) | (simp; unfold wrap64; omega)), (by first | rfl | (simp; done) | (simp [*]; done) | (simp; decide) | (simp; unfold wrap64; omega)), (by first | rfl | (simp; done) | (simp [*]; done) | (simp; decide) | (simp; unfold wrap64; omega)), H', ⟨Nat.le_refl _⟩, ⟨by (with_reducible repeat (first | refine blk_drewN ?_ _ | refine blk_drew ?_ | refine blk_alloc ?_ _)); exact BK101.out⟩, ⟨by (with_reducible repeat (first | refine blk_drewN ?_ _ | refine blk_drew ?_ | refine blk_alloc ?_ _)); exact BK102.out⟩, ⟨by repeat (first | (with_reducible first | exact HB.out | apply zpA | apply zpN | apply zpD | refine below_set ?_ GE101.out | refine below_set ?_ GE102.out) | exact HB.out)⟩⟩
 case round =>
  clear H'
  try clear c1
  try clear p2
  obtain ⟨x5_1, x6_1, x9_1, rfl, rfl, rfl, HA, HK1, BK101, BK102, HB⟩ := hrel
  cases gk with
  | zero => exact absurd HA.out (by simp [impl_near.l0])
  | succ k1 =>
   have H := HA.out
   clear HA
   simp only [impl_near.l0] at H
   by_cases c5 : x9_1 < 3
   ·
    rw [if_pos c5] at H
    have c5b0 : decide (x9_1 < 3) = true := decide_eq_true c5
    clear c5
    by_cases c6 : x9_1 = 0
    ·
     subst c6
     rw [if_pos rfl] at H
     obtain ⟨ji7, hji7⟩ : ∃ j_ : Int, (mx (wrap64 (a0_0 - a1_0)) (wrap64 (a1_0 - a0_0))) = j_ := ⟨_, rfl⟩
     replace H : (impl_near.l0 k1 (wrap64 (x5_1 + (ji7))) (mx x6_1 (ji7)) (wrap64 (0 + 1)) a0_0 a0_1 a0_2 a1_0 a1_1 a1_2) = some r := by first | (rw [hji7] at H; exact H) | (simp only [hji7] at H ⊢; exact H)
     have hji7_ : (if (wrap64 (a0_0 - a1_0)) < (wrap64 (a1_0 - a0_0)) then (wrap64 (a1_0 - a0_0)) else (wrap64 (a0_0 - a1_0))) = ji7 := hji7
     obtain ⟨ji8, hji8⟩ : ∃ j_ : Int, (mx x6_1 (ji7)) = j_ := ⟨_, rfl⟩
     replace H : (impl_near.l0 k1 (wrap64 (x5_1 + (ji7))) ji8 (wrap64 (0 + 1)) a0_0 a0_1 a0_2 a1_0 a1_1 a1_2) = some r := by first | (rw [hji8] at H; exact H) | (simp only [hji8] at H ⊢; exact H)
     have hji8_ : (if x6_1 < (ji7) then (ji7) else x6_1) = ji8 := hji8
     have H' := zA0 H
     clear H
     have hnb9 := NB101_102.out
     have hnc9 := NB102_101.out
     have hcz10_0 : wr.cell? ⟨gb101, 0, none⟩ = some (.int .i64 a0_0) := (blk_cell BK101.out 0).trans rfl
     have hcz10_1 : wr.cell? ⟨gb101, 1, none⟩ = some (.int .i64 a0_1) := (blk_cell BK101.out 1).trans rfl
     have hcz10_2 : wr.cell? ⟨gb101, 2, none⟩ = some (.int .i64 a0_2) := (blk_cell BK101.out 2).trans rfl
     have hfz10_0 := blk_frozen BK101.out 0
     have hfz10_1 := blk_frozen BK101.out 1
     have hfz10_2 := blk_frozen BK101.out 2
     have hcz11_0 : wr.cell? ⟨gb102, 0, none⟩ = some (.int .i64 a1_0) := (blk_cell BK102.out 0).trans rfl
     have hcz11_1 : wr.cell? ⟨gb102, 1, none⟩ = some (.int .i64 a1_1) := (blk_cell BK102.out 1).trans rfl
     have hcz11_2 : wr.cell? ⟨gb102, 2, none⟩ = some (.int .i64 a1_2) := (blk_cell BK102.out 2).trans rfl
     have hfz11_0 := blk_frozen BK102.out 0
     have hfz11_1 := blk_frozen BK102.out 1
     have hfz11_2 := blk_frozen BK102.out 2
     go_wp2
     repeat (go_quiet (fail); try go_wp2)
     go_roundg k1
     case measure => have := HK1.out; omega
     case rel => exact ⟨(wrap64 (x5_1 + (ji7))), (ji8), (wrap64 (0 + 1)), (by first | rfl | (simp; done) | (simp only [← hji7] <;> (first | rfl | simp)) | (simp [*]; done)), (by first | rfl | (simp; done) | (simp only [← hji8] <;> (first | rfl | simp)) | (simp [*]; done)), (by first | rfl | (simp; done) | (simp [*]; done) | (simp; decide) | (simp; unfold wrap64; omega)), H', ⟨by have := HK1.out; omega⟩, ⟨by (with_reducible repeat (first | refine blk_drewN ?_ _ | refine blk_drew ?_ | refine blk_alloc ?_ _)); exact BK101.out⟩, ⟨by (with_reducible repeat (first | refine blk_drewN ?_ _ | refine blk_drew ?_ | refine blk_alloc ?_ _)); exact BK102.out⟩, ⟨by repeat (first | (with_reducible first | exact HB.out | apply zpA | apply zpN | apply zpD | refine below_set ?_ GE101.out | refine below_set ?_ GE102.out) | exact HB.out)⟩⟩
    ·
     rw [if_neg c6] at H
     clear c6
     by_cases c12 : x9_1 = 1
     ·
      subst c12
      rw [if_pos rfl] at H
      obtain ⟨ji13, hji13⟩ : ∃ j_ : Int, (mx (wrap64 (a0_1 - a1_1)) (wrap64 (a1_1 - a0_1))) = j_ := ⟨_, rfl⟩
      replace H : (impl_near.l0 k1 (wrap64 (x5_1 + (ji13))) (mx x6_1 (ji13)) (wrap64 (1 + 1)) a0_0 a0_1 a0_2 a1_0 a1_1 a1_2) = some r := by first | (rw [hji13] at H; exact H) | (simp only [hji13] at H ⊢; exact H)
      have hji13_ : (if (wrap64 (a0_1 - a1_1)) < (wrap64 (a1_1 - a0_1)) then (wrap64 (a1_1 - a0_1)) else (wrap64 (a0_1 - a1_1))) = ji13 := hji13
      obtain ⟨ji14, hji14⟩ : ∃ j_ : Int, (mx x6_1 (ji13)) = j_ := ⟨_, rfl⟩
      replace H : (impl_near.l0 k1 (wrap64 (x5_1 + (ji13))) ji14 (wrap64 (1 + 1)) a0_0 a0_1 a0_2 a1_0 a1_1 a1_2) = some r := by first | (rw [hji14] at H; exact H) | (simp only [hji14] at H ⊢; exact H)
      have hji14_ : (if x6_1 < (ji13) then (ji13) else x6_1) = ji14 := hji14
      have H' := zA0 H
      clear H
      have hnb15 := NB101_102.out
      have hnc15 := NB102_101.out
      have hcz16_0 : wr.cell? ⟨gb101, 0, none⟩ = some (.int .i64 a0_0) := (blk_cell BK101.out 0).trans rfl
      have hcz16_1 : wr.cell? ⟨gb101, 1, none⟩ = some (.int .i64 a0_1) := (blk_cell BK101.out 1).trans rfl
      have hcz16_2 : wr.cell? ⟨gb101, 2, none⟩ = some (.int .i64 a0_2) := (blk_cell BK101.out 2).trans rfl
      have hfz16_0 := blk_frozen BK101.out 0
      have hfz16_1 := blk_frozen BK101.out 1
      have hfz16_2 := blk_frozen BK101.out 2
      have hcz17_0 : wr.cell? ⟨gb102, 0, none⟩ = some (.int .i64 a1_0) := (blk_cell BK102.out 0).trans rfl
      have hcz17_1 : wr.cell? ⟨gb102, 1, none⟩ = some (.int .i64 a1_1) := (blk_cell BK102.out 1).trans rfl
      have hcz17_2 : wr.cell? ⟨gb102, 2, none⟩ = some (.int .i64 a1_2) := (blk_cell BK102.out 2).trans rfl
      have hfz17_0 := blk_frozen BK102.out 0
      have hfz17_1 := blk_frozen BK102.out 1
      have hfz17_2 := blk_frozen BK102.out 2
      go_wp2
      repeat (go_quiet (fail); try go_wp2)
      go_roundg k1
      case measure => have := HK1.out; omega
      case rel => exact ⟨(wrap64 (x5_1 + (ji13))), (ji14), (wrap64 (1 + 1)), (by first | rfl | (simp; done) | (simp only [← hji13] <;> (first | rfl | simp)) | (simp [*]; done)), (by first | rfl | (simp; done) | (simp only [← hji14] <;> (first | rfl | simp)) | (simp [*]; done)), (by first | rfl | (simp; done) | (simp [*]; done) | (simp; decide) | (simp; unfold wrap64; omega)), H', ⟨by have := HK1.out; omega⟩, ⟨by (with_reducible repeat (first | refine blk_drewN ?_ _ | refine blk_drew ?_ | refine blk_alloc ?_ _)); exact BK101.out⟩, ⟨by (with_reducible repeat (first | refine blk_drewN ?_ _ | refine blk_drew ?_ | refine blk_alloc ?_ _)); exact BK102.out⟩, ⟨by repeat (first | (with_reducible first | exact HB.out | apply zpA | apply zpN | apply zpD | refine below_set ?_ GE101.out | refine below_set ?_ GE102.out) | exact HB.out)⟩⟩
     ·
      rw [if_neg c12] at H
      clear c12
      by_cases c18 : x9_1 = 2
      ·
       subst c18
       rw [if_pos rfl] at H
       obtain ⟨ji19, hji19⟩ : ∃ j_ : Int, (mx (wrap64 (a0_2 - a1_2)) (wrap64 (a1_2 - a0_2))) = j_ := ⟨_, rfl⟩
       replace H : (impl_near.l0 k1 (wrap64 (x5_1 + (ji19))) (mx x6_1 (ji19)) (wrap64 (2 + 1)) a0_0 a0_1 a0_2 a1_0 a1_1 a1_2) = some r := by first | (rw [hji19] at H; exact H) | (simp only [hji19] at H ⊢; exact H)
       have hji19_ : (if (wrap64 (a0_2 - a1_2)) < (wrap64 (a1_2 - a0_2)) then (wrap64 (a1_2 - a0_2)) else (wrap64 (a0_2 - a1_2))) = ji19 := hji19
       obtain ⟨ji20, hji20⟩ : ∃ j_ : Int, (mx x6_1 (ji19)) = j_ := ⟨_, rfl⟩
       replace H : (impl_near.l0 k1 (wrap64 (x5_1 + (ji19))) ji20 (wrap64 (2 + 1)) a0_0 a0_1 a0_2 a1_0 a1_1 a1_2) = some r := by first | (rw [hji20] at H; exact H) | (simp only [hji20] at H ⊢; exact H)
       have hji20_ : (if x6_1 < (ji19) then (ji19) else x6_1) = ji20 := hji20
       have H' := zA0 H
       clear H
       have hnb21 := NB101_102.out
       have hnc21 := NB102_101.out
       have hcz22_0 : wr.cell? ⟨gb101, 0, none⟩ = some (.int .i64 a0_0) := (blk_cell BK101.out 0).trans rfl
       have hcz22_1 : wr.cell? ⟨gb101, 1, none⟩ = some (.int .i64 a0_1) := (blk_cell BK101.out 1).trans rfl
       have hcz22_2 : wr.cell? ⟨gb101, 2, none⟩ = some (.int .i64 a0_2) := (blk_cell BK101.out 2).trans rfl
       have hfz22_0 := blk_frozen BK101.out 0
       have hfz22_1 := blk_frozen BK101.out 1
       have hfz22_2 := blk_frozen BK101.out 2
       have hcz23_0 : wr.cell? ⟨gb102, 0, none⟩ = some (.int .i64 a1_0) := (blk_cell BK102.out 0).trans rfl
       have hcz23_1 : wr.cell? ⟨gb102, 1, none⟩ = some (.int .i64 a1_1) := (blk_cell BK102.out 1).trans rfl
       have hcz23_2 : wr.cell? ⟨gb102, 2, none⟩ = some (.int .i64 a1_2) := (blk_cell BK102.out 2).trans rfl
       have hfz23_0 := blk_frozen BK102.out 0
       have hfz23_1 := blk_frozen BK102.out 1
       have hfz23_2 := blk_frozen BK102.out 2
       go_wp2
       repeat (go_quiet (fail); try go_wp2)
       go_roundg k1
       case measure => have := HK1.out; omega
       case rel => exact ⟨(wrap64 (x5_1 + (ji19))), (ji20), (wrap64 (2 + 1)), (by first | rfl | (simp; done) | (simp only [← hji19] <;> (first | rfl | simp)) | (simp [*]; done)), (by first | rfl | (simp; done) | (simp only [← hji20] <;> (first | rfl | simp)) | (simp [*]; done)), (by first | rfl | (simp; done) | (simp [*]; done) | (simp; decide) | (simp; unfold wrap64; omega)), H', ⟨by have := HK1.out; omega⟩, ⟨by (with_reducible repeat (first | refine blk_drewN ?_ _ | refine blk_drew ?_ | refine blk_alloc ?_ _)); exact BK101.out⟩, ⟨by (with_reducible repeat (first | refine blk_drewN ?_ _ | refine blk_drew ?_ | refine blk_alloc ?_ _)); exact BK102.out⟩, ⟨by repeat (first | (with_reducible first | exact HB.out | apply zpA | apply zpN | apply zpD | refine below_set ?_ GE101.out | refine below_set ?_ GE102.out) | exact HB.out)⟩⟩
      ·
       rw [if_neg c18] at H
       clear c18
       exact absurd H (by simp)
   ·
    rw [if_neg c5] at H
    have c5b0 : decide (x9_1 < 3) = false := decide_eq_false c5
    clear c5
    by_cases c24 : x5_1 = 2
    ·
     rw [if_pos c24] at H
     have c24b0 : (x5_1 == 2) = true := beq_iff_eq.mpr c24
     have c24b1 : (x5_1 != 2) = false := bne_eq_false_iff_eq.mpr c24
     clear c24
     obtain rfl := Option.some.inj H
     go_wp2
     repeat (go_quiet (fail); try go_wp2)
     go_ret
     exact ⟨by first | rfl | (simp [errW_none, errW_some] <;> rfl) | (simp [*, errW_none, errW_some] <;> rfl), by repeat (first | (with_reducible first | exact HB.out | apply zpA | apply zpN | apply zpD | refine below_set ?_ GE101.out | refine below_set ?_ GE102.out) | exact HB.out)⟩
    ·
     rw [if_neg c24] at H
     have c24b0 : (x5_1 == 2) = false := beq_eq_false_iff_ne.mpr c24
     have c24b1 : (x5_1 != 2) = true := bne_iff_ne.mpr c24
     obtain rfl := Option.some.inj H
     go_wp2
     repeat (go_quiet (fail); try go_wp2)
     go_ret
     exact ⟨by first | rfl | (simp [errW_none, errW_some] <;> rfl) | (simp [*, errW_none, errW_some] <;> rfl), by repeat (first | (with_reducible first | exact HB.out | apply zpA | apply zpN | apply zpD | refine below_set ?_ GE101.out | refine below_set ?_ GE102.out) | exact HB.out)⟩
mutual
def impl_points.l0 : Nat → Int → List (S109) → Int → Option ((List (S109)))
  | 0, _, _, _ => none
  | k + 1, x0, x3, x4 => if x4 ≥ 0 then (impl_points.l1 k x0 x3 x4 (wrap64 (x0 - x4))) else (some x3)
def impl_points.l1 : Nat → Int → List (S109) → Int → Int → Option ((List (S109)))
  | 0, _, _, _, _ => none
  | k + 1, x0, x3, x4, x5 => if x5 ≥ 0 then (if x3.length < 5864062014805 then (impl_points.l1 k x0 (x3 ++ [(⟨x4, x5, wrap64 ((wrap64 (x0 - x4)) - x5)⟩ : S109)]) x4 (wrap64 (x5 - 1))) else (none)) else (impl_points.l0 k x0 x3 (wrap64 (x4 - 1)))
end
def impl_points.f (k : Nat) (a0 : Int) : Option ((List (S109))) := impl_points.l0 k a0 (([] : List (S109))) a0
theorem impl_points.mono_l : ∀ k, (∀ y0 y1 y2, LeO (impl_points.l0 k y0 y1 y2) (impl_points.l0 (k + 1) y0 y1 y2)) ∧ (∀ y0 y1 y2 y3, LeO (impl_points.l1 k y0 y1 y2 y3) (impl_points.l1 (k + 1) y0 y1 y2 y3))
 | 0 => ⟨fun _ _ _ r h => by simp [impl_points.l0] at h, fun _ _ _ _ r h => by simp [impl_points.l1] at h⟩
 | k + 1 => by
  obtain ⟨ih0, ih1⟩ := impl_points.mono_l k
  refine ⟨?_, ?_⟩
  ·
   intro y0 y1 y2
   unfold impl_points.l0
   repeat' first
   | (with_reducible exact ih0 _ _ _)
   | (with_reducible exact ih1 _ _ _ _)
   | (with_reducible exact LeO.refl _)
   | (with_reducible exact LeO.none _)
   | (with_reducible refine LeO.ite ?_ ?_)
   | (with_reducible refine LeO.bind ?_ (fun _ => ?_))
   | exact ih0 _ _ _
   | exact ih1 _ _ _ _
   | exact LeO.none _
   | refine LeO.ite ?_ ?_
   | refine LeO.bind ?_ (fun _ => ?_)
  ·
   intro y0 y1 y2 y3
   unfold impl_points.l1
   repeat' first
   | (with_reducible exact ih0 _ _ _)
   | (with_reducible exact ih1 _ _ _ _)
   | (with_reducible exact LeO.refl _)
   | (with_reducible exact LeO.none _)
   | (with_reducible refine LeO.ite ?_ ?_)
   | (with_reducible refine LeO.bind ?_ (fun _ => ?_))
   | exact ih0 _ _ _
   | exact ih1 _ _ _ _
   | exact LeO.none _
   | refine LeO.ite ?_ ?_
   | refine LeO.bind ?_ (fun _ => ?_)
theorem impl_points.mono : ∀ a0 k, LeO (impl_points.f k a0) (impl_points.f (k + 1) a0) := by
 intro a0 k
 obtain ⟨ih0, ih1⟩ := impl_points.mono_l k
 unfold impl_points.f
 repeat' first
   | (with_reducible exact ih0 _ _ _)
   | (with_reducible exact ih1 _ _ _ _)
   | (with_reducible exact LeO.refl _)
   | (with_reducible exact LeO.none _)
   | (with_reducible refine LeO.ite ?_ ?_)
   | (with_reducible refine LeO.bind ?_ (fun _ => ?_))
   | exact ih0 _ _ _
   | exact ih1 _ _ _ _
   | exact LeO.none _
   | refine LeO.ite ?_ ?_
   | refine LeO.bind ?_ (fun _ => ?_)
set_option maxHeartbeats 8000000 in
set_option maxRecDepth 100000 in
theorem impl_points.calls (k : Nat) (a0 : Int) (r : List (S109)) (w : World) (h : impl_points.f k a0 = some r) :
  Calls Try.prog 169 #[.int .i64 a0] w fun e w' => ∃ v0_ : Value, e = .returned (v0_) ∧ Kd.R k109 109 w' w.heap.size (fun _ => True) v0_ r ∧ Below w.heap.size w w' := by
 have hu109 := Try.underlying109
 have HB := zA0 (Below.refl w.heap.size w)
 have H : (impl_points.l0 k a0 (([] : List (S109))) a0) = some r := h
 clear h
 obtain ⟨y103, hy103⟩ : ∃ y_ : List (S109), y_ = (([] : List (S109))) := ⟨_, rfl⟩
 replace H : (impl_points.l0 k a0 y103 a0) = some r := by first | (rw [hy103]; with_reducible exact H) | (have H2_ := (Option.bind_some _ _).symm.trans H; rw [hy103]; with_reducible exact H2_) | (have H2_ := (Option.bind_some _ _).symm.trans H; with_reducible exact H2_) | with_reducible exact H | (rw [hy103]; exact H) | exact H
 have Ny103 := zA0 hy103
 clear hy103
 have H' := zA0 H
 clear H
 go_enter Try.func169, Try.ntmps169
 go_wp2_with (first | ((with_reducible refine gate_dst (N := 6) rfl ?_); refine Kd.R_lit k109 _ 109 ?hg (N := 6) ?hd (xs := ([] : List (S109))) (inner := []) (ok := fun _ => True) (okp := fun _ => True) ?hr ?hp (fun _ hk => hk) trivial (Below.refl _ _) (Nat.le_refl _) (by simp) ?_; (case hd => rfl); (case hg => rfl); (case hr => first | (go_simp; done) | (go_simp; rfl)); (case hp => exact (Reps.none _ _)); intro v104 w2 ho3 hb hg_ hnew_; clear hg_ hnew_; (first | rw [← Ny103.out] at ho3 | (simp only [Int.reduceToNat] at ho3; rw [← Ny103.out] at ho3)); have n0_ := zA0 (Kd.R_lower ho3 (below_size (zB HB))); have n1_ := zA0 (below_step (zB HB) hb); have HO105 := n0_; replace HB := n1_; clear n0_ n1_; clear hb ho3))
 go_loopg [3, 4] k (fun kq v3 v4 w' => ∃ (x3_1 : List (S109)) (x4_1 : Int), v4 = .int .i64 x4_1 ∧ Aside0 (impl_points.l0 kq a0 x3_1 x4_1 = some r) ∧ Aside0 (kq ≤ k) ∧ Aside0 (Kd.R k109 109 w' w.heap.size (fun _ => True) v3 x3_1) ∧ Aside0 (Below w.heap.size w w'))
 case atStart => exact ⟨(y103), (a0), (by first | rfl | (simp; done) | (simp [*]; done) | (simp; decide) | (simp; unfold wrap64; omega)), H', ⟨Nat.le_refl _⟩, ⟨zR HO105⟩, ⟨zB HB⟩⟩
 case round =>
  clear H'
  try clear c1
  try clear p2
  obtain ⟨x3_1, x4_1, rfl, HA, HK1, HO_3, HB⟩ := hrel
  cases gk with
  | zero => exact absurd HA.out (by simp [impl_points.l0])
  | succ k1 =>
   have H := HA.out
   clear HA
   simp only [impl_points.l0] at H
   by_cases c4 : x4_1 ≥ 0
   ·
    rw [if_pos c4] at H
    have c4b0 : decide (0 ≤ x4_1) = true := decide_eq_true c4
    clear c4
    have H' := zA0 H
    clear H
    go_wp2
    go_loopg [3, 5] k1 (fun kq v3 v5 w' => ∃ (x3_2 : List (S109)) (x5_2 : Int), v5 = .int .i64 x5_2 ∧ Aside0 (impl_points.l1 kq a0 x3_2 x4_1 x5_2 = some r) ∧ Aside0 (kq ≤ k1) ∧ Aside0 (Kd.R k109 109 w' w.heap.size (fun _ => True) v3 x3_2) ∧ Aside0 (Below w.heap.size w w'))
    case atStart => exact ⟨(x3_1), (wrap64 (a0 - x4_1)), (by first | rfl | (simp; done) | (simp [*]; done) | (simp; decide) | (simp; unfold wrap64; omega)), H', ⟨Nat.le_refl _⟩, ⟨zR HO_3⟩, ⟨zB HB⟩⟩
    case round =>
     clear H'
     try clear c1
     try clear p2
     try clear c4
     try clear c4b0
     try clear p2
     obtain ⟨x3_2, x5_2, rfl, HA, HK2, HO_3, HB⟩ := hrel
     cases gk with
     | zero => exact absurd HA.out (by simp [impl_points.l1])
     | succ k2 =>
      have H := HA.out
      clear HA
      simp only [impl_points.l1] at H
      by_cases c5 : x5_2 ≥ 0
      ·
       rw [if_pos c5] at H
       have c5b0 : decide (0 ≤ x5_2) = true := decide_eq_true c5
       clear c5
       by_cases c6 : x3_2.length < 5864062014805
       ·
        rw [if_pos c6] at H
        have LMc6 := zA0 c6
        clear c6
        obtain ⟨y106, hy106⟩ : ∃ y_ : List (S109), y_ = (x3_2 ++ [(⟨x4_1, x5_2, wrap64 ((wrap64 (a0 - x4_1)) - x5_2)⟩ : S109)]) := ⟨_, rfl⟩
        replace H : (impl_points.l1 k2 a0 y106 x4_1 (wrap64 (x5_2 - 1))) = some r := by first | (rw [hy106]; with_reducible exact H) | (have H2_ := (Option.bind_some _ _).symm.trans H; rw [hy106]; with_reducible exact H2_) | (have H2_ := (Option.bind_some _ _).symm.trans H; with_reducible exact H2_) | with_reducible exact H | (rw [hy106]; exact H) | exact H
        have Ny106 := zA0 hy106
        clear hy106
        have H' := zA0 H
        clear H
        go_wp2_with (first | ((with_reducible refine gate_builtin (b := .append) (xs := #[.tmp 19, .tmp 28]) rfl ?_); at_builtin; refine Kd.R_append k109 (w0 := w) w.heap.size rfl (.tmp 19) (.tmp 28) 116 109 (.agg #[(.int .i64 0), (.int .i64 0), (.int .i64 0)]) 24 rfl Try.underlying116 info109 rfl (by decide) (by omega) u3 x3_2 (⟨x4_1, x5_2, wrap64 ((wrap64 (a0 - x4_1)) - x5_2)⟩ : S109) [.int .i64 x4_1, .int .i64 x5_2, .int .i64 (wrap64 ((wrap64 (a0 - x4_1)) - x5_2))] (fun _ => True) (fun _ => False) rfl rfl ?aP (fun _ hk => hk.elim) ?aF ?aO ?aB ?aS ?aL ?_; (case aP => exact k109_mkM _ _ _ (⟨x4_1, x5_2, wrap64 ((wrap64 (a0 - x4_1)) - x5_2)⟩ : S109)); (case aB => exact (zB HB)); (case aF => exact (fun _ _ => trivial)); (case aO => exact (zR HO_3)); (case aS => exact (below_size (zB HB))); (case aL => have := LMc6.out; omega); intro v107 w7 ho hb hg hat; rw [← Ny106.out] at ho; have n0_ := zA0 (hb); have n1_ := zA0 (ho); clear HO_3; replace HB := n0_; have HO108 := n1_; clear n0_ n1_; clear ho hb hg hat))
        go_roundg k2
        case measure => have := HK1.out; have := HK2.out; omega
        case rel => exact ⟨(y106), (wrap64 (x5_2 - 1)), (by first | rfl | (simp; done) | (simp [*]; done) | (simp; decide) | (simp; unfold wrap64; omega)), H', ⟨by have := HK1.out; have := HK2.out; omega⟩, ⟨zR HO108⟩, ⟨zB HB⟩⟩
       ·
        rw [if_neg c6] at H
        exact absurd H (by simp)
      ·
       rw [if_neg c5] at H
       have c5b0 : decide (0 ≤ x5_2) = false := decide_eq_false c5
       clear c5
       have H' := zA0 H
       clear H
       go_wp2
       go_roundg k2
       case measure => have := HK1.out; have := HK2.out; omega
       case rel => exact ⟨(x3_2), (wrap64 (x4_1 - 1)), (by first | rfl | (simp; done) | (simp [*]; done) | (simp; decide) | (simp; unfold wrap64; omega)), H', ⟨by have := HK1.out; have := HK2.out; omega⟩, ⟨zR HO_3⟩, ⟨zB HB⟩⟩
   ·
    rw [if_neg c4] at H
    have c4b0 : decide (0 ≤ x4_1) = false := decide_eq_false c4
    clear c4
    obtain rfl := Option.some.inj H
    go_wp2
    go_ret
    exact ⟨_, by first | rfl | (simp [errW_none, errW_some] <;> rfl) | (simp [*, errW_none, errW_some] <;> rfl), zR HO_3, zB HB⟩
end Go.Proofs.Ytckiebdehlcjoaa.P
