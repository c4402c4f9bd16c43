/- A part of the proof of the law FnDoorsOfRooms. -/
import Derived.Test.YtckiebdehlcjoaaTFnDoorsOfRooms9
import Derived.Test.YtckiebdehlcjoaaTFnDoorsOfRooms7
namespace Go.Proofs.Ytckiebdehlcjoaa.P
open Go.Proofs.Ytckiebdehlcjoaa.Own
open Go.RowKit Go.Proofs.YtckiebdehlcjoaaW.PrintWords Go.Proofs.YtckiebdehlcjoaaW.PrintLast Go.Proofs.YtckiebdehlcjoaaW.PrintMore
attribute [local go_sem] max2_int min2_int max_two min_two max_three min_three max_four min_four   -- for this text's walks alone
set_option linter.unusedVariables false
set_option linter.unusedSimpArgs false
def impl_in.f (a0 : Int) (a1 : Int) (a2 : Int) : Option (Bool) := if a1 ≤ a0 then (some (decide (a0 ≤ a2))) else (some false)
set_option maxHeartbeats 8000000 in
set_option maxRecDepth 100000 in
theorem impl_in.calls (a0 : Int) (a1 : Int) (a2 : Int) (r : Bool) (w : World) (h : impl_in.f a0 a1 a2 = some r) :
  Calls Try.prog 146 #[.int .i64 a0, .int .i64 a1, .int .i64 a2] w fun e w' => e = .returned (.bool r) ∧ Drawn0 w w' := by
 have H : (if a1 ≤ a0 then (some (decide (a0 ≤ a2))) else (some false)) = some r := h
 clear h
 by_cases c4 : a1 ≤ a0
 ·
  rw [if_pos c4] at H
  have c4b0 : decide (a1 ≤ a0) = true := decide_eq_true c4
  clear c4
  obtain rfl := Option.some.inj H
  go_enter Try.func146, Try.ntmps146
  go_wp2
  go_ret
  exact ⟨by first | rfl | (simp; done) | (simp [*]; done) | (simp; decide) | (simp; unfold wrap64; omega), by repeat (first | exact Drawn0.refl _ | apply Drawn0.step)⟩
 ·
  rw [if_neg c4] at H
  have c4b0 : decide (a1 ≤ a0) = false := decide_eq_false c4
  clear c4
  obtain rfl := Option.some.inj H
  go_enter Try.func146, Try.ntmps146
  go_wp2
  go_ret
  exact ⟨by first | rfl | (simp; done) | (simp [*]; done) | (simp; decide) | (simp; unfold wrap64; omega), by repeat (first | exact Drawn0.refl _ | apply Drawn0.step)⟩
def impl_isSide.f (a0 : Int) : Option (Bool) := (impl_in.f a0 1 8).bind fun t158 => (some t158)
set_option maxHeartbeats 8000000 in
set_option maxRecDepth 100000 in
theorem impl_isSide.calls (a0 : Int) (r : Bool) (w : World) (h : impl_isSide.f a0 = some r) :
  Calls Try.prog 153 #[.int .i64 a0] w fun e w' => e = .returned (.bool r) ∧ Drawn0 w w' := by
 have H : ((impl_in.f a0 1 8).bind fun t158 => (some t158)) = some r := h
 clear h
 replace H := Option.bind_eq_some_iff.mp H
 obtain ⟨t158, A20, H⟩ := H
 (try dsimp only at H)
 have A2 := zA0 A20
 clear A20
 obtain rfl := Option.some.inj H
 go_enter Try.func153, Try.ntmps153
 go_wp2_with (first | ((with_reducible refine gate_callee (f := 146) rfl ?_); refine goesL_ (some 4) rfl rfl Try.func146 (by kernel_rfl) rfl #[.int .i64 a0, .int .i64 1, .int .i64 8] rfl (by (try simp only [List.map_toArray, List.map_cons, List.map_nil]); first | done | rfl) ?_; (with_reducible refine (impl_in.calls a0 1 8 t158 _ A2.out).mono ?_); rintro e w' ⟨rfl, ⟨nd, rfl⟩⟩; refine ⟨_, rfl, ?_⟩))
 go_ret
 exact ⟨by first | rfl | (simp; done) | (simp [*]; done) | (simp; decide) | (simp; unfold wrap64; omega), by repeat (first | exact Drawn0.refl _ | apply Drawn0.step)⟩
def impl_isCell.f (a0 : Int) (a1 : Int) : Option (Bool) := (impl_isSide.f a0).bind fun t159 => (if t159 = true then ((impl_in.f a1 0 (wrap64 ((wrap64 (a0 * a0)) - 1))).bind fun t160 => (some t160)) else (some false))
set_option maxHeartbeats 8000000 in
set_option maxRecDepth 100000 in
theorem impl_isCell.calls (a0 : Int) (a1 : Int) (r : Bool) (w : World) (h : impl_isCell.f a0 a1 = some r) :
  Calls Try.prog 201 #[.int .i64 a0, .int .i64 a1] w fun e w' => e = .returned (.bool r) ∧ Drawn0 w w' := by
 have H : ((impl_isSide.f a0).bind fun t159 => (if t159 = true then ((impl_in.f a1 0 (wrap64 ((wrap64 (a0 * a0)) - 1))).bind fun t160 => (some t160)) else (some false))) = some r := h
 clear h
 replace H := Option.bind_eq_some_iff.mp H
 obtain ⟨t159, A30, H⟩ := H
 (try dsimp only at H)
 have A3 := zA0 A30
 clear A30
 by_cases c4 : t159 = true
 ·
  subst c4
  rw [if_pos rfl] at H
  replace H := Option.bind_eq_some_iff.mp H
  obtain ⟨t160, A50, H⟩ := H
  (try dsimp only at H)
  have A5 := zA0 A50
  clear A50
  obtain rfl := Option.some.inj H
  go_enter Try.func201, Try.ntmps201
  go_wp2_with (first | ((with_reducible refine gate_callee (f := 153) rfl ?_); refine goesL_ (some 6) rfl rfl Try.func153 (by kernel_rfl) rfl #[.int .i64 a0] rfl (by (try simp only [List.map_toArray, List.map_cons, List.map_nil]); first | done | rfl) ?_; (with_reducible refine (impl_isSide.calls a0 true _ A3.out).mono ?_); rintro e w' ⟨rfl, ⟨nd, rfl⟩⟩; refine ⟨_, rfl, ?_⟩) | (go_at_call 146; (with_reducible refine (impl_in.calls a1 0 (wrap64 ((wrap64 (a0 * a0)) - 1)) t160 _ A5.out).mono ?_); rintro e w' ⟨rfl, ⟨nd, rfl⟩⟩))
  go_ret
  exact ⟨by first | rfl | (simp; done) | (simp [*]; done) | (simp; decide) | (simp; unfold wrap64; omega), by repeat (first | exact Drawn0.refl _ | apply Drawn0.step)⟩
 ·
  replace c4 := Bool.eq_false_iff.mpr c4
  subst c4
  rw [if_neg (show ¬ (false = true) by decide)] at H
  obtain rfl := Option.some.inj H
  go_enter Try.func201, Try.ntmps201
  go_wp2_with (first | ((with_reducible refine gate_callee (f := 153) rfl ?_); refine goesL_ (some 6) rfl rfl Try.func153 (by kernel_rfl) rfl #[.int .i64 a0] rfl (by (try simp only [List.map_toArray, List.map_cons, List.map_nil]); first | done | rfl) ?_; (with_reducible refine (impl_isSide.calls a0 false _ A3.out).mono ?_); rintro e w' ⟨rfl, ⟨nd, rfl⟩⟩; refine ⟨_, rfl, ?_⟩))
  go_ret
  exact ⟨by first | rfl | (simp; done) | (simp [*]; done) | (simp; decide) | (simp; unfold wrap64; omega), by repeat (first | exact Drawn0.refl _ | apply Drawn0.step)⟩
end Go.Proofs.Ytckiebdehlcjoaa.P
namespace Go.Proofs.Ytckiebdehlcjoaa.P
open Go.Proofs.Ytckiebdehlcjoaa.Own
open Go.RowKit Go.Proofs.YtckiebdehlcjoaaW.PrintWords Go.Proofs.YtckiebdehlcjoaaW.PrintLast Go.Proofs.YtckiebdehlcjoaaW.PrintMore
attribute [local go_sem] max2_int min2_int max_two min_two max_three min_three max_four min_four   -- for this text's walks alone
set_option linter.unusedVariables false
set_option linter.unusedSimpArgs false
theorem eqA109 (d : Nat) (w : World) (x0 y0 : Int) (x1 y1 : Int) (x2 y2 : Int) :
    (Op.equalIn (d + 2) 109 (.agg #[.int .i64 x0, .int .i64 x1, .int .i64 x2]) (.agg #[.int .i64 y0, .int .i64 y1, .int .i64 y2])).run Try.prog w = .ok (x0 == y0 && (x1 == y1 && (x2 == y2))) w := by
  obtain ⟨i_, hi_⟩ := info_of_underlying Try.underlying3
  rw [show d + 2 = (d + 1) + 1 from rfl, run_equalIn_array w (d + 1) _ _ Try.underlying109 hi_, show Try.prog.cellsOf 3 = 1 from by kernel_rfl]
  rw [show List.range 3 = [0, 1, 2] from rfl]
  refine eqi_cons (by go_simp; rfl) (by go_simp; rfl) (by go_simp) ?_
  refine eqi_cons (by go_simp; rfl) (by go_simp; rfl) (by go_simp) ?_
  exact eqi_last (by go_simp; rfl) (by go_simp; rfl) (by go_simp)
end Go.Proofs.Ytckiebdehlcjoaa.P
namespace Go.Proofs.Ytckiebdehlcjoaa.P
open Go.Proofs.Ytckiebdehlcjoaa.Own
open Go.RowKit Go.Proofs.YtckiebdehlcjoaaW.PrintWords Go.Proofs.YtckiebdehlcjoaaW.PrintLast Go.Proofs.YtckiebdehlcjoaaW.PrintMore
attribute [local go_sem] max2_int min2_int max_two min_two max_three min_three max_four min_four   -- for this text's walks alone
set_option linter.unusedVariables false
set_option linter.unusedSimpArgs false
attribute [local go_sem high] eqA109
def slices_Index_3_int_3_int.l0 : Nat → List (S109) → Int → Int → Int → Int → Int → Option (Int)
  | 0, _, _, _, _, _, _ => none
  | k + 1, x0, x7, x8, x207000, x207001, x207002 => if x8 < x7 then (if 0 ≤ x8 then (if x8 < (x0.length : Int) then (if (x207000 == ((rd_T109 x0 x8).f0) && (x207001 == ((rd_T109 x0 x8).f1) && (x207002 == ((rd_T109 x0 x8).f2)))) = true then (some x8) else (slices_Index_3_int_3_int.l0 k x0 x7 (wrap64 (x8 + 1)) x207000 x207001 x207002)) else (none)) else (none)) else (some (-1))
def slices_Index_3_int_3_int.f (k : Nat) (l0 : List (S109)) (a1_0 : Int) (a1_1 : Int) (a1_2 : Int) : Option (Int) := slices_Index_3_int_3_int.l0 k l0 (l0.length : Int) 0 a1_0 a1_1 a1_2
theorem slices_Index_3_int_3_int.mono_l : ∀ k, (∀ y0 y1 y2 y3 y4 y5, LeO (slices_Index_3_int_3_int.l0 k y0 y1 y2 y3 y4 y5) (slices_Index_3_int_3_int.l0 (k + 1) y0 y1 y2 y3 y4 y5))
 | 0 => fun _ _ _ _ _ _ r h => by simp [slices_Index_3_int_3_int.l0] at h
 | k + 1 => by
  have ih0 := slices_Index_3_int_3_int.mono_l k
  ·
   intro y0 y1 y2 y3 y4 y5
   unfold slices_Index_3_int_3_int.l0
   repeat' first
   | (with_reducible exact ih0 _ _ _ _ _ _)
   | (with_reducible exact LeO.refl _)
   | (with_reducible exact LeO.none _)
   | (with_reducible refine LeO.ite ?_ ?_)
   | (with_reducible refine LeO.bind ?_ (fun _ => ?_))
   | exact ih0 _ _ _ _ _ _
   | exact LeO.none _
   | refine LeO.ite ?_ ?_
   | refine LeO.bind ?_ (fun _ => ?_)
theorem slices_Index_3_int_3_int.mono : ∀ a0 a1 a2 a3 k, LeO (slices_Index_3_int_3_int.f k a0 a1 a2 a3) (slices_Index_3_int_3_int.f (k + 1) a0 a1 a2 a3) := by
 intro a0 a1 a2 a3 k
 have ih0 := slices_Index_3_int_3_int.mono_l k
 unfold slices_Index_3_int_3_int.f
 repeat' first
   | (with_reducible exact ih0 _ _ _ _ _ _)
   | (with_reducible exact LeO.refl _)
   | (with_reducible exact LeO.none _)
   | (with_reducible refine LeO.ite ?_ ?_)
   | (with_reducible refine LeO.bind ?_ (fun _ => ?_))
   | exact ih0 _ _ _ _ _ _
   | exact LeO.none _
   | refine LeO.ite ?_ ?_
   | refine LeO.bind ?_ (fun _ => ?_)
set_option maxHeartbeats 8000000 in
set_option maxRecDepth 100000 in
theorem slices_Index_3_int_3_int.calls (k : Nat) (A0 : Option Addr) (c0 : Nat) (l0 : List (S109)) (a1_0 : Int) (a1_1 : Int) (a1_2 : Int) (r : Int) (w : World) (hr0 : Kd.C k109 w A0 l0.length l0) (hc0 : l0.length ≤ c0) (h : slices_Index_3_int_3_int.f k l0 a1_0 a1_1 a1_2 = some r) :
  Calls Try.prog 194 #[.slice A0 l0.length c0, .agg #[.int .i64 a1_0, .int .i64 a1_1, .int .i64 a1_2]] w fun e w' => e = .returned (.int .i64 r) ∧ Below w.heap.size w w' := by
 have hu109 := Try.underlying109
 have HR0 := zA0 hr0
 have HC0 := zA0 hc0
 clear hr0 hc0
 have HB := zA0 (Below.refl w.heap.size w)
 have H : (slices_Index_3_int_3_int.l0 k l0 (l0.length : Int) 0 a1_0 a1_1 a1_2) = some r := h
 clear h
 have H' := zA0 H
 clear H
 go_enter Try.func194, Try.ntmps194
 go_wp2_with (first | ((with_reducible refine gate_dst (N := 3) rfl ?_); refine box_event ?hg (N := 3) ?hd (cs := #[.int .i64 a1_0, .int .i64 a1_1, .int .i64 a1_2]) (t := 109) ?hr ?_; (case hd => rfl); (case hg => rfl); (case hr => first | (go_simp; done) | (go_simp; rfl)); intro gb206 hg w3 hbox hb; have n0_ := zA0 (below_step (zB HB) hb); have n1_ := zA0 (hbox); have n2_ := zA0 ((by rw [hg]; exact (below_size (zB HB)) : w.heap.size ≤ gb206)); have n3_ := zA0 ((by rw [hg]; exact (below_size (zB HB)) : w.heap.size ≤ gb206)); replace HB := n0_; have BK206 := n1_; have GW206 := n2_; have GE206 := n3_; clear n0_ n1_ n2_ n3_; clear hb hbox hg))
 repeat (go_quiet (first | ((with_reducible refine gate_dst (N := 3) rfl ?_); refine box_event ?hg (N := 3) ?hd (cs := #[.int .i64 a1_0, .int .i64 a1_1, .int .i64 a1_2]) (t := 109) ?hr ?_; (case hd => rfl); (case hg => rfl); (case hr => first | (go_simp; done) | (go_simp; rfl)); intro gb206 hg w3 hbox hb; have n0_ := zA0 (below_step (zB HB) hb); have n1_ := zA0 (hbox); have n2_ := zA0 ((by rw [hg]; exact (below_size (zB HB)) : w.heap.size ≤ gb206)); have n3_ := zA0 ((by rw [hg]; exact (below_size (zB HB)) : w.heap.size ≤ gb206)); replace HB := n0_; have BK206 := n1_; have GW206 := n2_; have GE206 := n3_; clear n0_ n1_ n2_ n3_; clear hb hbox hg)); try go_wp2_with (first | ((with_reducible refine gate_dst (N := 3) rfl ?_); refine box_event ?hg (N := 3) ?hd (cs := #[.int .i64 a1_0, .int .i64 a1_1, .int .i64 a1_2]) (t := 109) ?hr ?_; (case hd => rfl); (case hg => rfl); (case hr => first | (go_simp; done) | (go_simp; rfl)); intro gb206 hg w3 hbox hb; have n0_ := zA0 (below_step (zB HB) hb); have n1_ := zA0 (hbox); have n2_ := zA0 ((by rw [hg]; exact (below_size (zB HB)) : w.heap.size ≤ gb206)); have n3_ := zA0 ((by rw [hg]; exact (below_size (zB HB)) : w.heap.size ≤ gb206)); replace HB := n0_; have BK206 := n1_; have GW206 := n2_; have GE206 := n3_; clear n0_ n1_ n2_ n3_; clear hb hbox hg)))
 go_loopg [8] k (fun kq v8 w' => ∃ (x8_1 : Int), v8 = .int .i64 x8_1 ∧ Aside0 (slices_Index_3_int_3_int.l0 kq l0 (l0.length : Int) x8_1 a1_0 a1_1 a1_2 = some r) ∧ Aside0 (kq ≤ k) ∧ Aside0 (w'.heap[gb206]? = some (.cells #[.int .i64 a1_0, .int .i64 a1_1, .int .i64 a1_2] 109 (0, 0))) ∧ Aside0 (Below w.heap.size w w'))
 case atStart => exact ⟨(0), (by first | rfl | (simp; done) | (simp [*]; done) | (simp; decide) | (simp; unfold wrap64; omega)), H', ⟨Nat.le_refl _⟩, ⟨by (with_reducible repeat (first | refine blk_drewN ?_ _ | refine blk_drew ?_ | refine blk_alloc ?_ _)); exact BK206.out⟩, ⟨by repeat (first | (with_reducible first | exact HB.out | apply zpA | apply zpN | apply zpD | refine below_set ?_ GE206.out) | exact HB.out)⟩⟩
 case round =>
  clear H'
  try clear c1
  try clear p2
  obtain ⟨x8_1, rfl, HA, HK1, BK206, HB⟩ := hrel
  cases gk with
  | zero => exact absurd HA.out (by simp [slices_Index_3_int_3_int.l0])
  | succ k1 =>
   have H := HA.out
   clear HA
   simp only [slices_Index_3_int_3_int.l0] at H
   by_cases c4 : x8_1 < (l0.length : Int)
   ·
    rw [if_pos c4] at H
    have c4b0 : decide (x8_1 < (l0.length : Int)) = true := decide_eq_true c4
    clear c4
    by_cases c5 : 0 ≤ x8_1
    ·
     rw [if_pos c5] at H
     have c5b0 : decide (0 ≤ x8_1) = true := decide_eq_true c5
     clear c5
     by_cases c6 : x8_1 < (l0.length : Int)
     ·
      rw [if_pos c6] at H
      have c6b0 : decide (x8_1 < (l0.length : Int)) = true := decide_eq_true c6
      clear c6
      by_cases c7 : (a1_0 == ((rd_T109 l0 x8_1).f0) && (a1_1 == ((rd_T109 l0 x8_1).f1) && (a1_2 == ((rd_T109 l0 x8_1).f2)))) = true
      ·
       rw [if_pos c7] at H
       have c7b0 : (a1_0 == ((rd_T109 l0 x8_1).f0) && (a1_1 == ((rd_T109 l0 x8_1).f1) && (a1_2 == ((rd_T109 l0 x8_1).f2)))) = true := c7
       (try (have c7b1 : decide (a1_0 = ((rd_T109 l0 x8_1).f0) && (a1_1 == ((rd_T109 l0 x8_1).f1) && (a1_2 == ((rd_T109 l0 x8_1).f2)))) = true := by simpa using c7))
       (try (have c7b2 : (a1_0 == ((rd_T109 l0 x8_1).f0) && (a1_1 == ((rd_T109 l0 x8_1).f1) && (a1_2 == ((rd_T109 l0 x8_1).f2)))) = true := by simpa using c7))
       clear c7
       obtain rfl := Option.some.inj H
       have hcz8_0 : wr.cell? ⟨gb206, 0, none⟩ = some (.int .i64 a1_0) := (blk_cell BK206.out 0).trans rfl
       have hcz8_1 : wr.cell? ⟨gb206, 1, none⟩ = some (.int .i64 a1_1) := (blk_cell BK206.out 1).trans rfl
       have hcz8_2 : wr.cell? ⟨gb206, 2, none⟩ = some (.int .i64 a1_2) := (blk_cell BK206.out 2).trans rfl
       have hfz8_0 := blk_frozen BK206.out 0
       have hfz8_1 := blk_frozen BK206.out 1
       have hfz8_2 := blk_frozen BK206.out 2
       have p207 : 0 ≤ (x8_1 : Int) := of_decide_eq_true (by first | (with_reducible assumption) | assumption)
       have q207 : x8_1 < (l0.length : Int) := of_decide_eq_true (by first | (with_reducible assumption) | assumption)
       obtain ⟨ad207, e207, hx207_0, hx207_1, hx207_2⟩ := at_T109 HR0.out x8_1 p207 q207
       cases e207
       replace hx207_0 := (HB.out.cell (World.block_lt_of_cell? w _ hx207_0)).trans hx207_0
       replace hx207_1 := (HB.out.cell (World.block_lt_of_cell? w _ hx207_1)).trans hx207_1
       replace hx207_2 := (HB.out.cell (World.block_lt_of_cell? w _ hx207_2)).trans hx207_2
       replace p207 := eq_true p207
       replace q207 := eq_true q207
       go_wp2
       repeat (go_quiet (fail); try go_wp2)
       go_ret
       exact ⟨by first | rfl | (simp [errW_none, errW_some] <;> rfl) | (simp [*, errW_none, errW_some] <;> rfl), by repeat (first | (with_reducible first | exact HB.out | apply zpA | apply zpN | apply zpD | refine below_set ?_ GE206.out) | exact HB.out)⟩
      ·
       rw [if_neg c7] at H
       have c7b0 : (a1_0 == ((rd_T109 l0 x8_1).f0) && (a1_1 == ((rd_T109 l0 x8_1).f1) && (a1_2 == ((rd_T109 l0 x8_1).f2)))) = false := by simpa using c7
       (try (have c7b1 : decide (a1_0 = ((rd_T109 l0 x8_1).f0) && (a1_1 == ((rd_T109 l0 x8_1).f1) && (a1_2 == ((rd_T109 l0 x8_1).f2)))) = false := by simpa using c7))
       (try (have c7b2 : (a1_0 == ((rd_T109 l0 x8_1).f0) && (a1_1 == ((rd_T109 l0 x8_1).f1) && (a1_2 == ((rd_T109 l0 x8_1).f2)))) = false := by simpa using c7))
       (try (have c7b3 : ¬ (a1_0 = ((rd_T109 l0 x8_1).f0) && (a1_1 == ((rd_T109 l0 x8_1).f1) && (a1_2 == ((rd_T109 l0 x8_1).f2)))) := by simpa using c7))
       clear c7
       have H' := zA0 H
       clear H
       have hcz9_0 : wr.cell? ⟨gb206, 0, none⟩ = some (.int .i64 a1_0) := (blk_cell BK206.out 0).trans rfl
       have hcz9_1 : wr.cell? ⟨gb206, 1, none⟩ = some (.int .i64 a1_1) := (blk_cell BK206.out 1).trans rfl
       have hcz9_2 : wr.cell? ⟨gb206, 2, none⟩ = some (.int .i64 a1_2) := (blk_cell BK206.out 2).trans rfl
       have hfz9_0 := blk_frozen BK206.out 0
       have hfz9_1 := blk_frozen BK206.out 1
       have hfz9_2 := blk_frozen BK206.out 2
       have p207 : 0 ≤ (x8_1 : Int) := of_decide_eq_true (by first | (with_reducible assumption) | assumption)
       have q207 : x8_1 < (l0.length : Int) := of_decide_eq_true (by first | (with_reducible assumption) | assumption)
       obtain ⟨ad207, e207, hx207_0, hx207_1, hx207_2⟩ := at_T109 HR0.out x8_1 p207 q207
       cases e207
       replace hx207_0 := (HB.out.cell (World.block_lt_of_cell? w _ hx207_0)).trans hx207_0
       replace hx207_1 := (HB.out.cell (World.block_lt_of_cell? w _ hx207_1)).trans hx207_1
       replace hx207_2 := (HB.out.cell (World.block_lt_of_cell? w _ hx207_2)).trans hx207_2
       replace p207 := eq_true p207
       replace q207 := eq_true q207
       go_wp2
       repeat (go_quiet (fail); try go_wp2)
       go_roundg k1
       case measure => have := HK1.out; omega
       case rel => exact ⟨(wrap64 (x8_1 + 1)), (by first | rfl | (simp; done) | (simp [*]; done) | (simp; decide) | (simp; unfold wrap64; omega)), H', ⟨by have := HK1.out; omega⟩, ⟨by (with_reducible repeat (first | refine blk_drewN ?_ _ | refine blk_drew ?_ | refine blk_alloc ?_ _)); exact BK206.out⟩, ⟨by repeat (first | (with_reducible first | exact HB.out | apply zpA | apply zpN | apply zpD | refine below_set ?_ GE206.out) | exact HB.out)⟩⟩
     ·
      rw [if_neg c6] at H
      exact absurd H (by simp)
    ·
     rw [if_neg c5] at H
     exact absurd H (by simp)
   ·
    rw [if_neg c4] at H
    have c4b0 : decide (x8_1 < (l0.length : Int)) = false := decide_eq_false c4
    clear c4
    obtain rfl := Option.some.inj H
    go_wp2
    repeat (go_quiet (fail); try go_wp2)
    go_ret
    exact ⟨by first | rfl | (simp [errW_none, errW_some] <;> rfl) | (simp [*, errW_none, errW_some] <;> rfl), by repeat (first | (with_reducible first | exact HB.out | apply zpA | apply zpN | apply zpD | refine below_set ?_ GE206.out) | exact HB.out)⟩
end Go.Proofs.Ytckiebdehlcjoaa.P
namespace Go.Proofs.Ytckiebdehlcjoaa.P
open Go.Proofs.Ytckiebdehlcjoaa.Own
open Go.RowKit Go.Proofs.YtckiebdehlcjoaaW.PrintWords Go.Proofs.YtckiebdehlcjoaaW.PrintLast Go.Proofs.YtckiebdehlcjoaaW.PrintMore
attribute [local go_sem] max2_int min2_int max_two min_two max_three min_three max_four min_four   -- for this text's walks alone
set_option linter.unusedVariables false
set_option linter.unusedSimpArgs false
theorem setCell_id {w : World} {g i : Nat} {t : TypeId} {cs : Array Value} {v : Value} (h : w.heap[g]? = some (.cells cs t (0, 0))) (hv : cs.setIfInBounds i v = cs) : w.setCell ⟨g, i, none⟩ v = w := by
  unfold World.setCell
  have e : (w.heap.modify g fun | .cells c elem frozen => .cells (if (none : Option Nat).isSome then c else c.setIfInBounds i v) elem frozen | o => o) = w.heap := by
    apply Array.ext_getElem?
    intro j
    rw [Array.getElem?_modify]
    by_cases hj : g = j
    · subst hj; rw [if_pos rfl, h]; simp [hv]
    · rw [if_neg hj]
  exact congrArg (fun hp => ({ w with heap := hp } : World)) e
mutual
def impl_border.l0 : Nat → Int → List Int → List (S109) → Int → Option (List Int)
  | 0, _, _, _, _ => none
  | k + 1, x0, x3, x4, x11 => if x11 < 3 then (impl_border.l1 k x0 x3 x4 x11 x11 x0 0) else (some x3)
def impl_border.l1 : Nat → Int → List Int → List (S109) → Int → Int → Int → Int → Option (List Int)
  | 0, _, _, _, _, _, _, _ => none
  | k + 1, x0, x3, x4, x5, x11, x14, x15 => if x15 < x14 then (if x5 = 0 then ((slices_Index_3_int_3_int.f k x4 (wrap64 (x0 - x15)) x15 0).bind fun t128 => (if x3.length < 17592186044416 then (impl_border.l1 k x0 (x3 ++ [t128]) x4 x5 x11 x14 (wrap64 (x15 + 1))) else (none))) else (if x5 = 1 then ((slices_Index_3_int_3_int.f k x4 0 (wrap64 (x0 - x15)) x15).bind fun t132 => (if x3.length < 17592186044416 then (impl_border.l1 k x0 (x3 ++ [t132]) x4 x5 x11 x14 (wrap64 (x15 + 1))) else (none))) else (if x5 = 2 then ((slices_Index_3_int_3_int.f k x4 x15 0 (wrap64 (x0 - x15))).bind fun t136 => (if x3.length < 17592186044416 then (impl_border.l1 k x0 (x3 ++ [t136]) x4 x5 x11 x14 (wrap64 (x15 + 1))) else (none))) else (none)))) else (impl_border.l0 k x0 x3 x4 (wrap64 (x11 + 1)))
end
def impl_border.f (k : Nat) (a0 : Int) : Option (List Int) := (impl_points.f k a0).bind fun t124 => (impl_border.l0 k a0 (([] : List Int)) t124 0)
theorem impl_border.mono_l : ∀ k, (∀ y0 y1 y2 y3, LeO (impl_border.l0 k y0 y1 y2 y3) (impl_border.l0 (k + 1) y0 y1 y2 y3)) ∧ (∀ y0 y1 y2 y3 y4 y5 y6, LeO (impl_border.l1 k y0 y1 y2 y3 y4 y5 y6) (impl_border.l1 (k + 1) y0 y1 y2 y3 y4 y5 y6))
 | 0 => ⟨fun _ _ _ _ r h => by simp [impl_border.l0] at h, fun _ _ _ _ _ _ _ r h => by simp [impl_border.l1] at h⟩
 | k + 1 => by
  obtain ⟨ih0, ih1⟩ := impl_border.mono_l k
  refine ⟨?_, ?_⟩
  ·
   intro y0 y1 y2 y3
   unfold impl_border.l0
   repeat' first
   | (with_reducible exact ih0 _ _ _ _)
   | (with_reducible exact ih1 _ _ _ _ _ _ _)
   | (with_reducible exact impl_points.mono _ _)
   | (with_reducible exact slices_Index_3_int_3_int.mono _ _ _ _ _)
   | (with_reducible exact LeO.refl _)
   | (with_reducible exact LeO.none _)
   | (with_reducible refine LeO.ite ?_ ?_)
   | (with_reducible refine LeO.bind ?_ (fun _ => ?_))
   | exact ih0 _ _ _ _
   | exact ih1 _ _ _ _ _ _ _
   | exact impl_points.mono _ _
   | exact slices_Index_3_int_3_int.mono _ _ _ _ _
   | exact LeO.none _
   | refine LeO.ite ?_ ?_
   | refine LeO.bind ?_ (fun _ => ?_)
  ·
   intro y0 y1 y2 y3 y4 y5 y6
   unfold impl_border.l1
   repeat' first
   | (with_reducible exact ih0 _ _ _ _)
   | (with_reducible exact ih1 _ _ _ _ _ _ _)
   | (with_reducible exact impl_points.mono _ _)
   | (with_reducible exact slices_Index_3_int_3_int.mono _ _ _ _ _)
   | (with_reducible exact LeO.refl _)
   | (with_reducible exact LeO.none _)
   | (with_reducible refine LeO.ite ?_ ?_)
   | (with_reducible refine LeO.bind ?_ (fun _ => ?_))
   | exact ih0 _ _ _ _
   | exact ih1 _ _ _ _ _ _ _
   | exact impl_points.mono _ _
   | exact slices_Index_3_int_3_int.mono _ _ _ _ _
   | exact LeO.none _
   | refine LeO.ite ?_ ?_
   | refine LeO.bind ?_ (fun _ => ?_)
theorem impl_border.mono : ∀ a0 k, LeO (impl_border.f k a0) (impl_border.f (k + 1) a0) := by
 intro a0 k
 obtain ⟨ih0, ih1⟩ := impl_border.mono_l k
 unfold impl_border.f
 repeat' first
   | (with_reducible exact ih0 _ _ _ _)
   | (with_reducible exact ih1 _ _ _ _ _ _ _)
   | (with_reducible exact impl_points.mono _ _)
   | (with_reducible exact slices_Index_3_int_3_int.mono _ _ _ _ _)
   | (with_reducible exact LeO.refl _)
   | (with_reducible exact LeO.none _)
   | (with_reducible refine LeO.ite ?_ ?_)
   | (with_reducible refine LeO.bind ?_ (fun _ => ?_))
   | exact ih0 _ _ _ _
   | exact ih1 _ _ _ _ _ _ _
   | exact impl_points.mono _ _
   | exact slices_Index_3_int_3_int.mono _ _ _ _ _
   | exact LeO.none _
   | refine LeO.ite ?_ ?_
   | refine LeO.bind ?_ (fun _ => ?_)
set_option maxHeartbeats 8000000 in
set_option maxRecDepth 100000 in
theorem impl_border.calls (k : Nat) (a0 : Int) (r : List Int) (w : World) (h : impl_border.f k a0 = some r) :
  Calls Try.prog 195 #[.int .i64 a0] w fun e w' => ∃ v0_ : Value, e = .returned (v0_) ∧ Kd.R (Kd.int .i64) 3 w' w.heap.size (fun _ => True) v0_ r ∧ Below w.heap.size w w' := by
 have hu109 := Try.underlying109
 have HB := zA0 (Below.refl w.heap.size w)
 have H : ((impl_points.f k a0).bind fun t124 => (impl_border.l0 k a0 (([] : List Int)) t124 0)) = some r := h
 clear h
 obtain ⟨y121, hy121⟩ : ∃ y_ : List Int, y_ = (([] : List Int)) := ⟨_, rfl⟩
 replace H : ((impl_points.f k a0).bind fun t124 => (impl_border.l0 k a0 y121 t124 0)) = some r := by first | (rw [hy121]; with_reducible exact H) | (have H2_ := (Option.bind_some _ _).symm.trans H; rw [hy121]; with_reducible exact H2_) | (have H2_ := (Option.bind_some _ _).symm.trans H; with_reducible exact H2_) | with_reducible exact H | (rw [hy121]; exact H) | exact H
 have Ny121 := zA0 hy121
 clear hy121
 replace H := Option.bind_eq_some_iff.mp H
 obtain ⟨t124, A20, H⟩ := H
 (try dsimp only at H)
 have A2 := zA0 A20
 clear A20
 have H' := zA0 H
 clear H
 go_enter Try.func195, Try.ntmps195
 go_wp2_with (first | ((with_reducible refine gate_dst (N := 8) rfl ?_); refine Kd.R_lit (Kd.int .i64) _ 3 ?hg (N := 8) ?hd (xs := ([] : List Int)) (inner := []) (ok := fun _ => True) (okp := fun _ => True) ?hr ?hp (fun _ hk => hk) trivial (Below.refl _ _) (Nat.le_refl _) (by simp) ?_; (case hd => rfl); (case hg => rfl); (case hr => first | (go_simp; done) | (go_simp; rfl)); (case hp => exact (Reps.none _ _)); intro v122 w3 ho4 hb hg_ hnew_; clear hg_ hnew_; (first | rw [← Ny121.out] at ho4 | (simp only [Int.reduceToNat] at ho4; rw [← Ny121.out] at ho4)); have n0_ := zA0 (Kd.R_lower ho4 (below_size (zB HB))); have n1_ := zA0 (below_step (zB HB) hb); have HO123 := n0_; replace HB := n1_; clear n0_ n1_; clear hb ho4) | ((with_reducible refine gate_callee (f := 169) rfl ?_); refine goesL_ (some 10) rfl rfl Try.func169 (by kernel_rfl) rfl #[.int .i64 a0] rfl (by (try simp only [List.map_toArray, List.map_cons, List.map_nil]); first | done | rfl) ?_; (with_reducible refine (impl_points.calls k a0 t124 _ A2.out).mono ?_); rintro e w5 ⟨v125, rfl, ho0, hb⟩; refine ⟨_, rfl, ?_⟩; have n0_ := zA0 (Kd.R_below (zR HO123) hb); have n1_ := zA0 (Kd.R_lower ho0 (below_size (zB HB))); have n2_ := zA0 (below_step (zB HB) hb); replace HO123 := n0_; have HO126 := n1_; replace HB := n2_; clear n0_ n1_ n2_; (try clear hb); (try clear hb2); (try clear hk); (try clear hi); (try clear ho0)))
 go_loopg [3, 11] k (fun kq v3 v11 w' => ∃ (x3_1 : List Int) (x11_1 : Int), v11 = .int .i64 x11_1 ∧ Aside0 (impl_border.l0 kq a0 x3_1 t124 x11_1 = some r) ∧ Aside0 (kq ≤ k) ∧ Aside0 (Kd.R (Kd.int .i64) 3 w' w.heap.size (fun _ => True) v3 x3_1) ∧ Aside0 (Kd.R k109 109 w' w.heap.size (fun _ => True) v125 t124) ∧ Aside0 (Below w.heap.size w w'))
 case atStart => exact ⟨(y121), (0), (by first | rfl | (simp; done) | (simp [*]; done) | (simp; decide) | (simp; unfold wrap64; omega)), H', ⟨Nat.le_refl _⟩, ⟨zR HO123⟩, ⟨zR HO126⟩, ⟨zB HB⟩⟩
 case round =>
  clear H'
  try clear c1
  try clear p2
  obtain ⟨x3_1, x11_1, rfl, HA, HK1, HO_3, HO_4, HB⟩ := hrel
  cases gk with
  | zero => exact absurd HA.out (by simp [impl_border.l0])
  | succ k1 =>
   have H := HA.out
   clear HA
   simp only [impl_border.l0] at H
   by_cases c6 : x11_1 < 3
   ·
    rw [if_pos c6] at H
    have c6b0 : decide (x11_1 < 3) = true := decide_eq_true c6
    clear c6
    have H' := zA0 H
    clear H
    go_wp2
    go_loopg [3, 15] k1 (fun kq v3 v15 w' => ∃ (x3_2 : List Int) (x15_2 : Int), v15 = .int .i64 x15_2 ∧ Aside0 (impl_border.l1 kq a0 x3_2 t124 x11_1 x11_1 a0 x15_2 = some r) ∧ Aside0 (kq ≤ k1) ∧ Aside0 (Kd.R (Kd.int .i64) 3 w' w.heap.size (fun _ => True) v3 x3_2) ∧ Aside0 (Kd.R k109 109 w' w.heap.size (fun _ => True) v125 t124) ∧ Aside0 (Below w.heap.size w w'))
    case atStart => exact ⟨(x3_1), (0), (by first | rfl | (simp; done) | (simp [*]; done) | (simp; decide) | (simp; unfold wrap64; omega)), H', ⟨Nat.le_refl _⟩, ⟨zR HO_3⟩, ⟨zR HO_4⟩, ⟨zB HB⟩⟩
    case round =>
     clear H'
     try clear c1
     try clear p2
     try clear c6
     try clear c6b0
     try clear p6
     try clear p2
     obtain ⟨x3_2, x15_2, rfl, HA, HK2, HO_3, HO_4, HB⟩ := hrel
     cases gk with
     | zero => exact absurd HA.out (by simp [impl_border.l1])
     | succ k2 =>
      have H := HA.out
      clear HA
      simp only [impl_border.l1] at H
      by_cases c7 : x15_2 < a0
      ·
       rw [if_pos c7] at H
       have c7b0 : decide (x15_2 < a0) = true := decide_eq_true c7
       clear c7
       by_cases c8 : x11_1 = 0
       ·
        subst c8
        rw [if_pos rfl] at H
        replace H := Option.bind_eq_some_iff.mp H
        obtain ⟨t128, A90, H⟩ := H
        (try dsimp only at H)
        have A9 := zA0 A90
        clear A90
        by_cases c10 : x3_2.length < 17592186044416
        ·
         rw [if_pos c10] at H
         have LMc10 := zA0 c10
         clear c10
         obtain ⟨y129, hy129⟩ : ∃ y_ : List Int, y_ = (x3_2 ++ [t128]) := ⟨_, rfl⟩
         replace H : (impl_border.l1 k2 a0 y129 t124 0 0 a0 (wrap64 (x15_2 + 1))) = some r := by first | (rw [hy129]; with_reducible exact H) | (have H2_ := (Option.bind_some _ _).symm.trans H; rw [hy129]; with_reducible exact H2_) | (have H2_ := (Option.bind_some _ _).symm.trans H; with_reducible exact H2_) | with_reducible exact H | (rw [hy129]; exact H) | exact H
         have Ny129 := zA0 hy129
         clear hy129
         have H' := zA0 H
         clear H
         go_wp2_with (first | ((with_reducible refine gate_dst (N := 7) rfl ?_); refine box_event ?hg (N := 7) ?hd (cs := #[.int .i64 0, .int .i64 0, .int .i64 0]) (t := 109) ?hr ?_; (case hd => rfl); (case hg => rfl); (case hr => first | (go_simp; done) | (go_simp; rfl)); intro gb127 hg w11 hbox hb; have n0_ := zA0 (Kd.R_below (zR HO_3) hb); have n1_ := zA0 (Kd.R_below (Kd.R_elderB (zR HO_4) gb127 (Nat.le_of_eq hg.symm)) hb); have n2_ := zA0 (below_step (zB HB) hb); have n3_ := zA0 (hbox); have n4_ := zA0 ((by rw [hg]; exact (below_size (zB HB)) : w.heap.size ≤ gb127)); have n5_ := zA0 ((by rw [hg]; exact (below_size (zB HB)) : w.heap.size ≤ gb127)); replace HO_3 := n0_; replace HO_4 := n1_; replace HB := n2_; have BK127 := n3_; have GW127 := n4_; have GE127 := n5_; clear n0_ n1_ n2_ n3_ n4_ n5_; clear hb hbox hg; have hcz12_0 : w11.cell? ⟨gb127, 0, none⟩ = some (.int .i64 0) := (blk_cell BK127.out 0).trans rfl; have hsi12_0 := setCell_id (i := 0) (v := .int .i64 0) BK127.out rfl; have hsi12_1 := setCell_id (i := 1) (v := .int .i64 0) BK127.out rfl; have hsi12_2 := setCell_id (i := 2) (v := .int .i64 0) BK127.out rfl; have hcz12_1 : w11.cell? ⟨gb127, 1, none⟩ = some (.int .i64 0) := (blk_cell BK127.out 1).trans rfl; have hcz12_2 : w11.cell? ⟨gb127, 2, none⟩ = some (.int .i64 0) := (blk_cell BK127.out 2).trans rfl; have hfz12_0 := blk_frozen BK127.out 0; have hfz12_1 := blk_frozen BK127.out 1; have hfz12_2 := blk_frozen BK127.out 2; obtain ⟨Ao13, co13, eo13⟩ := Kd.R_slice HO_4.out; subst eo13) | ((with_reducible refine gate_callee (f := 194) rfl ?_); refine goesL_ (some 32) rfl rfl Try.func194 (by kernel_rfl) rfl #[.slice Ao13 t124.length co13, .agg #[.int .i64 (wrap64 (a0 - x15_2)), .int .i64 x15_2, .int .i64 0]] rfl (by (try simp only [List.map_toArray, List.map_cons, List.map_nil]); first | done | rfl) ?_; (with_reducible refine (slices_Index_3_int_3_int.calls k2 _ _ t124 (wrap64 (a0 - x15_2)) x15_2 0 t128 _ ?side1 ?side2 A9.out).mono ?_); (case side1 => refine (Kd.R_reads' (e := 109) (base := w.heap.size) (ok := fun k_ => (True ∧ k_ ≠ gb127)) (n := t124.length) (c := co13) ?_).2.2; exact (by (with_reducible repeat (first | apply zrA | apply zrN | apply zrD)); exact (Kd.R_mono (Kd.R_far (p := ⟨gb127, 1, none⟩) (Kd.R_far (p := ⟨gb127, 0, none⟩) (Kd.R_mono HO_4.out (fun k_ hk => (⟨hk, hk.2⟩ : _ ∧ k_ ≠ gb127))) (fun _ hk => hk.2) (.int .i64 (wrap64 (a0 - x15_2)))) (fun _ hk => hk.2) (.int .i64 x15_2)) (fun _ h_ => h_.1)))); (case side2 => exact (Kd.R_reads' HO_4.out).2.1); rintro e w14 ⟨rfl, hb⟩; refine ⟨_, rfl, ?_⟩; have n0_ := zA0 (Kd.R_below (by (with_reducible repeat (first | apply zrA | apply zrN | apply zrD)); exact (Kd.R_mono (Kd.R_far (p := ⟨gb127, 1, none⟩) (Kd.R_far (p := ⟨gb127, 0, none⟩) (Kd.R_types HO_3.out BK127.out (by decide)) (fun _ hk => hk.2) (.int .i64 (wrap64 (a0 - x15_2)))) (fun _ hk => hk.2) (.int .i64 x15_2)) (fun _ h_ => h_.1))) hb); have n1_ := zA0 (Kd.R_below (by (with_reducible repeat (first | apply zrA | apply zrN | apply zrD)); exact (Kd.R_mono (Kd.R_far (p := ⟨gb127, 1, none⟩) (Kd.R_far (p := ⟨gb127, 0, none⟩) (Kd.R_mono HO_4.out (fun k_ hk => (⟨hk, hk.2⟩ : _ ∧ k_ ≠ gb127))) (fun _ hk => hk.2) (.int .i64 (wrap64 (a0 - x15_2)))) (fun _ hk => hk.2) (.int .i64 x15_2)) (fun _ h_ => h_.1))) hb); have n2_ := zA0 (blk_below (g := gb127) (o := .cells #[.int .i64 (wrap64 (a0 - x15_2)), .int .i64 x15_2, .int .i64 0] 109 (0, 0)) (by (with_reducible repeat (first | refine blk_drewN ?_ _ | refine blk_drew ?_ | refine blk_alloc ?_ _)); refine blk_put (cs := #[.int .i64 (wrap64 (a0 - x15_2)), .int .i64 0, .int .i64 0]) ?_ 1 _ rfl; (with_reducible repeat (first | refine blk_drewN ?_ _ | refine blk_drew ?_ | refine blk_alloc ?_ _)); refine blk_put (cs := #[.int .i64 0, .int .i64 0, .int .i64 0]) ?_ 0 _ rfl; (with_reducible repeat (first | refine blk_drewN ?_ _ | refine blk_drew ?_ | refine blk_alloc ?_ _)); exact BK127.out) hb); have n3_ := zA0 (below_step (by repeat (first | (with_reducible first | exact HB.out | apply zpA | apply zpN | apply zpD | refine below_set ?_ GE127.out) | exact HB.out)) hb); replace HO_3 := n0_; replace HO_4 := n1_; replace BK127 := n2_; replace HB := n3_; clear n0_ n1_ n2_ n3_; (try clear hb); (try clear hb2); (try clear hk); (try clear hi)) | ((with_reducible refine gate_builtin (b := .append) (xs := #[.tmp 29, .tmp 33]) rfl ?_); at_builtin; refine Kd.R_append (Kd.int .i64) (w0 := w) w.heap.size rfl (.tmp 29) (.tmp 33) 22 3 (.int .i64 0) 8 rfl Try.underlying22 info3 rfl (by decide) (by omega) u3 x3_2 t128 [.int .i64 t128] (fun _ => True) (fun _ => False) rfl rfl ?aP (fun _ hk => hk.elim) ?aF ?aO ?aB ?aS ?aL ?_; (case aP => exact rfl); (case aB => exact (by repeat (first | (with_reducible first | exact HB.out | apply zpA | apply zpN | apply zpD | refine below_set ?_ GE127.out) | exact HB.out))); (case aF => exact (fun _ _ => trivial)); (case aO => exact (zR HO_3)); (case aS => exact (below_size (by repeat (first | (with_reducible first | exact HB.out | apply zpA | apply zpN | apply zpD | refine below_set ?_ GE127.out) | exact HB.out)))); (case aL => have := LMc10.out; omega); intro v130 w15 ho hb hg hat; rw [← Ny129.out] at ho; have n0_ := zA0 (Kd.R_over' (zR HO_4) (Kd.R_typed (zR HO_3)) (by decide) hg); have n1_ := zA0 (blk_grown (g := gb127) (o := .cells #[.int .i64 (wrap64 (a0 - x15_2)), .int .i64 x15_2, .int .i64 0] 109 (0, 0)) (zQ BK127) hg (Kd.R_ne HO_3.out BK127.out (by decide))); have n2_ := zA0 (hb); have n3_ := zA0 (ho); clear HO_3; replace HO_4 := n0_; replace BK127 := n1_; replace HB := n2_; have HO131 := n3_; clear n0_ n1_ n2_ n3_; clear ho hb hg hat))
         go_roundg k2
         case measure => have := HK1.out; have := HK2.out; omega
         case rel => exact ⟨(y129), (wrap64 (x15_2 + 1)), (by first | rfl | (simp; done) | (simp [*]; done) | (simp; decide) | (simp; unfold wrap64; omega)), H', ⟨by have := HK1.out; have := HK2.out; omega⟩, ⟨zR HO131⟩, ⟨by (with_reducible repeat (first | apply zrA | apply zrN | apply zrD)); exact Kd.R_mono HO_4.out (fun _ hk => trivial)⟩, ⟨by repeat (first | (with_reducible first | exact HB.out | apply zpA | apply zpN | apply zpD | refine below_set ?_ GE127.out) | exact HB.out)⟩⟩
        ·
         rw [if_neg c10] at H
         exact absurd H (by simp)
       ·
        rw [if_neg c8] at H
        clear c8
        by_cases c16 : x11_1 = 1
        ·
         subst c16
         rw [if_pos rfl] at H
         replace H := Option.bind_eq_some_iff.mp H
         obtain ⟨t132, A170, H⟩ := H
         (try dsimp only at H)
         have A17 := zA0 A170
         clear A170
         by_cases c18 : x3_2.length < 17592186044416
         ·
          rw [if_pos c18] at H
          have LMc18 := zA0 c18
          clear c18
          obtain ⟨y133, hy133⟩ : ∃ y_ : List Int, y_ = (x3_2 ++ [t132]) := ⟨_, rfl⟩
          replace H : (impl_border.l1 k2 a0 y133 t124 1 1 a0 (wrap64 (x15_2 + 1))) = some r := by first | (rw [hy133]; with_reducible exact H) | (have H2_ := (Option.bind_some _ _).symm.trans H; rw [hy133]; with_reducible exact H2_) | (have H2_ := (Option.bind_some _ _).symm.trans H; with_reducible exact H2_) | with_reducible exact H | (rw [hy133]; exact H) | exact H
          have Ny133 := zA0 hy133
          clear hy133
          have H' := zA0 H
          clear H
          go_wp2_with (first | ((with_reducible refine gate_dst (N := 7) rfl ?_); refine box_event ?hg (N := 7) ?hd (cs := #[.int .i64 0, .int .i64 0, .int .i64 0]) (t := 109) ?hr ?_; (case hd => rfl); (case hg => rfl); (case hr => first | (go_simp; done) | (go_simp; rfl)); intro gb127 hg w19 hbox hb; have n0_ := zA0 (Kd.R_below (zR HO_3) hb); have n1_ := zA0 (Kd.R_below (Kd.R_elderB (zR HO_4) gb127 (Nat.le_of_eq hg.symm)) hb); have n2_ := zA0 (below_step (zB HB) hb); have n3_ := zA0 (hbox); have n4_ := zA0 ((by rw [hg]; exact (below_size (zB HB)) : w.heap.size ≤ gb127)); have n5_ := zA0 ((by rw [hg]; exact (below_size (zB HB)) : w.heap.size ≤ gb127)); replace HO_3 := n0_; replace HO_4 := n1_; replace HB := n2_; have BK127 := n3_; have GW127 := n4_; have GE127 := n5_; clear n0_ n1_ n2_ n3_ n4_ n5_; clear hb hbox hg; have hcz20_0 : w19.cell? ⟨gb127, 0, none⟩ = some (.int .i64 0) := (blk_cell BK127.out 0).trans rfl; have hsi20_0 := setCell_id (i := 0) (v := .int .i64 0) BK127.out rfl; have hsi20_1 := setCell_id (i := 1) (v := .int .i64 0) BK127.out rfl; have hsi20_2 := setCell_id (i := 2) (v := .int .i64 0) BK127.out rfl; have hcz20_1 : w19.cell? ⟨gb127, 1, none⟩ = some (.int .i64 0) := (blk_cell BK127.out 1).trans rfl; have hcz20_2 : w19.cell? ⟨gb127, 2, none⟩ = some (.int .i64 0) := (blk_cell BK127.out 2).trans rfl; have hfz20_0 := blk_frozen BK127.out 0; have hfz20_1 := blk_frozen BK127.out 1; have hfz20_2 := blk_frozen BK127.out 2; obtain ⟨Ao21, co21, eo21⟩ := Kd.R_slice HO_4.out; subst eo21) | ((with_reducible refine gate_callee (f := 194) rfl ?_); refine goesL_ (some 32) rfl rfl Try.func194 (by kernel_rfl) rfl #[.slice Ao21 t124.length co21, .agg #[.int .i64 0, .int .i64 (wrap64 (a0 - x15_2)), .int .i64 x15_2]] rfl (by (try simp only [List.map_toArray, List.map_cons, List.map_nil]); first | done | rfl) ?_; (with_reducible refine (slices_Index_3_int_3_int.calls k2 _ _ t124 0 (wrap64 (a0 - x15_2)) x15_2 t132 _ ?side1 ?side2 A17.out).mono ?_); (case side1 => refine (Kd.R_reads' (e := 109) (base := w.heap.size) (ok := fun k_ => (True ∧ k_ ≠ gb127)) (n := t124.length) (c := co21) ?_).2.2; exact (by (with_reducible repeat (first | apply zrA | apply zrN | apply zrD)); exact (Kd.R_mono (Kd.R_far (p := ⟨gb127, 2, none⟩) (Kd.R_far (p := ⟨gb127, 1, none⟩) (Kd.R_mono HO_4.out (fun k_ hk => (⟨hk, hk.2⟩ : _ ∧ k_ ≠ gb127))) (fun _ hk => hk.2) (.int .i64 (wrap64 (a0 - x15_2)))) (fun _ hk => hk.2) (.int .i64 x15_2)) (fun _ h_ => h_.1)))); (case side2 => exact (Kd.R_reads' HO_4.out).2.1); rintro e w22 ⟨rfl, hb⟩; refine ⟨_, rfl, ?_⟩; have n0_ := zA0 (Kd.R_below (by (with_reducible repeat (first | apply zrA | apply zrN | apply zrD)); exact (Kd.R_mono (Kd.R_far (p := ⟨gb127, 2, none⟩) (Kd.R_far (p := ⟨gb127, 1, none⟩) (Kd.R_types HO_3.out BK127.out (by decide)) (fun _ hk => hk.2) (.int .i64 (wrap64 (a0 - x15_2)))) (fun _ hk => hk.2) (.int .i64 x15_2)) (fun _ h_ => h_.1))) hb); have n1_ := zA0 (Kd.R_below (by (with_reducible repeat (first | apply zrA | apply zrN | apply zrD)); exact (Kd.R_mono (Kd.R_far (p := ⟨gb127, 2, none⟩) (Kd.R_far (p := ⟨gb127, 1, none⟩) (Kd.R_mono HO_4.out (fun k_ hk => (⟨hk, hk.2⟩ : _ ∧ k_ ≠ gb127))) (fun _ hk => hk.2) (.int .i64 (wrap64 (a0 - x15_2)))) (fun _ hk => hk.2) (.int .i64 x15_2)) (fun _ h_ => h_.1))) hb); have n2_ := zA0 (blk_below (g := gb127) (o := .cells #[.int .i64 0, .int .i64 (wrap64 (a0 - x15_2)), .int .i64 x15_2] 109 (0, 0)) (by (with_reducible repeat (first | refine blk_drewN ?_ _ | refine blk_drew ?_ | refine blk_alloc ?_ _)); refine blk_put (cs := #[.int .i64 0, .int .i64 (wrap64 (a0 - x15_2)), .int .i64 0]) ?_ 2 _ rfl; (with_reducible repeat (first | refine blk_drewN ?_ _ | refine blk_drew ?_ | refine blk_alloc ?_ _)); refine blk_put (cs := #[.int .i64 0, .int .i64 0, .int .i64 0]) ?_ 1 _ rfl; (with_reducible repeat (first | refine blk_drewN ?_ _ | refine blk_drew ?_ | refine blk_alloc ?_ _)); exact BK127.out) hb); have n3_ := zA0 (below_step (by repeat (first | (with_reducible first | exact HB.out | apply zpA | apply zpN | apply zpD | refine below_set ?_ GE127.out) | exact HB.out)) hb); replace HO_3 := n0_; replace HO_4 := n1_; replace BK127 := n2_; replace HB := n3_; clear n0_ n1_ n2_ n3_; (try clear hb); (try clear hb2); (try clear hk); (try clear hi)) | ((with_reducible refine gate_builtin (b := .append) (xs := #[.tmp 29, .tmp 33]) rfl ?_); at_builtin; refine Kd.R_append (Kd.int .i64) (w0 := w) w.heap.size rfl (.tmp 29) (.tmp 33) 22 3 (.int .i64 0) 8 rfl Try.underlying22 info3 rfl (by decide) (by omega) u3 x3_2 t132 [.int .i64 t132] (fun _ => True) (fun _ => False) rfl rfl ?aP (fun _ hk => hk.elim) ?aF ?aO ?aB ?aS ?aL ?_; (case aP => exact rfl); (case aB => exact (by repeat (first | (with_reducible first | exact HB.out | apply zpA | apply zpN | apply zpD | refine below_set ?_ GE127.out) | exact HB.out))); (case aF => exact (fun _ _ => trivial)); (case aO => exact (zR HO_3)); (case aS => exact (below_size (by repeat (first | (with_reducible first | exact HB.out | apply zpA | apply zpN | apply zpD | refine below_set ?_ GE127.out) | exact HB.out)))); (case aL => have := LMc18.out; omega); intro v134 w23 ho hb hg hat; rw [← Ny133.out] at ho; have n0_ := zA0 (Kd.R_over' (zR HO_4) (Kd.R_typed (zR HO_3)) (by decide) hg); have n1_ := zA0 (blk_grown (g := gb127) (o := .cells #[.int .i64 0, .int .i64 (wrap64 (a0 - x15_2)), .int .i64 x15_2] 109 (0, 0)) (zQ BK127) hg (Kd.R_ne HO_3.out BK127.out (by decide))); have n2_ := zA0 (hb); have n3_ := zA0 (ho); clear HO_3; replace HO_4 := n0_; replace BK127 := n1_; replace HB := n2_; have HO135 := n3_; clear n0_ n1_ n2_ n3_; clear ho hb hg hat))
          go_roundg k2
          case measure => have := HK1.out; have := HK2.out; omega
          case rel => exact ⟨(y133), (wrap64 (x15_2 + 1)), (by first | rfl | (simp; done) | (simp [*]; done) | (simp; decide) | (simp; unfold wrap64; omega)), H', ⟨by have := HK1.out; have := HK2.out; omega⟩, ⟨zR HO135⟩, ⟨by (with_reducible repeat (first | apply zrA | apply zrN | apply zrD)); exact Kd.R_mono HO_4.out (fun _ hk => trivial)⟩, ⟨by repeat (first | (with_reducible first | exact HB.out | apply zpA | apply zpN | apply zpD | refine below_set ?_ GE127.out) | exact HB.out)⟩⟩
         ·
          rw [if_neg c18] at H
          exact absurd H (by simp)
        ·
         rw [if_neg c16] at H
         clear c16
         by_cases c24 : x11_1 = 2
         ·
          subst c24
          rw [if_pos rfl] at H
          replace H := Option.bind_eq_some_iff.mp H
          obtain ⟨t136, A250, H⟩ := H
          (try dsimp only at H)
          have A25 := zA0 A250
          clear A250
          by_cases c26 : x3_2.length < 17592186044416
          ·
           rw [if_pos c26] at H
           have LMc26 := zA0 c26
           clear c26
           obtain ⟨y137, hy137⟩ : ∃ y_ : List Int, y_ = (x3_2 ++ [t136]) := ⟨_, rfl⟩
           replace H : (impl_border.l1 k2 a0 y137 t124 2 2 a0 (wrap64 (x15_2 + 1))) = some r := by first | (rw [hy137]; with_reducible exact H) | (have H2_ := (Option.bind_some _ _).symm.trans H; rw [hy137]; with_reducible exact H2_) | (have H2_ := (Option.bind_some _ _).symm.trans H; with_reducible exact H2_) | with_reducible exact H | (rw [hy137]; exact H) | exact H
           have Ny137 := zA0 hy137
           clear hy137
           have H' := zA0 H
           clear H
           go_wp2_with (first | ((with_reducible refine gate_dst (N := 7) rfl ?_); refine box_event ?hg (N := 7) ?hd (cs := #[.int .i64 0, .int .i64 0, .int .i64 0]) (t := 109) ?hr ?_; (case hd => rfl); (case hg => rfl); (case hr => first | (go_simp; done) | (go_simp; rfl)); intro gb127 hg w27 hbox hb; have n0_ := zA0 (Kd.R_below (zR HO_3) hb); have n1_ := zA0 (Kd.R_below (Kd.R_elderB (zR HO_4) gb127 (Nat.le_of_eq hg.symm)) hb); have n2_ := zA0 (below_step (zB HB) hb); have n3_ := zA0 (hbox); have n4_ := zA0 ((by rw [hg]; exact (below_size (zB HB)) : w.heap.size ≤ gb127)); have n5_ := zA0 ((by rw [hg]; exact (below_size (zB HB)) : w.heap.size ≤ gb127)); replace HO_3 := n0_; replace HO_4 := n1_; replace HB := n2_; have BK127 := n3_; have GW127 := n4_; have GE127 := n5_; clear n0_ n1_ n2_ n3_ n4_ n5_; clear hb hbox hg; have hcz28_0 : w27.cell? ⟨gb127, 0, none⟩ = some (.int .i64 0) := (blk_cell BK127.out 0).trans rfl; have hsi28_0 := setCell_id (i := 0) (v := .int .i64 0) BK127.out rfl; have hsi28_1 := setCell_id (i := 1) (v := .int .i64 0) BK127.out rfl; have hsi28_2 := setCell_id (i := 2) (v := .int .i64 0) BK127.out rfl; have hcz28_1 : w27.cell? ⟨gb127, 1, none⟩ = some (.int .i64 0) := (blk_cell BK127.out 1).trans rfl; have hcz28_2 : w27.cell? ⟨gb127, 2, none⟩ = some (.int .i64 0) := (blk_cell BK127.out 2).trans rfl; have hfz28_0 := blk_frozen BK127.out 0; have hfz28_1 := blk_frozen BK127.out 1; have hfz28_2 := blk_frozen BK127.out 2; obtain ⟨Ao29, co29, eo29⟩ := Kd.R_slice HO_4.out; subst eo29) | ((with_reducible refine gate_callee (f := 194) rfl ?_); refine goesL_ (some 32) rfl rfl Try.func194 (by kernel_rfl) rfl #[.slice Ao29 t124.length co29, .agg #[.int .i64 x15_2, .int .i64 0, .int .i64 (wrap64 (a0 - x15_2))]] rfl (by (try simp only [List.map_toArray, List.map_cons, List.map_nil]); first | done | rfl) ?_; (with_reducible refine (slices_Index_3_int_3_int.calls k2 _ _ t124 x15_2 0 (wrap64 (a0 - x15_2)) t136 _ ?side1 ?side2 A25.out).mono ?_); (case side1 => refine (Kd.R_reads' (e := 109) (base := w.heap.size) (ok := fun k_ => (True ∧ k_ ≠ gb127)) (n := t124.length) (c := co29) ?_).2.2; exact (by (with_reducible repeat (first | apply zrA | apply zrN | apply zrD)); exact (Kd.R_mono (Kd.R_far (p := ⟨gb127, 0, none⟩) (Kd.R_far (p := ⟨gb127, 2, none⟩) (Kd.R_mono HO_4.out (fun k_ hk => (⟨hk, hk.2⟩ : _ ∧ k_ ≠ gb127))) (fun _ hk => hk.2) (.int .i64 (wrap64 (a0 - x15_2)))) (fun _ hk => hk.2) (.int .i64 x15_2)) (fun _ h_ => h_.1)))); (case side2 => exact (Kd.R_reads' HO_4.out).2.1); rintro e w30 ⟨rfl, hb⟩; refine ⟨_, rfl, ?_⟩; have n0_ := zA0 (Kd.R_below (by (with_reducible repeat (first | apply zrA | apply zrN | apply zrD)); exact (Kd.R_mono (Kd.R_far (p := ⟨gb127, 0, none⟩) (Kd.R_far (p := ⟨gb127, 2, none⟩) (Kd.R_types HO_3.out BK127.out (by decide)) (fun _ hk => hk.2) (.int .i64 (wrap64 (a0 - x15_2)))) (fun _ hk => hk.2) (.int .i64 x15_2)) (fun _ h_ => h_.1))) hb); have n1_ := zA0 (Kd.R_below (by (with_reducible repeat (first | apply zrA | apply zrN | apply zrD)); exact (Kd.R_mono (Kd.R_far (p := ⟨gb127, 0, none⟩) (Kd.R_far (p := ⟨gb127, 2, none⟩) (Kd.R_mono HO_4.out (fun k_ hk => (⟨hk, hk.2⟩ : _ ∧ k_ ≠ gb127))) (fun _ hk => hk.2) (.int .i64 (wrap64 (a0 - x15_2)))) (fun _ hk => hk.2) (.int .i64 x15_2)) (fun _ h_ => h_.1))) hb); have n2_ := zA0 (blk_below (g := gb127) (o := .cells #[.int .i64 x15_2, .int .i64 0, .int .i64 (wrap64 (a0 - x15_2))] 109 (0, 0)) (by (with_reducible repeat (first | refine blk_drewN ?_ _ | refine blk_drew ?_ | refine blk_alloc ?_ _)); refine blk_put (cs := #[.int .i64 0, .int .i64 0, .int .i64 (wrap64 (a0 - x15_2))]) ?_ 0 _ rfl; (with_reducible repeat (first | refine blk_drewN ?_ _ | refine blk_drew ?_ | refine blk_alloc ?_ _)); refine blk_put (cs := #[.int .i64 0, .int .i64 0, .int .i64 0]) ?_ 2 _ rfl; (with_reducible repeat (first | refine blk_drewN ?_ _ | refine blk_drew ?_ | refine blk_alloc ?_ _)); exact BK127.out) hb); have n3_ := zA0 (below_step (by repeat (first | (with_reducible first | exact HB.out | apply zpA | apply zpN | apply zpD | refine below_set ?_ GE127.out) | exact HB.out)) hb); replace HO_3 := n0_; replace HO_4 := n1_; replace BK127 := n2_; replace HB := n3_; clear n0_ n1_ n2_ n3_; (try clear hb); (try clear hb2); (try clear hk); (try clear hi)) | ((with_reducible refine gate_builtin (b := .append) (xs := #[.tmp 29, .tmp 33]) rfl ?_); at_builtin; refine Kd.R_append (Kd.int .i64) (w0 := w) w.heap.size rfl (.tmp 29) (.tmp 33) 22 3 (.int .i64 0) 8 rfl Try.underlying22 info3 rfl (by decide) (by omega) u3 x3_2 t136 [.int .i64 t136] (fun _ => True) (fun _ => False) rfl rfl ?aP (fun _ hk => hk.elim) ?aF ?aO ?aB ?aS ?aL ?_; (case aP => exact rfl); (case aB => exact (by repeat (first | (with_reducible first | exact HB.out | apply zpA | apply zpN | apply zpD | refine below_set ?_ GE127.out) | exact HB.out))); (case aF => exact (fun _ _ => trivial)); (case aO => exact (zR HO_3)); (case aS => exact (below_size (by repeat (first | (with_reducible first | exact HB.out | apply zpA | apply zpN | apply zpD | refine below_set ?_ GE127.out) | exact HB.out)))); (case aL => have := LMc26.out; omega); intro v138 w31 ho hb hg hat; rw [← Ny137.out] at ho; have n0_ := zA0 (Kd.R_over' (zR HO_4) (Kd.R_typed (zR HO_3)) (by decide) hg); have n1_ := zA0 (blk_grown (g := gb127) (o := .cells #[.int .i64 x15_2, .int .i64 0, .int .i64 (wrap64 (a0 - x15_2))] 109 (0, 0)) (zQ BK127) hg (Kd.R_ne HO_3.out BK127.out (by decide))); have n2_ := zA0 (hb); have n3_ := zA0 (ho); clear HO_3; replace HO_4 := n0_; replace BK127 := n1_; replace HB := n2_; have HO139 := n3_; clear n0_ n1_ n2_ n3_; clear ho hb hg hat))
           go_roundg k2
           case measure => have := HK1.out; have := HK2.out; omega
           case rel => exact ⟨(y137), (wrap64 (x15_2 + 1)), (by first | rfl | (simp; done) | (simp [*]; done) | (simp; decide) | (simp; unfold wrap64; omega)), H', ⟨by have := HK1.out; have := HK2.out; omega⟩, ⟨zR HO139⟩, ⟨by (with_reducible repeat (first | apply zrA | apply zrN | apply zrD)); exact Kd.R_mono HO_4.out (fun _ hk => trivial)⟩, ⟨by repeat (first | (with_reducible first | exact HB.out | apply zpA | apply zpN | apply zpD | refine below_set ?_ GE127.out) | exact HB.out)⟩⟩
          ·
           rw [if_neg c26] at H
           exact absurd H (by simp)
         ·
          rw [if_neg c24] at H
          clear c24
          exact absurd H (by simp)
      ·
       rw [if_neg c7] at H
       have c7b0 : decide (x15_2 < a0) = false := decide_eq_false c7
       clear c7
       have H' := zA0 H
       clear H
       go_wp2
       go_roundg k2
       case measure => have := HK1.out; have := HK2.out; omega
       case rel => exact ⟨(x3_2), (wrap64 (x11_1 + 1)), (by first | rfl | (simp; done) | (simp [*]; done) | (simp; decide) | (simp; unfold wrap64; omega)), H', ⟨by have := HK1.out; have := HK2.out; omega⟩, ⟨zR HO_3⟩, ⟨zR HO_4⟩, ⟨zB HB⟩⟩
   ·
    rw [if_neg c6] at H
    have c6b0 : decide (x11_1 < 3) = false := decide_eq_false c6
    clear c6
    obtain rfl := Option.some.inj H
    go_wp2
    go_ret
    exact ⟨_, by first | rfl | (simp [errW_none, errW_some] <;> rfl) | (simp [*, errW_none, errW_some] <;> rfl), zR HO_3, zB HB⟩
def impl_houseOf.f (k : Nat) (a0 : Int) (l1 : List Int) : Option (Int × List Int × (List (List Int)) × List Int × Bool) := (impl_areLabels.f a0 l1).bind fun t153 => (if t153 = true then ((impl_cells.f k a0).bind fun t154 => ((impl_border.f k a0).bind fun t157 => (some (a0, l1, t154, t157, true)))) else (some (0, ([] : List Int), ([] : List (List Int)), ([] : List Int), false)))
set_option maxHeartbeats 8000000 in
set_option maxRecDepth 100000 in
theorem impl_houseOf.calls (k : Nat) (a0 : Int) (P1_ : Nat → Prop) (A1 : Option Addr) (c1 : Nat) (l1 : List Int) (r1 : Int) (r2 : List Int) (r3 : List (List Int)) (r4 : List Int) (r5 : Bool) (w : World) (hs1 : Kd.V (Kd.int .i64) 3 w w.heap.size (fun k_ => P1_ k_) (.slice A1 l1.length c1) l1) (h : impl_houseOf.f k a0 l1 = some (r1, r2, r3, r4, r5)) :
  Calls Try.prog 206 #[.int .i64 a0, .slice A1 l1.length c1] w fun e w' => ∃ v1_ v2_ v3_ : Value, e = .returned (.tuple #[.agg #[.int .i64 r1, v1_, v2_, v3_], .bool r5]) ∧ Kd.V (Kd.int .i64) 3 w' w.heap.size (fun k_ => (P1_ k_ ∨ w.heap.size ≤ k_) ∧ some k_ ≠ (v2_ : Value).ownBlock ∧ some k_ ≠ (v3_ : Value).ownBlock) v1_ r2 ∧ Kd.S (Kd.slice 3 (Kd.int .i64)) 22 w' w.heap.size (fun k_ => (w.heap.size ≤ k_) ∧ some k_ ≠ (v3_ : Value).ownBlock) v2_ r3 ∧ Kd.R (Kd.int .i64) 3 w' w.heap.size (fun k_ => (w.heap.size ≤ k_)) v3_ r4 ∧ Below w.heap.size w w' := by
 have hu132 := Try.underlying132
 have HO1 := zA0 (show Kd.V (Kd.int .i64) 3 w w.heap.size (fun k_ => (P1_ k_ ∨ w.heap.size ≤ k_)) (.slice A1 l1.length c1) l1 from Kd.V_mono hs1 (fun k_ hk => .inl hk))
 have HB := zA0 (Below.refl w.heap.size w)
 have H : ((impl_areLabels.f a0 l1).bind fun t153 => (if t153 = true then ((impl_cells.f k a0).bind fun t154 => ((impl_border.f k a0).bind fun t157 => (some (a0, l1, t154, t157, true)))) else (some (0, ([] : List Int), ([] : List (List Int)), ([] : List Int), false)))) = some (r1, r2, r3, r4, r5) := h
 clear h
 replace H := Option.bind_eq_some_iff.mp H
 obtain ⟨t153, A30, H⟩ := H
 (try dsimp only at H)
 have A3 := zA0 A30
 clear A30
 by_cases c4 : t153 = true
 ·
  subst c4
  rw [if_pos rfl] at H
  replace H := Option.bind_eq_some_iff.mp H
  obtain ⟨t154, A50, H⟩ := H
  (try dsimp only at H)
  have A5 := zA0 A50
  clear A50
  replace H := Option.bind_eq_some_iff.mp H
  obtain ⟨t157, A60, H⟩ := H
  (try dsimp only at H)
  have A6 := zA0 A60
  clear A60
  simp only [Option.some.injEq, Prod.mk.injEq] at H
  obtain ⟨rfl, rfl, rfl, rfl, rfl⟩ := H
  go_enter Try.func206, Try.ntmps206
  go_wp2_with (first | ((with_reducible refine gate_dst (N := 4) rfl ?_); refine box_event ?hg (N := 4) ?hd (cs := #[.int .i64 0, .slice none 0 0, .slice none 0 0, .slice none 0 0]) (t := 132) ?hr ?_; (case hd => rfl); (case hg => rfl); (case hr => first | (go_simp; done) | (go_simp; rfl)); intro gb152 hg w7 hbox hb; have n0_ := zA0 (Kd.V_below (Kd.V_elderB (zV HO1) gb152 (Nat.le_of_eq hg.symm)) hb); have n1_ := zA0 (below_step (zB HB) hb); have n2_ := zA0 (hbox); have n3_ := zA0 ((by rw [hg]; exact (below_size (zB HB)) : w.heap.size ≤ gb152)); have n4_ := zA0 ((by rw [hg]; exact (below_size (zB HB)) : w.heap.size ≤ gb152)); replace HO1 := n0_; replace HB := n1_; have BK152 := n2_; have GW152 := n3_; have GE152 := n4_; clear n0_ n1_ n2_ n3_ n4_; clear hb hbox hg) | ((with_reducible refine gate_callee (f := 264) rfl ?_); refine goesL_ (some 8) rfl rfl Try.func264 (by kernel_rfl) rfl #[.int .i64 a0, .slice A1 l1.length c1] rfl (by (try simp only [List.map_toArray, List.map_cons, List.map_nil]); first | done | rfl) ?_; (with_reducible refine (impl_areLabels.calls a0 _ _ l1 true _ ?side1 ?side2 A3.out).mono ?_); (case side1 => exact zC (Kd.V_reads' HO1.out).2.2); (case side2 => exact (Kd.V_reads' HO1.out).2.1); rintro e w' ⟨rfl, ⟨nd, rfl⟩⟩; refine ⟨_, rfl, ?_⟩; (try (rw [drewN_self w7]; generalize hq_ : World.drewN w7 _ = w7; have n0_ : Aside0 (Kd.V (Kd.int .i64) 3 w7 w.heap.size (fun k_ => (P1_ k_ ∨ w.heap.size ≤ k_) ∧ k_ ≠ gb152) (.slice A1 l1.length c1) l1) := ⟨by rw [← hq_]; exact (zV HO1)⟩; have n1_ : Aside0 (w7.heap[gb152]? = some (.cells #[.int .i64 0, .slice none 0 0, .slice none 0 0, .slice none 0 0] 132 (0, 0))) := ⟨by rw [← hq_]; exact (zQ BK152)⟩; have n2_ : Aside0 (Below w.heap.size w w7) := ⟨by rw [← hq_]; exact (by repeat (first | (with_reducible first | exact HB.out | apply zpA | apply zpN | apply zpD | refine below_set ?_ GE152.out) | exact HB.out))⟩; clear HO1 BK152 HB hq_; have HO1 := n0_; have BK152 := n1_; have HB := n2_; clear n0_ n1_ n2_))) | ((with_reducible refine gate_callee (f := 197) rfl ?_); refine goesL_ (some 14) rfl rfl Try.func197 (by kernel_rfl) rfl #[.int .i64 a0] rfl (by (try simp only [List.map_toArray, List.map_cons, List.map_nil]); first | done | rfl) ?_; (with_reducible refine (impl_cells.calls k a0 t154 _ A5.out).mono ?_); rintro e w8 ⟨v155, rfl, ho0, hb⟩; refine ⟨_, rfl, ?_⟩; have n0_ := zA0 (Kd.V_elder' (zV HO1) (Kd.S_base ho0) hb); have n1_ := zA0 (Kd.S_lower (Kd.S_newM (M := fun k_ => (w.heap.size ≤ k_)) ho0 (below_size (by repeat (first | (with_reducible first | exact HB.out | apply zpA | apply zpN | apply zpD | refine below_set ?_ GE152.out) | exact HB.out))) (fun k_ h_ => h_)) (below_size (by repeat (first | (with_reducible first | exact HB.out | apply zpA | apply zpN | apply zpD | refine below_set ?_ GE152.out) | exact HB.out)))); have n2_ := zA0 (blk_below (g := gb152) (o := .cells #[.int .i64 0, .slice none 0 0, .slice none 0 0, .slice none 0 0] 132 (0, 0)) (zQ BK152) hb); have n3_ := zA0 (below_step (by repeat (first | (with_reducible first | exact HB.out | apply zpA | apply zpN | apply zpD | refine below_set ?_ GE152.out) | exact HB.out)) hb); replace HO1 := n0_; have HO156 := n1_; replace BK152 := n2_; replace HB := n3_; clear n0_ n1_ n2_ n3_; (try clear hb); (try clear hb2); (try clear hk); (try clear hi); (try clear ho0)) | ((with_reducible refine gate_callee (f := 195) rfl ?_); refine goesL_ (some 16) rfl rfl Try.func195 (by kernel_rfl) rfl #[.int .i64 a0] rfl (by (try simp only [List.map_toArray, List.map_cons, List.map_nil]); first | done | rfl) ?_; (with_reducible refine (impl_border.calls k a0 t157 _ A6.out).mono ?_); rintro e w9 ⟨v158, rfl, ho0, hb⟩; refine ⟨_, rfl, ?_⟩; have n0_ := zA0 (Kd.V_elder' (zV HO1) (Kd.R_base ho0) hb); have n1_ := zA0 (Kd.S_elder' (zS HO156) (Kd.R_base ho0) hb); have n2_ := zA0 (Kd.R_lower (Kd.R_newM (M := fun k_ => (w.heap.size ≤ k_)) ho0 (below_size (by repeat (first | (with_reducible first | exact HB.out | apply zpA | apply zpN | apply zpD | refine below_set ?_ GE152.out) | exact HB.out))) (fun k_ h_ => h_)) (below_size (by repeat (first | (with_reducible first | exact HB.out | apply zpA | apply zpN | apply zpD | refine below_set ?_ GE152.out) | exact HB.out)))); have n3_ := zA0 (blk_below (g := gb152) (o := .cells #[.int .i64 0, .slice none 0 0, .slice none 0 0, .slice none 0 0] 132 (0, 0)) (zQ BK152) hb); have n4_ := zA0 (below_step (by repeat (first | (with_reducible first | exact HB.out | apply zpA | apply zpN | apply zpD | refine below_set ?_ GE152.out) | exact HB.out)) hb); replace HO1 := n0_; replace HO156 := n1_; have HO159 := n2_; replace BK152 := n3_; replace HB := n4_; clear n0_ n1_ n2_ n3_ n4_; (try clear hb); (try clear hb2); (try clear hk); (try clear hi); (try clear ho0); obtain ⟨Ao10, co10, eo10⟩ := Kd.R_slice HO159.out; subst eo10; obtain ⟨Ao11, co11, eo11⟩ := Kd.S_slice HO156.out; subst eo11; have hcz12_0 : w9.cell? ⟨gb152, 0, none⟩ = some (.int .i64 0) := (blk_cell BK152.out 0).trans rfl; have hcz12_1 : w9.cell? ⟨gb152, 1, none⟩ = some (.slice none 0 0) := (blk_cell BK152.out 1).trans rfl; have hcz12_2 : w9.cell? ⟨gb152, 2, none⟩ = some (.slice none 0 0) := (blk_cell BK152.out 2).trans rfl; have hcz12_3 : w9.cell? ⟨gb152, 3, none⟩ = some (.slice none 0 0) := (blk_cell BK152.out 3).trans rfl; have hfz12_0 := blk_frozen BK152.out 0; have hfz12_1 := blk_frozen BK152.out 1; have hfz12_2 := blk_frozen BK152.out 2; have hfz12_3 := blk_frozen BK152.out 3))
  refine bodyPost_ret (results_ct rfl _ _ gb152 132 #[.int .i64 a0, .slice A1 l1.length c1, .slice Ao11 t154.length co11, .slice Ao10 t157.length co10] (0, 0) _ rfl (by (with_reducible repeat (first | refine blk_drewN ?_ _ | refine blk_drew ?_ | refine blk_alloc ?_ _)); refine blk_put (cs := #[.int .i64 a0, .slice A1 l1.length c1, .slice Ao11 t154.length co11, .slice none 0 0]) ?_ 3 _ rfl; (with_reducible repeat (first | refine blk_drewN ?_ _ | refine blk_drew ?_ | refine blk_alloc ?_ _)); refine blk_put (cs := #[.int .i64 a0, .slice A1 l1.length c1, .slice none 0 0, .slice none 0 0]) ?_ 2 _ rfl; (with_reducible repeat (first | refine blk_drewN ?_ _ | refine blk_drew ?_ | refine blk_alloc ?_ _)); refine blk_put (cs := #[.int .i64 a0, .slice none 0 0, .slice none 0 0, .slice none 0 0]) ?_ 1 _ rfl; (with_reducible repeat (first | refine blk_drewN ?_ _ | refine blk_drew ?_ | refine blk_alloc ?_ _)); refine blk_put (cs := #[.int .i64 0, .slice none 0 0, .slice none 0 0, .slice none 0 0]) ?_ 0 _ rfl; (with_reducible repeat (first | refine blk_drewN ?_ _ | refine blk_drew ?_ | refine blk_alloc ?_ _)); exact BK152.out) Try.underlying132 rfl (by kernel_rfl)) rfl ?_
  exact ⟨_, _, _, by first | rfl | (simp [errW_none, errW_some] <;> rfl) | (simp [*, errW_none, errW_some] <;> rfl), by (with_reducible repeat (first | apply Kd.V_alloc | apply Kd.V_drewN | apply Kd.V_drew)); exact Kd.V_mono (Kd.V_far (p := ⟨gb152, 3, none⟩) (Kd.V_far (p := ⟨gb152, 2, none⟩) (Kd.V_far (p := ⟨gb152, 1, none⟩) (Kd.V_far (p := ⟨gb152, 0, none⟩) (Kd.V_mono HO1.out (fun k_ hk => (⟨hk, hk.1.1.2⟩ : _ ∧ k_ ≠ gb152))) (fun _ hk => hk.2) (.int .i64 a0)) (fun _ hk => hk.2) (.slice A1 l1.length c1)) (fun _ hk => hk.2) (.slice Ao11 t154.length co11)) (fun _ hk => hk.2) (.slice Ao10 t157.length co10)) (fun _ hk => ⟨hk.1.1.1.1, ⟨hk.1.1.2, hk.1.2⟩⟩), by (with_reducible repeat (first | apply zsA | apply zsN | apply zsD)); exact Kd.S_mono (Kd.S_far (p := ⟨gb152, 3, none⟩) (Kd.S_far (p := ⟨gb152, 2, none⟩) (Kd.S_far (p := ⟨gb152, 1, none⟩) (Kd.S_far (p := ⟨gb152, 0, none⟩) (Kd.S_types HO156.out BK152.out (by decide)) (fun _ hk => hk.2) (.int .i64 a0)) (fun _ hk => hk.2) (.slice A1 l1.length c1)) (fun _ hk => hk.2) (.slice Ao11 t154.length co11)) (fun _ hk => hk.2) (.slice Ao10 t157.length co10)) (fun _ hk => ⟨hk.1.1.1, hk.1.2⟩), by (with_reducible repeat (first | apply zrA | apply zrN | apply zrD)); exact Kd.R_mono (Kd.R_far (p := ⟨gb152, 3, none⟩) (Kd.R_far (p := ⟨gb152, 2, none⟩) (Kd.R_far (p := ⟨gb152, 1, none⟩) (Kd.R_far (p := ⟨gb152, 0, none⟩) (Kd.R_types HO159.out BK152.out (by decide)) (fun _ hk => hk.2) (.int .i64 a0)) (fun _ hk => hk.2) (.slice A1 l1.length c1)) (fun _ hk => hk.2) (.slice Ao11 t154.length co11)) (fun _ hk => hk.2) (.slice Ao10 t157.length co10)) (fun _ hk => hk.1.1), by repeat (first | (with_reducible first | exact HB.out | apply zpA | apply zpN | apply zpD | refine below_set ?_ GE152.out) | exact HB.out)⟩
 ·
  replace c4 := Bool.eq_false_iff.mpr c4
  subst c4
  rw [if_neg (show ¬ (false = true) by decide)] at H
  simp only [Option.some.injEq, Prod.mk.injEq] at H
  obtain ⟨rfl, rfl, rfl, rfl, rfl⟩ := H
  go_enter Try.func206, Try.ntmps206
  go_wp2_with (first | ((with_reducible refine gate_dst (N := 4) rfl ?_); refine box_event ?hg (N := 4) ?hd (cs := #[.int .i64 0, .slice none 0 0, .slice none 0 0, .slice none 0 0]) (t := 132) ?hr ?_; (case hd => rfl); (case hg => rfl); (case hr => first | (go_simp; done) | (go_simp; rfl)); intro gb152 hg w13 hbox hb; have n0_ := zA0 (Kd.V_below (Kd.V_elderB (zV HO1) gb152 (Nat.le_of_eq hg.symm)) hb); have n1_ := zA0 (below_step (zB HB) hb); have n2_ := zA0 (hbox); have n3_ := zA0 ((by rw [hg]; exact (below_size (zB HB)) : w.heap.size ≤ gb152)); have n4_ := zA0 ((by rw [hg]; exact (below_size (zB HB)) : w.heap.size ≤ gb152)); replace HO1 := n0_; replace HB := n1_; have BK152 := n2_; have GW152 := n3_; have GE152 := n4_; clear n0_ n1_ n2_ n3_ n4_; clear hb hbox hg) | ((with_reducible refine gate_callee (f := 264) rfl ?_); refine goesL_ (some 8) rfl rfl Try.func264 (by kernel_rfl) rfl #[.int .i64 a0, .slice A1 l1.length c1] rfl (by (try simp only [List.map_toArray, List.map_cons, List.map_nil]); first | done | rfl) ?_; (with_reducible refine (impl_areLabels.calls a0 _ _ l1 false _ ?side1 ?side2 A3.out).mono ?_); (case side1 => exact zC (Kd.V_reads' HO1.out).2.2); (case side2 => exact (Kd.V_reads' HO1.out).2.1); rintro e w' ⟨rfl, ⟨nd, rfl⟩⟩; refine ⟨_, rfl, ?_⟩; (try (rw [drewN_self w13]; generalize hq_ : World.drewN w13 _ = w13; have n0_ : Aside0 (Kd.V (Kd.int .i64) 3 w13 w.heap.size (fun k_ => (P1_ k_ ∨ w.heap.size ≤ k_) ∧ k_ ≠ gb152) (.slice A1 l1.length c1) l1) := ⟨by rw [← hq_]; exact (zV HO1)⟩; have n1_ : Aside0 (w13.heap[gb152]? = some (.cells #[.int .i64 0, .slice none 0 0, .slice none 0 0, .slice none 0 0] 132 (0, 0))) := ⟨by rw [← hq_]; exact (zQ BK152)⟩; have n2_ : Aside0 (Below w.heap.size w w13) := ⟨by rw [← hq_]; exact (by repeat (first | (with_reducible first | exact HB.out | apply zpA | apply zpN | apply zpD | refine below_set ?_ GE152.out) | exact HB.out))⟩; clear HO1 BK152 HB hq_; have HO1 := n0_; have BK152 := n1_; have HB := n2_; clear n0_ n1_ n2_)); have hcz14_0 : w13.cell? ⟨gb152, 0, none⟩ = some (.int .i64 0) := (blk_cell BK152.out 0).trans rfl; have hcz14_1 : w13.cell? ⟨gb152, 1, none⟩ = some (.slice none 0 0) := (blk_cell BK152.out 1).trans rfl; have hcz14_2 : w13.cell? ⟨gb152, 2, none⟩ = some (.slice none 0 0) := (blk_cell BK152.out 2).trans rfl; have hcz14_3 : w13.cell? ⟨gb152, 3, none⟩ = some (.slice none 0 0) := (blk_cell BK152.out 3).trans rfl; have hfz14_0 := blk_frozen BK152.out 0; have hfz14_1 := blk_frozen BK152.out 1; have hfz14_2 := blk_frozen BK152.out 2; have hfz14_3 := blk_frozen BK152.out 3))
  refine bodyPost_ret (results_ct rfl _ _ gb152 132 #[.int .i64 0, .slice none 0 0, .slice none 0 0, .slice none 0 0] (0, 0) _ rfl (by (with_reducible repeat (first | refine blk_drewN ?_ _ | refine blk_drew ?_ | refine blk_alloc ?_ _)); refine blk_put (cs := #[.int .i64 0, .slice none 0 0, .slice none 0 0, .slice none 0 0]) ?_ 3 _ rfl; (with_reducible repeat (first | refine blk_drewN ?_ _ | refine blk_drew ?_ | refine blk_alloc ?_ _)); refine blk_put (cs := #[.int .i64 0, .slice none 0 0, .slice none 0 0, .slice none 0 0]) ?_ 2 _ rfl; (with_reducible repeat (first | refine blk_drewN ?_ _ | refine blk_drew ?_ | refine blk_alloc ?_ _)); refine blk_put (cs := #[.int .i64 0, .slice none 0 0, .slice none 0 0, .slice none 0 0]) ?_ 1 _ rfl; (with_reducible repeat (first | refine blk_drewN ?_ _ | refine blk_drew ?_ | refine blk_alloc ?_ _)); refine blk_put (cs := #[.int .i64 0, .slice none 0 0, .slice none 0 0, .slice none 0 0]) ?_ 0 _ rfl; (with_reducible repeat (first | refine blk_drewN ?_ _ | refine blk_drew ?_ | refine blk_alloc ?_ _)); exact BK152.out) Try.underlying132 rfl (by kernel_rfl)) rfl ?_
  exact ⟨_, _, _, by first | rfl | (simp [errW_none, errW_some] <;> rfl) | (simp [*, errW_none, errW_some] <;> rfl), Kd.V_nil _ _ _ _ _, by first | exact Kd.S_nil _ _ _ _ _ | exact Kd.N_nil _ _ _ _ _ | exact Kd.V_nil _ _ _ _ _ | exact Kd.Q_nil _ _ _ _ _ | exact Kd.R_nil _ _ _ _ _, by first | exact Kd.R_nil _ _ _ _ _ | exact Kd.N_nil _ _ _ _ _ | exact Kd.V_nil _ _ _ _ _ | exact Kd.Q_nil _ _ _ _ _ | exact Kd.S_nil _ _ _ _ _, by repeat (first | (with_reducible first | exact HB.out | apply zpA | apply zpN | apply zpD | refine below_set ?_ GE152.out) | exact HB.out)⟩
end Go.Proofs.Ytckiebdehlcjoaa.P
