/- A part of the proof of the law FnDoorsOfRooms. -/
import Derived.Test.YtckiebdehlcjoaaTFnDoorsOfRooms12
import Derived.Lib.SliceRun
namespace Go.Proofs.Ytckiebdehlcjoaa.P
open Go.Proofs.Ytckiebdehlcjoaa.Own
open Go.RowKit Go.Proofs.YtckiebdehlcjoaaW.PrintWords Go.Proofs.YtckiebdehlcjoaaW.PrintLast Go.Proofs.YtckiebdehlcjoaaW.PrintMore
attribute [local go_sem] max2_int min2_int max_two min_two max_three min_three max_four min_four   -- for this text's walks alone
set_option linter.unusedVariables false
set_option linter.unusedSimpArgs false
def impl_IsDoor.j0 : Nat → Int → Int → Int → Bool → Int → List Int → List (List Int) → List Int → Option (Bool × Bool)
  | 0, _, _, _, _, _, _, _, _ => none
  | k + 1, x0, x2, x3, x28, x303000, x303001, x303002, x303003 => if x28 = true then (some (false, false)) else ((impl_points.f k x0).bind fun t307 => (if 0 ≤ x2 then (if x2 < (t307.length : Int) then (if 0 ≤ x3 then (if x3 < (t307.length : Int) then ((impl_near.f k ((rd_T109 t307 x2).f0) ((rd_T109 t307 x2).f1) ((rd_T109 t307 x2).f2) ((rd_T109 t307 x3).f0) ((rd_T109 t307 x3).f1) ((rd_T109 t307 x3).f2)).bind fun t312 => (if t312 = true then ((impl_house_isDoor.f x303000 x303001 x303002 x303003 x2 x3).bind fun t313 => (some (t313, true))) else (some (false, false)))) else (none)) else (none)) else (none)) else (none)))
def impl_IsDoor.f (k : Nat) (a0 : Int) (l1 : List Int) (a2 : Int) (a3 : Int) : Option (Bool × Bool) := (impl_houseOf.f k a0 l1).bind fun bt291 => (if bt291.2.2.2.2 = true then ((impl_isPoint.f a0 (([a2, a3] : List Int))).bind fun t306 => (impl_IsDoor.j0 k a0 a2 a3 (!t306) bt291.1 bt291.2.1 bt291.2.2.1 bt291.2.2.2.1)) else (impl_IsDoor.j0 k a0 a2 a3 true bt291.1 bt291.2.1 bt291.2.2.1 bt291.2.2.2.1))
def impl_IsDoor.T5 : Bool × List (List Nat × List Nat) := (true, [([], []), ([], []), ([0, 1], [0, 1]), ([2], [2]), ([], []), ([], []), ([4, 5], [4, 5]), ([6], [6]), ([3, 7], [3, 7]), ([8], [8])])
def impl_IsDoor.B5 : List Nat := [0, 0, 3, 7, 0, 0, 48, 112, 255, 511]
theorem impl_IsDoor.tab5 : rtab .any (opsOf Try.f82 5) = impl_IsDoor.T5 := by kernel_rfl
theorem impl_IsDoor.bits5 : waitsOk impl_IsDoor.T5.2 impl_IsDoor.B5 = true := by kernel_rfl
set_option maxHeartbeats 8000000 in
set_option maxRecDepth 100000 in
theorem impl_IsDoor.calls (k : Nat) (a0 : Int) (A1 : Option Addr) (c1 : Nat) (l1 : List Int) (a2 : Int) (a3 : Int) (r1 : Bool) (r2 : Bool) (w : World) (hr1 : Kd.C (Kd.int .i64) w A1 l1.length l1) (hc1 : l1.length ≤ c1) (h : impl_IsDoor.f k a0 l1 a2 a3 = some (r1, r2)) :
  Calls Try.prog 82 #[.int .i64 a0, .slice A1 l1.length c1, .int .i64 a2, .int .i64 a3] w fun e w' => e = .returned (.tuple #[.bool r1, .bool r2]) ∧ Below w.heap.size w w' := by
 have hu132 := Try.underlying132
 have hu109 := Try.underlying109
 have HR1 := zA0 hr1
 have HC1 := zA0 hc1
 clear hr1 hc1
 have HB := zA0 (Below.refl w.heap.size w)
 have H : ((impl_houseOf.f k a0 l1).bind fun bt291 => (if bt291.2.2.2.2 = true then ((impl_isPoint.f a0 (([a2, a3] : List Int))).bind fun t306 => (impl_IsDoor.j0 k a0 a2 a3 (!t306) bt291.1 bt291.2.1 bt291.2.2.1 bt291.2.2.2.1)) else (impl_IsDoor.j0 k a0 a2 a3 true bt291.1 bt291.2.1 bt291.2.2.1 bt291.2.2.2.1))) = some (r1, r2) := h
 clear h
 replace H := Option.bind_eq_some_iff.mp H
 obtain ⟨⟨t291, t292, t295, t298, t301⟩, A50, H⟩ := H
 (try dsimp only at H)
 have A5 := zA0 A50
 clear A50
 have HC6 := zA0 H
 clear H
 go_enter Try.func82, Try.ntmps82
 go_upto_region 2 with (first | ((with_reducible refine gate_callee (f := 206) rfl ?_); refine goesL_ (some 16) rfl rfl Try.func206 (by kernel_rfl) rfl #[.int .i64 a0, .slice A1 l1.length c1] rfl (by (try simp only [List.map_toArray, List.map_cons, List.map_nil]); first | done | rfl) ?_; (with_reducible refine (impl_houseOf.calls k a0 (fun k_ => k_ < w.heap.size) _ _ l1 t291 t292 t295 t298 t301 _ ?side1 A5.out).mono ?_); (case side1 => exact Kd.V_mk HC1.out (Kd.F_below (Kd.C_F (Kd.heap_int .i64) HR1.out) (zB HB))); rintro e w7 ⟨v293, v296, v299, rfl, ho0, ho1, ho2, hb⟩; refine ⟨_, rfl, ?_⟩; have n0_ := zA0 (Kd.V_lower (Kd.V_mono (ok' := fun k_ => some k_ ≠ (v296 : Value).ownBlock ∧ some k_ ≠ (v299 : Value).ownBlock) ho0 (fun k_ hk_ => ⟨hk_.2.1, hk_.2.2⟩)) (below_size (zB HB))); have n1_ := zA0 (Kd.S_lower (Kd.S_mono (ok' := fun k_ => some k_ ≠ (v299 : Value).ownBlock) ho1 (fun _ hk_ => hk_.2)) (below_size (zB HB))); have n2_ := zA0 (Kd.R_lower (Kd.R_mono (ok' := fun k_ => True) ho2 (fun _ hk_ => trivial)) (below_size (zB HB))); have n3_ := zA0 (below_step (zB HB) hb); have HO294 := n0_; have HO297 := n1_; have HO300 := n2_; replace HB := n3_; clear n0_ n1_ n2_ n3_; (try clear hb); (try clear hb2); (try clear hk); (try clear hi); (try clear ho0); (try clear ho1); (try clear ho2)) | ((with_reducible refine gate_dst (N := 10) rfl ?_); (try (refine gate_guard (by rfl) ?_; dsimp only)); refine box_event ?hg (N := 10) ?hd (cs := #[.int .i64 0, .slice none 0 0, .slice none 0 0, .slice none 0 0]) (t := 132) ?hr ?_; (case hd => rfl); (case hg => rfl); (case hr => first | (go_simp; done) | (go_simp; rfl)); intro gb302 hg w8 hbox hb; have n0_ := zA0 (Kd.V_below (Kd.V_elderB (zV HO294) gb302 (Nat.le_of_eq hg.symm)) hb); have n1_ := zA0 (Kd.S_below (zS HO297) hb); have n2_ := zA0 (Kd.R_below (zR HO300) hb); have n3_ := zA0 (below_step (zB HB) hb); have n4_ := zA0 (hbox); have n5_ := zA0 ((by rw [hg]; exact (below_size (zB HB)) : w.heap.size ≤ gb302)); have n6_ := zA0 ((by rw [hg]; exact (below_size (zB HB)) : w.heap.size ≤ gb302)); replace HO294 := n0_; replace HO297 := n1_; replace HO300 := n2_; replace HB := n3_; have BK302 := n4_; have GW302 := n5_; have GE302 := n6_; clear n0_ n1_ n2_ n3_ n4_ n5_ n6_; clear hb hbox hg; have hcz9_0 : w8.cell? ⟨gb302, 0, none⟩ = some (.int .i64 0) := (blk_cell BK302.out 0).trans rfl; have hcz9_1 : w8.cell? ⟨gb302, 1, none⟩ = some (.slice none 0 0) := (blk_cell BK302.out 1).trans rfl; have hcz9_2 : w8.cell? ⟨gb302, 2, none⟩ = some (.slice none 0 0) := (blk_cell BK302.out 2).trans rfl; have hcz9_3 : w8.cell? ⟨gb302, 3, none⟩ = some (.slice none 0 0) := (blk_cell BK302.out 3).trans rfl; have hfz9_0 := blk_frozen BK302.out 0; have hfz9_1 := blk_frozen BK302.out 1; have hfz9_2 := blk_frozen BK302.out 2; have hfz9_3 := blk_frozen BK302.out 3; obtain ⟨Ao10, co10, eo10⟩ := Kd.V_slice HO294.out; subst eo10; obtain ⟨Ao11, co11, eo11⟩ := Kd.S_slice HO297.out; subst eo11; obtain ⟨Ao12, co12, eo12⟩ := Kd.R_slice HO300.out; subst eo12))
 (try simp only [Act.put, List.setIfInBounds_toArray, List.set_cons_zero, List.set_cons_succ])
 go_cut [28] (fun v28 wc => ∃ (kq : Nat) (x28_5 : Bool), v28 = .bool x28_5 ∧ Aside0 (impl_IsDoor.j0 kq a0 a2 a3 x28_5 t291 t292 t295 t298 = some (r1, r2)) ∧ Aside0 (kq ≤ k) ∧ Aside0 (Kd.V (Kd.int .i64) 3 wc w.heap.size (fun k_ => some k_ ≠ ((.slice Ao11 t295.length co11) : Value).ownBlock ∧ some k_ ≠ ((.slice Ao12 t298.length co12) : Value).ownBlock ∧ k_ ≠ gb302) (.slice Ao10 t292.length co10) t292) ∧ Aside0 (Kd.S (Kd.slice 3 (Kd.int .i64)) 22 wc w.heap.size (fun k_ => some k_ ≠ ((.slice Ao12 t298.length co12) : Value).ownBlock) (.slice Ao11 t295.length co11) t295) ∧ Aside0 (Kd.R (Kd.int .i64) 3 wc w.heap.size (fun _ => True) (.slice Ao12 t298.length co12) t298) ∧ Aside0 (wc.heap[gb302]? = some (.cells #[.int .i64 t291, (.slice Ao10 t292.length co10), (.slice Ao11 t295.length co11), (.slice Ao12 t298.length co12)] 132 (0, 0))) ∧ Aside0 (Below w.heap.size w wc))
 case first =>
  have H := HC6.out
  clear HC6
  by_cases c13 : t301 = true
  ·
   subst c13
   rw [if_pos rfl] at H
   obtain ⟨y303, hy303⟩ : ∃ y_ : List Int, y_ = (([a2, a3] : List Int)) := ⟨_, rfl⟩
   replace H : ((impl_isPoint.f a0 y303).bind fun t306 => (impl_IsDoor.j0 k a0 a2 a3 (!t306) t291 t292 t295 t298)) = some (r1, r2) := by first | (rw [hy303]; with_reducible exact H) | (have H2_ := (Option.bind_some _ _).symm.trans H; rw [hy303]; with_reducible exact H2_) | (have H2_ := (Option.bind_some _ _).symm.trans H; with_reducible exact H2_) | with_reducible exact H | (rw [hy303]; exact H) | exact H
   have Ny303 := zA0 hy303
   clear hy303
   replace H := Option.bind_eq_some_iff.mp H
   obtain ⟨t306, A140, H⟩ := H
   (try dsimp only at H)
   have A14 := zA0 A140
   clear A140
   have H' := zA0 H
   clear H
   go_wp2_with (first | ((with_reducible refine gate_dst (N := 25) rfl ?_); (try (refine gate_guard (by rfl) ?_; dsimp only)); refine Kd.R_lit (Kd.int .i64) _ 3 ?hg (N := 25) ?hd (xs := ([a2, a3] : List Int)) (inner := [.int .i64 a2, .int .i64 a3]) (ok := fun _ => True) (okp := fun _ => True) ?hr ?hp (fun _ hk => hk) trivial (Below.refl _ _) (Nat.le_refl _) (by simp) ?_; (case hd => rfl); (case hg => rfl); (case hr => first | (go_simp; done) | (go_simp; rfl)); (case hp => exact (Reps.one (show Kd.M (Kd.int .i64) _ _ _ a2 [.int .i64 a2] from rfl) (Reps.one (show Kd.M (Kd.int .i64) _ _ _ a3 [.int .i64 a3] from rfl) (Reps.none _ _)))); intro v304 w15 ho16 hb hg_ hnew_; clear hg_ hnew_; (first | rw [← Ny303.out] at ho16 | (simp only [Int.reduceToNat] at ho16; rw [← Ny303.out] at ho16)); have n0_ := zA0 (Kd.V_elder' (by (with_reducible repeat (first | apply Kd.V_alloc | apply Kd.V_drewN | apply Kd.V_drew)); exact (Kd.V_mono (Kd.V_far (p := ⟨gb302, 3, none⟩) (Kd.V_far (p := ⟨gb302, 2, none⟩) (Kd.V_far (p := ⟨gb302, 1, none⟩) (Kd.V_far (p := ⟨gb302, 0, none⟩) (Kd.V_mono HO294.out (fun k_ hk => (⟨hk, hk.2⟩ : _ ∧ k_ ≠ gb302))) (fun _ hk => hk.2) (.int .i64 t291)) (fun _ hk => hk.2) (.slice Ao10 t292.length co10)) (fun _ hk => hk.2) (.slice Ao11 t295.length co11)) (fun _ hk => hk.2) (.slice Ao12 t298.length co12)) (fun _ h_ => h_.1))) (Kd.R_base ho16) hb); have n1_ := zA0 (Kd.S_elder' (by (with_reducible repeat (first | apply zsA | apply zsN | apply zsD)); exact (Kd.S_mono (Kd.S_far (p := ⟨gb302, 3, none⟩) (Kd.S_far (p := ⟨gb302, 2, none⟩) (Kd.S_far (p := ⟨gb302, 1, none⟩) (Kd.S_far (p := ⟨gb302, 0, none⟩) (Kd.S_types HO297.out BK302.out (by decide)) (fun _ hk => hk.2) (.int .i64 t291)) (fun _ hk => hk.2) (.slice Ao10 t292.length co10)) (fun _ hk => hk.2) (.slice Ao11 t295.length co11)) (fun _ hk => hk.2) (.slice Ao12 t298.length co12)) (fun _ h_ => h_.1))) (Kd.R_base ho16) hb); have n2_ := zA0 (Kd.R_elder' (by (with_reducible repeat (first | apply zrA | apply zrN | apply zrD)); exact (Kd.R_mono (Kd.R_far (p := ⟨gb302, 3, none⟩) (Kd.R_far (p := ⟨gb302, 2, none⟩) (Kd.R_far (p := ⟨gb302, 1, none⟩) (Kd.R_far (p := ⟨gb302, 0, none⟩) (Kd.R_types HO300.out BK302.out (by decide)) (fun _ hk => hk.2) (.int .i64 t291)) (fun _ hk => hk.2) (.slice Ao10 t292.length co10)) (fun _ hk => hk.2) (.slice Ao11 t295.length co11)) (fun _ hk => hk.2) (.slice Ao12 t298.length co12)) (fun _ h_ => h_.1))) (Kd.R_base ho16) hb); have n3_ := zA0 (Kd.R_lower (Kd.R_new' ho16 (Kd.R_lt (by (with_reducible repeat (first | apply zrA | apply zrN | apply zrD)); exact (Kd.R_mono (Kd.R_far (p := ⟨gb302, 3, none⟩) (Kd.R_far (p := ⟨gb302, 2, none⟩) (Kd.R_far (p := ⟨gb302, 1, none⟩) (Kd.R_far (p := ⟨gb302, 0, none⟩) (Kd.R_types HO300.out BK302.out (by decide)) (fun _ hk => hk.2) (.int .i64 t291)) (fun _ hk => hk.2) (.slice Ao10 t292.length co10)) (fun _ hk => hk.2) (.slice Ao11 t295.length co11)) (fun _ hk => hk.2) (.slice Ao12 t298.length co12)) (fun _ h_ => h_.1))))) (below_size (by repeat (first | (with_reducible first | exact HB.out | apply zpA | apply zpN | apply zpD | refine below_set ?_ GE302.out) | exact HB.out)))); have n4_ := zA0 (blk_below (g := gb302) (o := .cells #[.int .i64 t291, .slice Ao10 t292.length co10, .slice Ao11 t295.length co11, .slice Ao12 t298.length co12] 132 (0, 0)) (by (with_reducible repeat (first | refine blk_drewN ?_ _ | refine blk_drew ?_ | refine blk_alloc ?_ _)); refine blk_put (cs := #[.int .i64 t291, .slice Ao10 t292.length co10, .slice Ao11 t295.length co11, .slice none 0 0]) ?_ 3 _ rfl; (with_reducible repeat (first | refine blk_drewN ?_ _ | refine blk_drew ?_ | refine blk_alloc ?_ _)); refine blk_put (cs := #[.int .i64 t291, .slice Ao10 t292.length co10, .slice none 0 0, .slice none 0 0]) ?_ 2 _ rfl; (with_reducible repeat (first | refine blk_drewN ?_ _ | refine blk_drew ?_ | refine blk_alloc ?_ _)); refine blk_put (cs := #[.int .i64 t291, .slice none 0 0, .slice none 0 0, .slice none 0 0]) ?_ 1 _ rfl; (with_reducible repeat (first | refine blk_drewN ?_ _ | refine blk_drew ?_ | refine blk_alloc ?_ _)); refine blk_put (cs := #[.int .i64 0, .slice none 0 0, .slice none 0 0, .slice none 0 0]) ?_ 0 _ rfl; (with_reducible repeat (first | refine blk_drewN ?_ _ | refine blk_drew ?_ | refine blk_alloc ?_ _)); exact BK302.out) hb); have n5_ := zA0 (below_step (by repeat (first | (with_reducible first | exact HB.out | apply zpA | apply zpN | apply zpD | refine below_set ?_ GE302.out) | exact HB.out)) hb); replace HO294 := n0_; replace HO297 := n1_; replace HO300 := n2_; have HO305 := n3_; replace BK302 := n4_; replace HB := n5_; clear n0_ n1_ n2_ n3_ n4_ n5_; clear hb ho16; obtain ⟨Ao17, co17, eo17⟩ := Kd.R_slice HO305.out; subst eo17) | (go_at_call 166; (with_reducible refine (impl_isPoint.calls a0 _ _ y303 t306 _ ?side1 ?side2 A14.out).mono ?_); (case side1 => exact zC (Kd.R_reads' HO305.out).2.2); (case side2 => exact (Kd.R_reads' HO305.out).2.1); rintro e w18 ⟨rfl, hb⟩; have n0_ := zA0 (Kd.V_below (zV HO294) hb); have n1_ := zA0 (Kd.S_below (zS HO297) hb); have n2_ := zA0 (Kd.R_below (zR HO300) hb); have n3_ := zA0 (Kd.R_below (zR HO305) hb); have n4_ := zA0 (blk_below (g := gb302) (o := .cells #[.int .i64 t291, .slice Ao10 t292.length co10, .slice Ao11 t295.length co11, .slice Ao12 t298.length co12] 132 (0, 0)) (zQ BK302) hb); have n5_ := zA0 (below_step (by repeat (first | (with_reducible first | exact HB.out | apply zpA | apply zpN | apply zpD | refine below_set ?_ GE302.out) | exact HB.out)) hb); replace HO294 := n0_; replace HO297 := n1_; replace HO300 := n2_; replace HO305 := n3_; replace BK302 := n4_; replace HB := n5_; clear n0_ n1_ n2_ n3_ n4_ n5_; (try clear hb); (try clear hb2); (try clear hk); (try clear hi)))
   go_meet
   case rel => exact ⟨_, (!t306), (by first | rfl | (simp; done) | (simp [*]; done) | (simp; decide) | (simp; unfold wrap64; omega)), H', ⟨by first | omega | exact Nat.le_refl _⟩, ⟨by (with_reducible repeat (first | apply Kd.V_alloc | apply Kd.V_drewN | apply Kd.V_drew)); exact Kd.V_mono HO294.out (fun _ hk => ⟨hk.1.1.1, ⟨hk.1.1.2, hk.1.2⟩⟩)⟩, ⟨by (with_reducible repeat (first | apply zsA | apply zsN | apply zsD)); exact Kd.S_mono HO297.out (fun _ hk => hk.1)⟩, ⟨by (with_reducible repeat (first | apply zrA | apply zrN | apply zrD)); exact Kd.R_mono HO300.out (fun _ hk => trivial)⟩, ⟨by (with_reducible repeat (first | refine blk_drewN ?_ _ | refine blk_drew ?_ | refine blk_alloc ?_ _)); exact BK302.out⟩, ⟨by repeat (first | (with_reducible first | exact HB.out | apply zpA | apply zpN | apply zpD | refine below_set ?_ GE302.out) | exact HB.out)⟩⟩
  ·
   replace c13 := Bool.eq_false_iff.mpr c13
   subst c13
   rw [if_neg (show ¬ (false = true) by decide)] at H
   have H' := zA0 H
   clear H
   go_wp2
   go_meet
   case rel => exact ⟨_, (true), (by first | rfl | (simp; done) | (simp [*]; done) | (simp; decide) | (simp; unfold wrap64; omega)), H', ⟨by first | omega | exact Nat.le_refl _⟩, ⟨by (with_reducible repeat (first | apply Kd.V_alloc | apply Kd.V_drewN | apply Kd.V_drew)); exact Kd.V_mono (Kd.V_far (p := ⟨gb302, 3, none⟩) (Kd.V_far (p := ⟨gb302, 2, none⟩) (Kd.V_far (p := ⟨gb302, 1, none⟩) (Kd.V_far (p := ⟨gb302, 0, none⟩) (Kd.V_mono HO294.out (fun k_ hk => (⟨hk, hk.2⟩ : _ ∧ k_ ≠ gb302))) (fun _ hk => hk.2) (.int .i64 t291)) (fun _ hk => hk.2) (.slice Ao10 t292.length co10)) (fun _ hk => hk.2) (.slice Ao11 t295.length co11)) (fun _ hk => hk.2) (.slice Ao12 t298.length co12)) (fun _ hk => ⟨hk.1.1.1, ⟨hk.1.1.2, hk.1.2⟩⟩)⟩, ⟨by (with_reducible repeat (first | apply zsA | apply zsN | apply zsD)); exact Kd.S_mono (Kd.S_far (p := ⟨gb302, 3, none⟩) (Kd.S_far (p := ⟨gb302, 2, none⟩) (Kd.S_far (p := ⟨gb302, 1, none⟩) (Kd.S_far (p := ⟨gb302, 0, none⟩) (Kd.S_types HO297.out BK302.out (by decide)) (fun _ hk => hk.2) (.int .i64 t291)) (fun _ hk => hk.2) (.slice Ao10 t292.length co10)) (fun _ hk => hk.2) (.slice Ao11 t295.length co11)) (fun _ hk => hk.2) (.slice Ao12 t298.length co12)) (fun _ hk => hk.1)⟩, ⟨by (with_reducible repeat (first | apply zrA | apply zrN | apply zrD)); exact Kd.R_mono (Kd.R_far (p := ⟨gb302, 3, none⟩) (Kd.R_far (p := ⟨gb302, 2, none⟩) (Kd.R_far (p := ⟨gb302, 1, none⟩) (Kd.R_far (p := ⟨gb302, 0, none⟩) (Kd.R_types HO300.out BK302.out (by decide)) (fun _ hk => hk.2) (.int .i64 t291)) (fun _ hk => hk.2) (.slice Ao10 t292.length co10)) (fun _ hk => hk.2) (.slice Ao11 t295.length co11)) (fun _ hk => hk.2) (.slice Ao12 t298.length co12)) (fun _ hk => trivial)⟩, ⟨by (with_reducible repeat (first | refine blk_drewN ?_ _ | refine blk_drew ?_ | refine blk_alloc ?_ _)); refine blk_put (cs := #[.int .i64 t291, .slice Ao10 t292.length co10, .slice Ao11 t295.length co11, .slice none 0 0]) ?_ 3 _ rfl; (with_reducible repeat (first | refine blk_drewN ?_ _ | refine blk_drew ?_ | refine blk_alloc ?_ _)); refine blk_put (cs := #[.int .i64 t291, .slice Ao10 t292.length co10, .slice none 0 0, .slice none 0 0]) ?_ 2 _ rfl; (with_reducible repeat (first | refine blk_drewN ?_ _ | refine blk_drew ?_ | refine blk_alloc ?_ _)); refine blk_put (cs := #[.int .i64 t291, .slice none 0 0, .slice none 0 0, .slice none 0 0]) ?_ 1 _ rfl; (with_reducible repeat (first | refine blk_drewN ?_ _ | refine blk_drew ?_ | refine blk_alloc ?_ _)); refine blk_put (cs := #[.int .i64 0, .slice none 0 0, .slice none 0 0, .slice none 0 0]) ?_ 0 _ rfl; (with_reducible repeat (first | refine blk_drewN ?_ _ | refine blk_drew ?_ | refine blk_alloc ?_ _)); exact BK302.out⟩, ⟨by repeat (first | (with_reducible first | exact HB.out | apply zpA | apply zpN | apply zpD | refine below_set ?_ GE302.out) | exact HB.out)⟩⟩
 case rest =>
  clear HC6
  try clear c1
  try clear c2
  try clear p2
  try clear p6
  try clear c8
  try clear c13
  try clear hcz9_0
  try clear hcz9_1
  try clear hcz9_2
  try clear hcz9_3
  try clear hfz9_0
  try clear hfz9_1
  try clear hfz9_2
  try clear hfz9_3
  obtain ⟨kq, x28_5, rfl, HA, HJ5, HO_303001, HO_303002, HO_303003, BK302, HB⟩ := hcut
  cases kq with
  | zero => exact absurd HA.out (by simp [impl_IsDoor.j0])
  | succ kj5 =>
   have H := HA.out
   clear HA
   simp only [impl_IsDoor.j0] at H
   by_cases c19 : x28_5 = true
   ·
    subst c19
    rw [if_pos rfl] at H
    simp only [Option.some.injEq, Prod.mk.injEq] at H
    obtain ⟨rfl, rfl⟩ := H
    go_wp2
    go_ret2
    exact ⟨by first | rfl | (simp [errW_none, errW_some] <;> rfl) | (simp [*, errW_none, errW_some] <;> rfl), by repeat (first | (with_reducible first | exact HB.out | apply zpA | apply zpN | apply zpD | refine below_set ?_ GE302.out) | exact HB.out)⟩
   ·
    replace c19 := Bool.eq_false_iff.mpr c19
    subst c19
    rw [if_neg (show ¬ (false = true) by decide)] at H
    replace H := Option.bind_eq_some_iff.mp H
    obtain ⟨t307, A200, H⟩ := H
    (try dsimp only at H)
    have A20 := zA0 A200
    clear A200
    by_cases c21 : 0 ≤ a2
    ·
     rw [if_pos c21] at H
     have c21b0 : decide (0 ≤ a2) = true := decide_eq_true c21
     clear c21
     by_cases c22 : a2 < (t307.length : Int)
     ·
      rw [if_pos c22] at H
      have c22b0 : decide (a2 < (t307.length : Int)) = true := decide_eq_true c22
      clear c22
      by_cases c23 : 0 ≤ a3
      ·
       rw [if_pos c23] at H
       have c23b0 : decide (0 ≤ a3) = true := decide_eq_true c23
       clear c23
       by_cases c24 : a3 < (t307.length : Int)
       ·
        rw [if_pos c24] at H
        have c24b0 : decide (a3 < (t307.length : Int)) = true := decide_eq_true c24
        clear c24
        replace H := Option.bind_eq_some_iff.mp H
        obtain ⟨t312, A250, H⟩ := H
        (try dsimp only at H)
        have A25 := zA0 A250
        clear A250
        by_cases c26 : t312 = true
        ·
         subst c26
         rw [if_pos rfl] at H
         replace H := Option.bind_eq_some_iff.mp H
         obtain ⟨t313, A270, H⟩ := H
         (try dsimp only at H)
         have A27 := zA0 A270
         clear A270
         simp only [Option.some.injEq, Prod.mk.injEq] at H
         obtain ⟨rfl, rfl⟩ := H
         try go_wp2_with (first | ((with_reducible refine gate_callee (f := 169) rfl ?_); refine goesL_ (some 30) rfl rfl Try.func169 (by kernel_rfl) rfl #[.int .i64 a0] rfl (by (try simp only [List.map_toArray, List.map_cons, List.map_nil]); first | done | rfl) ?_; (with_reducible refine (impl_points.calls kj5 a0 t307 _ A20.out).mono ?_); rintro e w28 ⟨v308, rfl, ho0, hb⟩; refine ⟨_, rfl, ?_⟩; have n0_ := zA0 (Kd.V_elder' (zV HO_303001) (Kd.R_base ho0) hb); have n1_ := zA0 (Kd.S_below (zS HO_303002) hb); have n2_ := zA0 (Kd.R_below (zR HO_303003) hb); have n3_ := zA0 (Kd.R_lower ho0 (below_size (by repeat (first | (with_reducible first | exact HB.out | apply zpA | apply zpN | apply zpD | refine below_set ?_ GE302.out) | exact HB.out)))); have n4_ := zA0 (blk_below (g := gb302) (o := .cells #[.int .i64 t291, .slice Ao10 t292.length co10, .slice Ao11 t295.length co11, .slice Ao12 t298.length co12] 132 (0, 0)) (zQ BK302) hb); have n5_ := zA0 (below_step (by repeat (first | (with_reducible first | exact HB.out | apply zpA | apply zpN | apply zpD | refine below_set ?_ GE302.out) | exact HB.out)) hb); replace HO_303001 := n0_; replace HO_303002 := n1_; replace HO_303003 := n2_; have HO309 := n3_; replace BK302 := n4_; replace HB := n5_; clear n0_ n1_ n2_ n3_ n4_ n5_; (try clear hb); (try clear hb2); (try clear hk); (try clear hi); (try clear ho0)))
         have n0_ := zA0 (Kd.V_drew HO_303001.out)
         have n1_ := zA0 (zsD HO_303002.out)
         have n2_ := zA0 (zrD HO_303003.out)
         have n3_ := zA0 (zrD HO309.out)
         have n4_ := zA0 (blk_drew BK302.out)
         have n5_ := zA0 (zpD HB.out)
         replace HO_303001 := n0_; replace HO_303002 := n1_; replace HO_303003 := n2_; replace HO309 := n3_; replace BK302 := n4_; replace HB := n5_; clear n0_ n1_ n2_ n3_ n4_ n5_
         obtain ⟨Ao30, co30, eo30⟩ := Kd.R_slice HO309.out
         (first | subst eo30 | (injection eo30 with f1_ f2_ f3_; have f4_ := f1_.symm; have f5_ := f3_.symm; clear f1_ f2_ f3_; subst f4_; subst f5_))
         have p310 : 0 ≤ (a2 : Int) := of_decide_eq_true (by first | (with_reducible assumption) | assumption)
         have q310 : a2 < (t307.length : Int) := of_decide_eq_true (by first | (with_reducible assumption) | assumption)
         obtain ⟨ad310, e310, hx310_0, hx310_1, hx310_2⟩ := at_T109 (Kd.R_reads' HO309.out).2.2 a2 p310 q310
         cases e310
         replace p310 := eq_true p310
         replace q310 := eq_true q310
         have p311 : 0 ≤ (a3 : Int) := of_decide_eq_true (by first | (with_reducible assumption) | assumption)
         have q311 : a3 < (t307.length : Int) := of_decide_eq_true (by first | (with_reducible assumption) | assumption)
         obtain ⟨ad311, e311, hx311_0, hx311_1, hx311_2⟩ := at_T109 (Kd.R_reads' HO309.out).2.2 a3 p311 q311
         obtain rfl : ad310 = ad311 := (by injection e311)
         replace p311 := eq_true p311
         replace q311 := eq_true q311
         refine start_ (n := 10) (S := fun w' => w'.cell? (ad310.add ((a2).toNat * 3)) = some (.int .i64 ((rd_T109 t307 a2).f0)) ∧ w'.cell? ⟨(ad310.add ((a2).toNat * 3)).block, (ad310.add ((a2).toNat * 3)).off + 1, none⟩ = some (.int .i64 ((rd_T109 t307 a2).f1)) ∧ w'.cell? ⟨(ad310.add ((a2).toNat * 3)).block, (ad310.add ((a2).toNat * 3)).off + 2, none⟩ = some (.int .i64 ((rd_T109 t307 a2).f2)) ∧ w'.cell? (ad310.add ((a3).toNat * 3)) = some (.int .i64 ((rd_T109 t307 a3).f0)) ∧ w'.cell? ⟨(ad310.add ((a3).toNat * 3)).block, (ad310.add ((a3).toNat * 3)).off + 1, none⟩ = some (.int .i64 ((rd_T109 t307 a3).f1)) ∧ w'.cell? ⟨(ad310.add ((a3).toNat * 3)).block, (ad310.add ((a3).toNat * 3)).off + 2, none⟩ = some (.int .i64 ((rd_T109 t307 a3).f2))) (ds := []) #[false, false, false, false, false, false, false, false, false, false] (by kernel_rfl) rfl rfl ⟨hx310_0, hx310_1, hx310_2, hx311_0, hx311_1, hx311_2⟩ (fun hHeld => ?_); refine with_tabW impl_IsDoor.tab5 impl_IsDoor.bits5 (fun HT_ HW_ => ?_)
         generalize w28.drew = w29 at HO_303001 HO_303002 HO_303003 HO309 BK302 HB hx310_0 hx310_1 hx310_2 hx311_0 hx311_1 hx311_2 hHeld ⊢
         refine pure_ (i := 0) (N := some 31) (v := ?_) (a' := ?_) #[true, false, false, false, false, false, false, false, false, false] rfl rfl (any_of HT_.out (by kernel_rfl)) (fun _ _ _ h => h) (Or.inl ⟨by rfl, ?_⟩) ?_ ?_
         rotate_left
         ·
          intro w'
          go_simp
          with_reducible rfl
         rotate_left
         ·
          simp only [Act.put, List.setIfInBounds_toArray, List.set_cons_zero, List.set_cons_succ, i64_w, i32_w]
          rfl
         refine pure_ (i := 1) (N := some 32) (v := ?_) (a' := ?_) #[true, true, false, false, false, false, false, false, false, false] rfl rfl (any_of HT_.out (by kernel_rfl)) (fun _ _ _ h => h) (Or.inl ⟨by rfl, ?_⟩) ?_ ?_
         rotate_left
         ·
          intro w'
          go_simp
          with_reducible rfl
         rotate_left
         ·
          simp only [Act.put, List.setIfInBounds_toArray, List.set_cons_zero, List.set_cons_succ, i64_w, i32_w]
          rfl
         refine pure_ (i := 2) (N := some 33) (v := ?_) (a' := ?_) #[true, true, true, false, false, false, false, false, false, false] rfl rfl (any_of HT_.out (by kernel_rfl)) (fun _ _ _ h => h) (Or.inl ⟨by rfl, ?_⟩) ?_ ?_
         rotate_left
         ·
          intro w'
          go_simp
          with_reducible rfl
         rotate_left
         ·
          simp only [Act.put, List.setIfInBounds_toArray, List.set_cons_zero, List.set_cons_succ, i64_w, i32_w]
          rfl
         refine pure_ (i := 4) (N := some 35) (v := ?_) (a' := ?_) #[true, true, true, false, true, false, false, false, false, false] rfl rfl (any_of HT_.out (by kernel_rfl)) (fun _ _ _ h => h) (Or.inl ⟨by rfl, ?_⟩) ?_ ?_
         rotate_left
         ·
          intro w'
          go_simp
          with_reducible rfl
         rotate_left
         ·
          simp only [Act.put, List.setIfInBounds_toArray, List.set_cons_zero, List.set_cons_succ, i64_w, i32_w]
          rfl
         refine pure_ (i := 5) (N := some 36) (v := ?_) (a' := ?_) #[true, true, true, false, true, true, false, false, false, false] rfl rfl (any_of HT_.out (by kernel_rfl)) (fun _ _ _ h => h) (Or.inl ⟨by rfl, ?_⟩) ?_ ?_
         rotate_left
         ·
          intro w'
          go_simp
          with_reducible rfl
         rotate_left
         ·
          simp only [Act.put, List.setIfInBounds_toArray, List.set_cons_zero, List.set_cons_succ, i64_w, i32_w]
          rfl
         refine pure_ (i := 6) (N := some 37) (v := ?_) (a' := ?_) #[true, true, true, false, true, true, true, false, false, false] rfl rfl (any_of HT_.out (by kernel_rfl)) (fun _ _ _ h => h) (Or.inl ⟨by rfl, ?_⟩) ?_ ?_
         rotate_left
         ·
          intro w'
          go_simp
          with_reducible rfl
         rotate_left
         ·
          simp only [Act.put, List.setIfInBounds_toArray, List.set_cons_zero, List.set_cons_succ, i64_w, i32_w]
          rfl
         refine take_ (i := 3) (N := some 34) (v := ?_) (a' := ?_) #[true, true, true, true, true, true, true, false, false, false] rfl rfl (take_ofW HT_.out HW_.out (by kernel_rfl)) (fun _ _ _ h => h) (Or.inl ⟨by rfl, ?_⟩) hHeld ?_ ?_
         rotate_left
         ·
          rintro w' ⟨s0, s1, s2, s3, s4, s5⟩
          go_simp
          with_reducible rfl
         rotate_left
         ·
          simp only [Act.put, List.setIfInBounds_toArray, List.set_cons_zero, List.set_cons_succ, i64_w, i32_w]
          rfl
         refine take_ (i := 7) (N := some 38) (v := ?_) (a' := ?_) #[true, true, true, true, true, true, true, true, false, false] rfl rfl (take_ofW HT_.out HW_.out (by kernel_rfl)) (fun _ _ _ h => h) (Or.inl ⟨by rfl, ?_⟩) hHeld ?_ ?_
         rotate_left
         ·
          rintro w' ⟨s0, s1, s2, s3, s4, s5⟩
          go_simp
          with_reducible rfl
         rotate_left
         ·
          simp only [Act.put, List.setIfInBounds_toArray, List.set_cons_zero, List.set_cons_succ, i64_w, i32_w]
          rfl
         refine one_ (i := 8) (N := some 39) #[true, true, true, true, true, true, true, true, true, false] rfl rfl (one_of HT_.out (by kernel_rfl)) (by decide) (fun K hK => ?_)
         refine goes_ Try.func191 (by kernel_rfl) rfl #[.agg #[.int .i64 ((rd_T109 t307 a2).f0), .int .i64 ((rd_T109 t307 a2).f1), .int .i64 ((rd_T109 t307 a2).f2)], .agg #[.int .i64 ((rd_T109 t307 a3).f0), .int .i64 ((rd_T109 t307 a3).f1), .int .i64 ((rd_T109 t307 a3).f2)]] (by rfl) rfl rfl (by (try simp only [List.map_toArray, List.map_cons, List.map_nil]); first | done | rfl) ?_
         with_reducible refine (impl_near.calls kj5 ((rd_T109 t307 a2).f0) ((rd_T109 t307 a2).f1) ((rd_T109 t307 a2).f2) ((rd_T109 t307 a3).f0) ((rd_T109 t307 a3).f1) ((rd_T109 t307 a3).f2) true _ A25.out).mono ?_
         rintro e w31 ⟨rfl, hb⟩
         have HS0_ := (hb.cell (World.block_lt_of_cell? _ _ (hHeld.1))).trans (hHeld.1)
         have HS1_ := (hb.cell (World.block_lt_of_cell? _ _ (hHeld.2.1))).trans (hHeld.2.1)
         have HS2_ := (hb.cell (World.block_lt_of_cell? _ _ (hHeld.2.2.1))).trans (hHeld.2.2.1)
         have HS3_ := (hb.cell (World.block_lt_of_cell? _ _ (hHeld.2.2.2.1))).trans (hHeld.2.2.2.1)
         have HS4_ := (hb.cell (World.block_lt_of_cell? _ _ (hHeld.2.2.2.2.1))).trans (hHeld.2.2.2.2.1)
         have HS5_ := (hb.cell (World.block_lt_of_cell? _ _ (hHeld.2.2.2.2.2))).trans (hHeld.2.2.2.2.2)
         refine ⟨_, rfl, ?_⟩
         have n0_ := zA0 (Kd.V_below (zV HO_303001) hb)
         have n1_ := zA0 (Kd.S_below (zS HO_303002) hb)
         have n2_ := zA0 (Kd.R_below (zR HO_303003) hb)
         have n3_ := zA0 (Kd.R_below (zR HO309) hb)
         have n4_ := zA0 (blk_below (g := gb302) (o := .cells #[.int .i64 t291, .slice Ao10 t292.length co10, .slice Ao11 t295.length co11, .slice Ao12 t298.length co12] 132 (0, 0)) (zQ BK302) hb)
         have n5_ := zA0 (below_step (by repeat (first | (with_reducible first | exact HB.out | apply zpA | apply zpN | apply zpD | refine below_set ?_ GE302.out) | exact HB.out)) hb)
         replace HO_303001 := n0_; replace HO_303002 := n1_; replace HO_303003 := n2_; replace HO309 := n3_; replace BK302 := n4_; replace HB := n5_; clear n0_ n1_ n2_ n3_ n4_ n5_
         (try clear hb)
         (try clear hb2)
         (try clear hk)
         (try clear hi)
         refine hK.out _ _ ⟨HS0_, HS1_, HS2_, HS3_, HS4_, HS5_⟩ (fun hHeld => ?_)
         clear hK K
         refine norm_ (a' := ?_) ?_ ?_
         rotate_left
         ·
          show Act.put _ (some 39) _ = _
          simp only [Act.put, List.setIfInBounds_toArray, List.set_cons_zero, List.set_cons_succ, i64_w, i32_w]
          rfl
         refine pure_ (i := 9) (N := some 40) (v := ?_) (a' := ?_) #[true, true, true, true, true, true, true, true, true, true] rfl rfl (any_of HT_.out (by kernel_rfl)) (fun _ _ _ h => h) (Or.inl ⟨by rfl, ?_⟩) ?_ ?_
         rotate_left
         ·
          intro w'
          go_simp
          with_reducible rfl
         rotate_left
         ·
          simp only [Act.put, List.setIfInBounds_toArray, List.set_cons_zero, List.set_cons_succ, i64_w, i32_w]
          rfl
         refine done_ (done_of HT_.out (by kernel_rfl)) ?_
         have hcz32_0 : w31.cell? ⟨gb302, 0, none⟩ = some (.int .i64 t291) := (blk_cell BK302.out 0).trans rfl
         have hcz32_1 : w31.cell? ⟨gb302, 1, none⟩ = some (.slice Ao10 t292.length co10) := (blk_cell BK302.out 1).trans rfl
         have hcz32_2 : w31.cell? ⟨gb302, 2, none⟩ = some (.slice Ao11 t295.length co11) := (blk_cell BK302.out 2).trans rfl
         have hcz32_3 : w31.cell? ⟨gb302, 3, none⟩ = some (.slice Ao12 t298.length co12) := (blk_cell BK302.out 3).trans rfl
         have hfz32_0 := blk_frozen BK302.out 0
         have hfz32_1 := blk_frozen BK302.out 1
         have hfz32_2 := blk_frozen BK302.out 2
         have hfz32_3 := blk_frozen BK302.out 3
         try go_wp2_with (first | ((with_reducible refine gate_callee (f := 212) rfl ?_); refine goesL_ (some 44) rfl rfl Try.func212 (by kernel_rfl) rfl #[.agg #[.int .i64 t291, .slice Ao10 t292.length co10, .slice Ao11 t295.length co11, .slice Ao12 t298.length co12], .int .i64 a2, .int .i64 a3] rfl (by (try simp only [List.map_toArray, List.map_cons, List.map_nil]); first | done | rfl) ?_; (with_reducible refine (impl_house_isDoor.calls t291 _ _ t292 _ _ t295 _ _ t298 a2 a3 t313 _ ?side1 ?side2 ?side3 ?side4 ?side5 ?side6 A27.out).mono ?_); (case side1 => exact zC (Kd.V_reads' HO_303001.out).2.2); (case side2 => exact (Kd.V_reads' HO_303001.out).2.1); (case side3 => exact zC (Kd.S_reads' HO_303002.out).2.2); (case side4 => exact (Kd.S_reads' HO_303002.out).2.1); (case side5 => exact zC (Kd.R_reads' HO_303003.out).2.2); (case side6 => exact (Kd.R_reads' HO_303003.out).2.1); rintro e w33 ⟨rfl, hb⟩; refine ⟨_, rfl, ?_⟩; have n0_ := zA0 (Kd.V_below (zV HO_303001) hb); have n1_ := zA0 (Kd.S_below (zS HO_303002) hb); have n2_ := zA0 (Kd.R_below (zR HO_303003) hb); have n3_ := zA0 (Kd.R_below (zR HO309) hb); have n4_ := zA0 (blk_below (g := gb302) (o := .cells #[.int .i64 t291, .slice Ao10 t292.length co10, .slice Ao11 t295.length co11, .slice Ao12 t298.length co12] 132 (0, 0)) (zQ BK302) hb); have n5_ := zA0 (below_step (by repeat (first | (with_reducible first | exact HB.out | apply zpA | apply zpN | apply zpD | refine below_set ?_ GE302.out) | exact HB.out)) hb); replace HO_303001 := n0_; replace HO_303002 := n1_; replace HO_303003 := n2_; replace HO309 := n3_; replace BK302 := n4_; replace HB := n5_; clear n0_ n1_ n2_ n3_ n4_ n5_; (try clear hb); (try clear hb2); (try clear hk); (try clear hi)))
         go_ret2
         exact ⟨by first | rfl | (simp [errW_none, errW_some] <;> rfl) | (simp [*, errW_none, errW_some] <;> rfl), by repeat (first | (with_reducible first | exact HB.out | apply zpA | apply zpN | apply zpD | refine below_set ?_ GE302.out) | exact HB.out)⟩
        ·
         replace c26 := Bool.eq_false_iff.mpr c26
         subst c26
         rw [if_neg (show ¬ (false = true) by decide)] at H
         simp only [Option.some.injEq, Prod.mk.injEq] at H
         obtain ⟨rfl, rfl⟩ := H
         try go_wp2_with (first | ((with_reducible refine gate_callee (f := 169) rfl ?_); refine goesL_ (some 30) rfl rfl Try.func169 (by kernel_rfl) rfl #[.int .i64 a0] rfl (by (try simp only [List.map_toArray, List.map_cons, List.map_nil]); first | done | rfl) ?_; (with_reducible refine (impl_points.calls kj5 a0 t307 _ A20.out).mono ?_); rintro e w34 ⟨v308, rfl, ho0, hb⟩; refine ⟨_, rfl, ?_⟩; have n0_ := zA0 (Kd.V_elder' (zV HO_303001) (Kd.R_base ho0) hb); have n1_ := zA0 (Kd.S_below (zS HO_303002) hb); have n2_ := zA0 (Kd.R_below (zR HO_303003) hb); have n3_ := zA0 (Kd.R_lower ho0 (below_size (by repeat (first | (with_reducible first | exact HB.out | apply zpA | apply zpN | apply zpD | refine below_set ?_ GE302.out) | exact HB.out)))); have n4_ := zA0 (blk_below (g := gb302) (o := .cells #[.int .i64 t291, .slice Ao10 t292.length co10, .slice Ao11 t295.length co11, .slice Ao12 t298.length co12] 132 (0, 0)) (zQ BK302) hb); have n5_ := zA0 (below_step (by repeat (first | (with_reducible first | exact HB.out | apply zpA | apply zpN | apply zpD | refine below_set ?_ GE302.out) | exact HB.out)) hb); replace HO_303001 := n0_; replace HO_303002 := n1_; replace HO_303003 := n2_; have HO309 := n3_; replace BK302 := n4_; replace HB := n5_; clear n0_ n1_ n2_ n3_ n4_ n5_; (try clear hb); (try clear hb2); (try clear hk); (try clear hi); (try clear ho0)))
         have n0_ := zA0 (Kd.V_drew HO_303001.out)
         have n1_ := zA0 (zsD HO_303002.out)
         have n2_ := zA0 (zrD HO_303003.out)
         have n3_ := zA0 (zrD HO309.out)
         have n4_ := zA0 (blk_drew BK302.out)
         have n5_ := zA0 (zpD HB.out)
         replace HO_303001 := n0_; replace HO_303002 := n1_; replace HO_303003 := n2_; replace HO309 := n3_; replace BK302 := n4_; replace HB := n5_; clear n0_ n1_ n2_ n3_ n4_ n5_
         obtain ⟨Ao36, co36, eo36⟩ := Kd.R_slice HO309.out
         (first | subst eo36 | (injection eo36 with f1_ f2_ f3_; have f4_ := f1_.symm; have f5_ := f3_.symm; clear f1_ f2_ f3_; subst f4_; subst f5_))
         have p310 : 0 ≤ (a2 : Int) := of_decide_eq_true (by first | (with_reducible assumption) | assumption)
         have q310 : a2 < (t307.length : Int) := of_decide_eq_true (by first | (with_reducible assumption) | assumption)
         obtain ⟨ad310, e310, hx310_0, hx310_1, hx310_2⟩ := at_T109 (Kd.R_reads' HO309.out).2.2 a2 p310 q310
         cases e310
         replace p310 := eq_true p310
         replace q310 := eq_true q310
         have p311 : 0 ≤ (a3 : Int) := of_decide_eq_true (by first | (with_reducible assumption) | assumption)
         have q311 : a3 < (t307.length : Int) := of_decide_eq_true (by first | (with_reducible assumption) | assumption)
         obtain ⟨ad311, e311, hx311_0, hx311_1, hx311_2⟩ := at_T109 (Kd.R_reads' HO309.out).2.2 a3 p311 q311
         obtain rfl : ad310 = ad311 := (by injection e311)
         replace p311 := eq_true p311
         replace q311 := eq_true q311
         refine start_ (n := 10) (S := fun w' => w'.cell? (ad310.add ((a2).toNat * 3)) = some (.int .i64 ((rd_T109 t307 a2).f0)) ∧ w'.cell? ⟨(ad310.add ((a2).toNat * 3)).block, (ad310.add ((a2).toNat * 3)).off + 1, none⟩ = some (.int .i64 ((rd_T109 t307 a2).f1)) ∧ w'.cell? ⟨(ad310.add ((a2).toNat * 3)).block, (ad310.add ((a2).toNat * 3)).off + 2, none⟩ = some (.int .i64 ((rd_T109 t307 a2).f2)) ∧ w'.cell? (ad310.add ((a3).toNat * 3)) = some (.int .i64 ((rd_T109 t307 a3).f0)) ∧ w'.cell? ⟨(ad310.add ((a3).toNat * 3)).block, (ad310.add ((a3).toNat * 3)).off + 1, none⟩ = some (.int .i64 ((rd_T109 t307 a3).f1)) ∧ w'.cell? ⟨(ad310.add ((a3).toNat * 3)).block, (ad310.add ((a3).toNat * 3)).off + 2, none⟩ = some (.int .i64 ((rd_T109 t307 a3).f2))) (ds := []) #[false, false, false, false, false, false, false, false, false, false] (by kernel_rfl) rfl rfl ⟨hx310_0, hx310_1, hx310_2, hx311_0, hx311_1, hx311_2⟩ (fun hHeld => ?_); refine with_tabW impl_IsDoor.tab5 impl_IsDoor.bits5 (fun HT_ HW_ => ?_)
         generalize w34.drew = w35 at HO_303001 HO_303002 HO_303003 HO309 BK302 HB hx310_0 hx310_1 hx310_2 hx311_0 hx311_1 hx311_2 hHeld ⊢
         refine pure_ (i := 0) (N := some 31) (v := ?_) (a' := ?_) #[true, false, false, false, false, false, false, false, false, false] rfl rfl (any_of HT_.out (by kernel_rfl)) (fun _ _ _ h => h) (Or.inl ⟨by rfl, ?_⟩) ?_ ?_
         rotate_left
         ·
          intro w'
          go_simp
          with_reducible rfl
         rotate_left
         ·
          simp only [Act.put, List.setIfInBounds_toArray, List.set_cons_zero, List.set_cons_succ, i64_w, i32_w]
          rfl
         refine pure_ (i := 1) (N := some 32) (v := ?_) (a' := ?_) #[true, true, false, false, false, false, false, false, false, false] rfl rfl (any_of HT_.out (by kernel_rfl)) (fun _ _ _ h => h) (Or.inl ⟨by rfl, ?_⟩) ?_ ?_
         rotate_left
         ·
          intro w'
          go_simp
          with_reducible rfl
         rotate_left
         ·
          simp only [Act.put, List.setIfInBounds_toArray, List.set_cons_zero, List.set_cons_succ, i64_w, i32_w]
          rfl
         refine pure_ (i := 2) (N := some 33) (v := ?_) (a' := ?_) #[true, true, true, false, false, false, false, false, false, false] rfl rfl (any_of HT_.out (by kernel_rfl)) (fun _ _ _ h => h) (Or.inl ⟨by rfl, ?_⟩) ?_ ?_
         rotate_left
         ·
          intro w'
          go_simp
          with_reducible rfl
         rotate_left
         ·
          simp only [Act.put, List.setIfInBounds_toArray, List.set_cons_zero, List.set_cons_succ, i64_w, i32_w]
          rfl
         refine pure_ (i := 4) (N := some 35) (v := ?_) (a' := ?_) #[true, true, true, false, true, false, false, false, false, false] rfl rfl (any_of HT_.out (by kernel_rfl)) (fun _ _ _ h => h) (Or.inl ⟨by rfl, ?_⟩) ?_ ?_
         rotate_left
         ·
          intro w'
          go_simp
          with_reducible rfl
         rotate_left
         ·
          simp only [Act.put, List.setIfInBounds_toArray, List.set_cons_zero, List.set_cons_succ, i64_w, i32_w]
          rfl
         refine pure_ (i := 5) (N := some 36) (v := ?_) (a' := ?_) #[true, true, true, false, true, true, false, false, false, false] rfl rfl (any_of HT_.out (by kernel_rfl)) (fun _ _ _ h => h) (Or.inl ⟨by rfl, ?_⟩) ?_ ?_
         rotate_left
         ·
          intro w'
          go_simp
          with_reducible rfl
         rotate_left
         ·
          simp only [Act.put, List.setIfInBounds_toArray, List.set_cons_zero, List.set_cons_succ, i64_w, i32_w]
          rfl
         refine pure_ (i := 6) (N := some 37) (v := ?_) (a' := ?_) #[true, true, true, false, true, true, true, false, false, false] rfl rfl (any_of HT_.out (by kernel_rfl)) (fun _ _ _ h => h) (Or.inl ⟨by rfl, ?_⟩) ?_ ?_
         rotate_left
         ·
          intro w'
          go_simp
          with_reducible rfl
         rotate_left
         ·
          simp only [Act.put, List.setIfInBounds_toArray, List.set_cons_zero, List.set_cons_succ, i64_w, i32_w]
          rfl
         refine take_ (i := 3) (N := some 34) (v := ?_) (a' := ?_) #[true, true, true, true, true, true, true, false, false, false] rfl rfl (take_ofW HT_.out HW_.out (by kernel_rfl)) (fun _ _ _ h => h) (Or.inl ⟨by rfl, ?_⟩) hHeld ?_ ?_
         rotate_left
         ·
          rintro w' ⟨s0, s1, s2, s3, s4, s5⟩
          go_simp
          with_reducible rfl
         rotate_left
         ·
          simp only [Act.put, List.setIfInBounds_toArray, List.set_cons_zero, List.set_cons_succ, i64_w, i32_w]
          rfl
         refine take_ (i := 7) (N := some 38) (v := ?_) (a' := ?_) #[true, true, true, true, true, true, true, true, false, false] rfl rfl (take_ofW HT_.out HW_.out (by kernel_rfl)) (fun _ _ _ h => h) (Or.inl ⟨by rfl, ?_⟩) hHeld ?_ ?_
         rotate_left
         ·
          rintro w' ⟨s0, s1, s2, s3, s4, s5⟩
          go_simp
          with_reducible rfl
         rotate_left
         ·
          simp only [Act.put, List.setIfInBounds_toArray, List.set_cons_zero, List.set_cons_succ, i64_w, i32_w]
          rfl
         refine one_ (i := 8) (N := some 39) #[true, true, true, true, true, true, true, true, true, false] rfl rfl (one_of HT_.out (by kernel_rfl)) (by decide) (fun K hK => ?_)
         refine goes_ Try.func191 (by kernel_rfl) rfl #[.agg #[.int .i64 ((rd_T109 t307 a2).f0), .int .i64 ((rd_T109 t307 a2).f1), .int .i64 ((rd_T109 t307 a2).f2)], .agg #[.int .i64 ((rd_T109 t307 a3).f0), .int .i64 ((rd_T109 t307 a3).f1), .int .i64 ((rd_T109 t307 a3).f2)]] (by rfl) rfl rfl (by (try simp only [List.map_toArray, List.map_cons, List.map_nil]); first | done | rfl) ?_
         with_reducible refine (impl_near.calls kj5 ((rd_T109 t307 a2).f0) ((rd_T109 t307 a2).f1) ((rd_T109 t307 a2).f2) ((rd_T109 t307 a3).f0) ((rd_T109 t307 a3).f1) ((rd_T109 t307 a3).f2) false _ A25.out).mono ?_
         rintro e w37 ⟨rfl, hb⟩
         have HS0_ := (hb.cell (World.block_lt_of_cell? _ _ (hHeld.1))).trans (hHeld.1)
         have HS1_ := (hb.cell (World.block_lt_of_cell? _ _ (hHeld.2.1))).trans (hHeld.2.1)
         have HS2_ := (hb.cell (World.block_lt_of_cell? _ _ (hHeld.2.2.1))).trans (hHeld.2.2.1)
         have HS3_ := (hb.cell (World.block_lt_of_cell? _ _ (hHeld.2.2.2.1))).trans (hHeld.2.2.2.1)
         have HS4_ := (hb.cell (World.block_lt_of_cell? _ _ (hHeld.2.2.2.2.1))).trans (hHeld.2.2.2.2.1)
         have HS5_ := (hb.cell (World.block_lt_of_cell? _ _ (hHeld.2.2.2.2.2))).trans (hHeld.2.2.2.2.2)
         refine ⟨_, rfl, ?_⟩
         have n0_ := zA0 (Kd.V_below (zV HO_303001) hb)
         have n1_ := zA0 (Kd.S_below (zS HO_303002) hb)
         have n2_ := zA0 (Kd.R_below (zR HO_303003) hb)
         have n3_ := zA0 (Kd.R_below (zR HO309) hb)
         have n4_ := zA0 (blk_below (g := gb302) (o := .cells #[.int .i64 t291, .slice Ao10 t292.length co10, .slice Ao11 t295.length co11, .slice Ao12 t298.length co12] 132 (0, 0)) (zQ BK302) hb)
         have n5_ := zA0 (below_step (by repeat (first | (with_reducible first | exact HB.out | apply zpA | apply zpN | apply zpD | refine below_set ?_ GE302.out) | exact HB.out)) hb)
         replace HO_303001 := n0_; replace HO_303002 := n1_; replace HO_303003 := n2_; replace HO309 := n3_; replace BK302 := n4_; replace HB := n5_; clear n0_ n1_ n2_ n3_ n4_ n5_
         (try clear hb)
         (try clear hb2)
         (try clear hk)
         (try clear hi)
         refine hK.out _ _ ⟨HS0_, HS1_, HS2_, HS3_, HS4_, HS5_⟩ (fun hHeld => ?_)
         clear hK K
         refine norm_ (a' := ?_) ?_ ?_
         rotate_left
         ·
          show Act.put _ (some 39) _ = _
          simp only [Act.put, List.setIfInBounds_toArray, List.set_cons_zero, List.set_cons_succ, i64_w, i32_w]
          rfl
         refine pure_ (i := 9) (N := some 40) (v := ?_) (a' := ?_) #[true, true, true, true, true, true, true, true, true, true] rfl rfl (any_of HT_.out (by kernel_rfl)) (fun _ _ _ h => h) (Or.inl ⟨by rfl, ?_⟩) ?_ ?_
         rotate_left
         ·
          intro w'
          go_simp
          with_reducible rfl
         rotate_left
         ·
          simp only [Act.put, List.setIfInBounds_toArray, List.set_cons_zero, List.set_cons_succ, i64_w, i32_w]
          rfl
         refine done_ (done_of HT_.out (by kernel_rfl)) ?_
         try go_wp2
         go_ret2
         exact ⟨by first | rfl | (simp [errW_none, errW_some] <;> rfl) | (simp [*, errW_none, errW_some] <;> rfl), by repeat (first | (with_reducible first | exact HB.out | apply zpA | apply zpN | apply zpD | refine below_set ?_ GE302.out) | exact HB.out)⟩
       ·
        rw [if_neg c24] at H
        exact absurd H (by simp)
      ·
       rw [if_neg c23] at H
       exact absurd H (by simp)
     ·
      rw [if_neg c22] at H
      exact absurd H (by simp)
    ·
     rw [if_neg c21] at H
     exact absurd H (by simp)
def impl_DoorsOfCell.f (k : Nat) (a0 : Int) (l1 : List Int) (a2 : Int) : Option ((List (List Int)) × Bool) := (impl_houseOf.f k a0 l1).bind fun bt314 => (if bt314.2.2.2.2 = true then ((impl_isCell.f a0 a2).bind fun t326 => (if t326 = true then ((impl_house_doors.f k bt314.1 bt314.2.1 bt314.2.2.1 bt314.2.2.2.1 a2).bind fun t327 => (some (t327, true))) else (some (([] : List (List Int)), false)))) else (some (([] : List (List Int)), false)))
set_option maxHeartbeats 8000000 in
set_option maxRecDepth 100000 in
theorem impl_DoorsOfCell.calls (k : Nat) (a0 : Int) (P1_ : Nat → Prop) (A1 : Option Addr) (c1 : Nat) (l1 : List Int) (a2 : Int) (r1 : List (List Int)) (r2 : Bool) (w : World) (hs1 : Kd.V (Kd.int .i64) 3 w w.heap.size (fun k_ => P1_ k_) (.slice A1 l1.length c1) l1) (h : impl_DoorsOfCell.f k a0 l1 a2 = some (r1, r2)) :
  Calls Try.prog 78 #[.int .i64 a0, .slice A1 l1.length c1, .int .i64 a2] w fun e w' => ∃ v0_ : Value, e = .returned (.tuple #[v0_, .bool r2]) ∧ Kd.N (Kd.slice 3 (Kd.int .i64)) 22 w' w.heap.size (fun k_ => (P1_ k_ ∨ w.heap.size ≤ k_)) v0_ r1 ∧ Below w.heap.size w w' := by
 have hu132 := Try.underlying132
 have HO1 := zA0 (show Kd.V (Kd.int .i64) 3 w w.heap.size (fun k_ => (P1_ k_ ∨ w.heap.size ≤ k_)) (.slice A1 l1.length c1) l1 from Kd.V_mono hs1 (fun k_ hk => .inl hk))
 have HB := zA0 (Below.refl w.heap.size w)
 have H : ((impl_houseOf.f k a0 l1).bind fun bt314 => (if bt314.2.2.2.2 = true then ((impl_isCell.f a0 a2).bind fun t326 => (if t326 = true then ((impl_house_doors.f k bt314.1 bt314.2.1 bt314.2.2.1 bt314.2.2.2.1 a2).bind fun t327 => (some (t327, true))) else (some (([] : List (List Int)), false)))) else (some (([] : List (List Int)), false)))) = some (r1, r2) := h
 clear h
 replace H := Option.bind_eq_some_iff.mp H
 obtain ⟨⟨t314, t315, t318, t321, t324⟩, A40, H⟩ := H
 (try dsimp only at H)
 have A4 := zA0 A40
 clear A40
 by_cases c5 : t324 = true
 ·
  subst c5
  rw [if_pos rfl] at H
  replace H := Option.bind_eq_some_iff.mp H
  obtain ⟨t326, A60, H⟩ := H
  (try dsimp only at H)
  have A6 := zA0 A60
  clear A60
  by_cases c7 : t326 = true
  ·
   subst c7
   rw [if_pos rfl] at H
   replace H := Option.bind_eq_some_iff.mp H
   obtain ⟨t327, A80, H⟩ := H
   (try dsimp only at H)
   have A8 := zA0 A80
   clear A80
   simp only [Option.some.injEq, Prod.mk.injEq] at H
   obtain ⟨rfl, rfl⟩ := H
   go_enter Try.func78, Try.ntmps78
   go_wp2_with (first | ((with_reducible refine gate_callee (f := 206) rfl ?_); refine goesL_ (some 13) rfl rfl Try.func206 (by kernel_rfl) rfl #[.int .i64 a0, .slice A1 l1.length c1] rfl (by (try simp only [List.map_toArray, List.map_cons, List.map_nil]); first | done | rfl) ?_; (with_reducible refine (impl_houseOf.calls k a0 (fun k_ => (P1_ k_ ∨ w.heap.size ≤ k_)) _ _ l1 t314 t315 t318 t321 true _ ?side1 A4.out).mono ?_); (case side1 => exact HO1.out); rintro e w9 ⟨v316, v319, v322, rfl, ho0, ho1, ho2, hb⟩; refine ⟨_, rfl, ?_⟩; (try replace ho1 := Kd.S_N ho1); have n0_ := zA0 (Kd.V_mono (Kd.V_told (Kd.V_told (Kd.V_old (zV HO1) hb) (Kd.N_base ho1)) (Kd.R_base ho2)) (fun _ h_ => h_.1)); have n1_ := zA0 (Kd.V_lower (Kd.V_mono (ok' := fun k_ => (P1_ k_ ∨ w.heap.size ≤ k_) ∧ some k_ ≠ (v319 : Value).ownBlock ∧ some k_ ≠ (v322 : Value).ownBlock) ho0 (fun k_ hk_ => ⟨Or.elim hk_.1 (fun hs_ => hs_) (fun hn_ => (.inr (Nat.le_trans (below_size (zB HB)) hn_))), hk_.2.1, hk_.2.2⟩)) (below_size (zB HB))); have n2_ := zA0 (Kd.N_lower (Kd.N_mono (ok' := fun k_ => (P1_ k_ ∨ w.heap.size ≤ k_) ∧ some k_ ≠ (v322 : Value).ownBlock) ho1 (fun k_ hk_ => ⟨(by first | exact Or.elim hk_.1 (fun hs_ => hs_) (fun hn_ => (.inr (Nat.le_trans (below_size (zB HB)) hn_))) | exact (fun hn_ => (.inr (Nat.le_trans (below_size (zB HB)) hn_))) hk_.1), hk_.2⟩)) (below_size (zB HB))); have n3_ := zA0 (Kd.R_lower (Kd.R_newM (M := fun k_ => (w.heap.size ≤ k_)) (Kd.R_mono (ok' := fun k_ => True) ho2 (fun _ hk_ => trivial)) (below_size (zB HB)) (fun k_ h_ => h_)) (below_size (zB HB))); have n4_ := zA0 (below_step (zB HB) hb); replace HO1 := n0_; have HO317 := n1_; have HO320 := n2_; have HO323 := n3_; replace HB := n4_; clear n0_ n1_ n2_ n3_ n4_; (try clear hb); (try clear hb2); (try clear hk); (try clear hi); (try clear ho0); (try clear ho1); (try clear ho2)) | ((with_reducible refine gate_dst (N := 8) rfl ?_); refine box_event ?hg (N := 8) ?hd (cs := #[.int .i64 0, .slice none 0 0, .slice none 0 0, .slice none 0 0]) (t := 132) ?hr ?_; (case hd => rfl); (case hg => rfl); (case hr => first | (go_simp; done) | (go_simp; rfl)); intro gb325 hg w10 hbox hb; have n0_ := zA0 (Kd.V_below (Kd.V_elderB (zV HO1) gb325 (Nat.le_of_eq hg.symm)) hb); have n1_ := zA0 (Kd.V_below (Kd.V_elderB (zV HO317) gb325 (Nat.le_of_eq hg.symm)) hb); have n2_ := zA0 (Kd.N_below (Kd.N_elderB (zN HO320) gb325 (Nat.le_of_eq hg.symm)) hb); have n3_ := zA0 (Kd.R_below (zR HO323) hb); have n4_ := zA0 (below_step (zB HB) hb); have n5_ := zA0 (hbox); have n6_ := zA0 ((by rw [hg]; exact (below_size (zB HB)) : w.heap.size ≤ gb325)); have n7_ := zA0 ((by rw [hg]; exact (below_size (zB HB)) : w.heap.size ≤ gb325)); replace HO1 := n0_; replace HO317 := n1_; replace HO320 := n2_; replace HO323 := n3_; replace HB := n4_; have BK325 := n5_; have GW325 := n6_; have GE325 := n7_; clear n0_ n1_ n2_ n3_ n4_ n5_ n6_ n7_; clear hb hbox hg; have hcz11_0 : w10.cell? ⟨gb325, 0, none⟩ = some (.int .i64 0) := (blk_cell BK325.out 0).trans rfl; have hcz11_1 : w10.cell? ⟨gb325, 1, none⟩ = some (.slice none 0 0) := (blk_cell BK325.out 1).trans rfl; have hcz11_2 : w10.cell? ⟨gb325, 2, none⟩ = some (.slice none 0 0) := (blk_cell BK325.out 2).trans rfl; have hcz11_3 : w10.cell? ⟨gb325, 3, none⟩ = some (.slice none 0 0) := (blk_cell BK325.out 3).trans rfl; have hfz11_0 := blk_frozen BK325.out 0; have hfz11_1 := blk_frozen BK325.out 1; have hfz11_2 := blk_frozen BK325.out 2; have hfz11_3 := blk_frozen BK325.out 3; obtain ⟨Ao12, co12, eo12⟩ := Kd.V_slice HO317.out; subst eo12; obtain ⟨Ao13, co13, eo13⟩ := Kd.N_slice HO320.out; subst eo13; obtain ⟨Ao14, co14, eo14⟩ := Kd.R_slice HO323.out; subst eo14) | (go_at_call 201; (with_reducible refine (impl_isCell.calls a0 a2 true _ A6.out).mono ?_); rintro e w' ⟨rfl, ⟨nd, rfl⟩⟩) | ((with_reducible refine gate_callee (f := 207) rfl ?_); refine goesL_ (some 26) rfl rfl Try.func207 (by kernel_rfl) rfl #[.agg #[.int .i64 t314, .slice Ao12 t315.length co12, .slice Ao13 t318.length co13, .slice Ao14 t321.length co14], .int .i64 a2] rfl (by (try simp only [List.map_toArray, List.map_cons, List.map_nil]); first | done | rfl) ?_; (with_reducible refine (impl_house_doors.calls k t314 _ _ t315 _ _ t318 _ _ t321 a2 t327 _ ?side1 ?side2 ?side3 ?side4 ?side5 ?side6 A8.out).mono ?_); (case side1 => refine (Kd.V_reads' (e := 3) (base := w.heap.size) (ok := fun k_ => (((P1_ k_ ∨ w.heap.size ≤ k_) ∧ (some k_ ≠ (.slice Ao13 t318.length co13 : Value).ownBlock ∧ some k_ ≠ (.slice Ao14 t321.length co14 : Value).ownBlock)) ∧ k_ ≠ gb325)) (n := t315.length) (c := co12) ?_).2.2; exact (by (with_reducible repeat (first | apply Kd.V_alloc | apply Kd.V_drewN | apply Kd.V_drew)); exact (Kd.V_mono (Kd.V_far (p := ⟨gb325, 3, none⟩) (Kd.V_far (p := ⟨gb325, 2, none⟩) (Kd.V_far (p := ⟨gb325, 1, none⟩) (Kd.V_far (p := ⟨gb325, 0, none⟩) (Kd.V_mono HO317.out (fun k_ hk => (⟨hk, hk.2⟩ : _ ∧ k_ ≠ gb325))) (fun _ hk => hk.2) (.int .i64 t314)) (fun _ hk => hk.2) (.slice Ao12 t315.length co12)) (fun _ hk => hk.2) (.slice Ao13 t318.length co13)) (fun _ hk => hk.2) (.slice Ao14 t321.length co14)) (fun _ h_ => h_.1)))); (case side2 => exact (Kd.V_reads' HO317.out).2.1); (case side3 => refine (Kd.N_reads' (e := 22) (base := w.heap.size) (ok := fun k_ => (((P1_ k_ ∨ w.heap.size ≤ k_) ∧ some k_ ≠ (.slice Ao14 t321.length co14 : Value).ownBlock) ∧ k_ ≠ gb325)) (n := t318.length) (c := co13) ?_).2.2; exact (by (with_reducible repeat (first | apply znA | apply znN | apply znD)); exact (Kd.N_mono (Kd.N_far (p := ⟨gb325, 3, none⟩) (Kd.N_far (p := ⟨gb325, 2, none⟩) (Kd.N_far (p := ⟨gb325, 1, none⟩) (Kd.N_far (p := ⟨gb325, 0, none⟩) (Kd.N_mono HO320.out (fun k_ hk => (⟨hk, hk.2⟩ : _ ∧ k_ ≠ gb325))) (fun _ hk => hk.2) (.int .i64 t314)) (fun _ hk => hk.2) (.slice Ao12 t315.length co12)) (fun _ hk => hk.2) (.slice Ao13 t318.length co13)) (fun _ hk => hk.2) (.slice Ao14 t321.length co14)) (fun _ h_ => h_.1)))); (case side4 => exact (Kd.N_reads' HO320.out).2.1); (case side5 => refine (Kd.R_reads' (e := 3) (base := w.heap.size) (ok := fun k_ => ((w.heap.size ≤ k_) ∧ True)) (n := t321.length) (c := co14) ?_).2.2; exact (by (with_reducible repeat (first | apply zrA | apply zrN | apply zrD)); exact (Kd.R_mono (Kd.R_far (p := ⟨gb325, 3, none⟩) (Kd.R_far (p := ⟨gb325, 2, none⟩) (Kd.R_far (p := ⟨gb325, 1, none⟩) (Kd.R_far (p := ⟨gb325, 0, none⟩) (Kd.R_types HO323.out BK325.out (by decide)) (fun _ hk => hk.2) (.int .i64 t314)) (fun _ hk => hk.2) (.slice Ao12 t315.length co12)) (fun _ hk => hk.2) (.slice Ao13 t318.length co13)) (fun _ hk => hk.2) (.slice Ao14 t321.length co14)) (fun _ h_ => h_.1)))); (case side6 => exact (Kd.R_reads' HO323.out).2.1); rintro e w15 ⟨v328, rfl, ho0, hb⟩; refine ⟨_, rfl, ?_⟩; (try replace ho0 := Kd.S_N ho0); have n0_ := zA0 (Kd.V_elder' (by (with_reducible repeat (first | apply Kd.V_alloc | apply Kd.V_drewN | apply Kd.V_drew)); exact (Kd.V_mono (Kd.V_far (p := ⟨gb325, 3, none⟩) (Kd.V_far (p := ⟨gb325, 2, none⟩) (Kd.V_far (p := ⟨gb325, 1, none⟩) (Kd.V_far (p := ⟨gb325, 0, none⟩) (Kd.V_mono HO1.out (fun k_ hk => (⟨hk, hk.2⟩ : _ ∧ k_ ≠ gb325))) (fun _ hk => hk.2) (.int .i64 t314)) (fun _ hk => hk.2) (.slice Ao12 t315.length co12)) (fun _ hk => hk.2) (.slice Ao13 t318.length co13)) (fun _ hk => hk.2) (.slice Ao14 t321.length co14)) (fun _ h_ => h_.1))) (Kd.N_base ho0) hb); have n1_ := zA0 (Kd.V_elder' (by (with_reducible repeat (first | apply Kd.V_alloc | apply Kd.V_drewN | apply Kd.V_drew)); exact (Kd.V_mono (Kd.V_far (p := ⟨gb325, 3, none⟩) (Kd.V_far (p := ⟨gb325, 2, none⟩) (Kd.V_far (p := ⟨gb325, 1, none⟩) (Kd.V_far (p := ⟨gb325, 0, none⟩) (Kd.V_mono HO317.out (fun k_ hk => (⟨hk, hk.2⟩ : _ ∧ k_ ≠ gb325))) (fun _ hk => hk.2) (.int .i64 t314)) (fun _ hk => hk.2) (.slice Ao12 t315.length co12)) (fun _ hk => hk.2) (.slice Ao13 t318.length co13)) (fun _ hk => hk.2) (.slice Ao14 t321.length co14)) (fun _ h_ => h_.1))) (Kd.N_base ho0) hb); have n2_ := zA0 (Kd.N_elder' (by (with_reducible repeat (first | apply znA | apply znN | apply znD)); exact (Kd.N_mono (Kd.N_far (p := ⟨gb325, 3, none⟩) (Kd.N_far (p := ⟨gb325, 2, none⟩) (Kd.N_far (p := ⟨gb325, 1, none⟩) (Kd.N_far (p := ⟨gb325, 0, none⟩) (Kd.N_mono HO320.out (fun k_ hk => (⟨hk, hk.2⟩ : _ ∧ k_ ≠ gb325))) (fun _ hk => hk.2) (.int .i64 t314)) (fun _ hk => hk.2) (.slice Ao12 t315.length co12)) (fun _ hk => hk.2) (.slice Ao13 t318.length co13)) (fun _ hk => hk.2) (.slice Ao14 t321.length co14)) (fun _ h_ => h_.1))) (Kd.N_base ho0) hb); have n3_ := zA0 (Kd.R_below (by (with_reducible repeat (first | apply zrA | apply zrN | apply zrD)); exact (Kd.R_mono (Kd.R_far (p := ⟨gb325, 3, none⟩) (Kd.R_far (p := ⟨gb325, 2, none⟩) (Kd.R_far (p := ⟨gb325, 1, none⟩) (Kd.R_far (p := ⟨gb325, 0, none⟩) (Kd.R_types HO323.out BK325.out (by decide)) (fun _ hk => hk.2) (.int .i64 t314)) (fun _ hk => hk.2) (.slice Ao12 t315.length co12)) (fun _ hk => hk.2) (.slice Ao13 t318.length co13)) (fun _ hk => hk.2) (.slice Ao14 t321.length co14)) (fun _ h_ => h_.1))) hb); have n4_ := zA0 (Kd.N_lower (Kd.N_mono (ok' := fun k_ => (P1_ k_ ∨ w.heap.size ≤ k_) ∧ some k_ ≠ (.slice Ao13 t318.length co13 : Value).ownBlock ∧ some k_ ≠ (.slice Ao14 t321.length co14 : Value).ownBlock ∧ k_ ≠ gb325) ho0 (fun k_ hk_ => ⟨(.inr (Nat.le_trans (below_size (by repeat (first | (with_reducible first | exact HB.out | apply zpA | apply zpN | apply zpD | refine below_set ?_ GE325.out) | exact HB.out))) hk_)), (Kd.fresh' (Kd.N_lt (by (with_reducible repeat (first | apply znA | apply znN | apply znD)); exact (Kd.N_mono (Kd.N_far (p := ⟨gb325, 3, none⟩) (Kd.N_far (p := ⟨gb325, 2, none⟩) (Kd.N_far (p := ⟨gb325, 1, none⟩) (Kd.N_far (p := ⟨gb325, 0, none⟩) (Kd.N_mono HO320.out (fun k_ hk => (⟨hk, hk.2⟩ : _ ∧ k_ ≠ gb325))) (fun _ hk => hk.2) (.int .i64 t314)) (fun _ hk => hk.2) (.slice Ao12 t315.length co12)) (fun _ hk => hk.2) (.slice Ao13 t318.length co13)) (fun _ hk => hk.2) (.slice Ao14 t321.length co14)) (fun _ h_ => h_.1)))) k_ hk_), (Kd.fresh' (Kd.R_lt (by (with_reducible repeat (first | apply zrA | apply zrN | apply zrD)); exact (Kd.R_mono (Kd.R_far (p := ⟨gb325, 3, none⟩) (Kd.R_far (p := ⟨gb325, 2, none⟩) (Kd.R_far (p := ⟨gb325, 1, none⟩) (Kd.R_far (p := ⟨gb325, 0, none⟩) (Kd.R_types HO323.out BK325.out (by decide)) (fun _ hk => hk.2) (.int .i64 t314)) (fun _ hk => hk.2) (.slice Ao12 t315.length co12)) (fun _ hk => hk.2) (.slice Ao13 t318.length co13)) (fun _ hk => hk.2) (.slice Ao14 t321.length co14)) (fun _ h_ => h_.1)))) k_ hk_), (Kd.freshB (g := gb325) (o := .cells #[.int .i64 t314, .slice Ao12 t315.length co12, .slice Ao13 t318.length co13, .slice Ao14 t321.length co14] 132 (0, 0)) (by (with_reducible repeat (first | refine blk_drewN ?_ _ | refine blk_drew ?_ | refine blk_alloc ?_ _)); refine blk_put (cs := #[.int .i64 t314, .slice Ao12 t315.length co12, .slice Ao13 t318.length co13, .slice none 0 0]) ?_ 3 _ rfl; (with_reducible repeat (first | refine blk_drewN ?_ _ | refine blk_drew ?_ | refine blk_alloc ?_ _)); refine blk_put (cs := #[.int .i64 t314, .slice Ao12 t315.length co12, .slice none 0 0, .slice none 0 0]) ?_ 2 _ rfl; (with_reducible repeat (first | refine blk_drewN ?_ _ | refine blk_drew ?_ | refine blk_alloc ?_ _)); refine blk_put (cs := #[.int .i64 t314, .slice none 0 0, .slice none 0 0, .slice none 0 0]) ?_ 1 _ rfl; (with_reducible repeat (first | refine blk_drewN ?_ _ | refine blk_drew ?_ | refine blk_alloc ?_ _)); refine blk_put (cs := #[.int .i64 0, .slice none 0 0, .slice none 0 0, .slice none 0 0]) ?_ 0 _ rfl; (with_reducible repeat (first | refine blk_drewN ?_ _ | refine blk_drew ?_ | refine blk_alloc ?_ _)); exact BK325.out) k_ hk_)⟩)) (below_size (by repeat (first | (with_reducible first | exact HB.out | apply zpA | apply zpN | apply zpD | refine below_set ?_ GE325.out) | exact HB.out)))); have n5_ := zA0 (blk_below (g := gb325) (o := .cells #[.int .i64 t314, .slice Ao12 t315.length co12, .slice Ao13 t318.length co13, .slice Ao14 t321.length co14] 132 (0, 0)) (by (with_reducible repeat (first | refine blk_drewN ?_ _ | refine blk_drew ?_ | refine blk_alloc ?_ _)); refine blk_put (cs := #[.int .i64 t314, .slice Ao12 t315.length co12, .slice Ao13 t318.length co13, .slice none 0 0]) ?_ 3 _ rfl; (with_reducible repeat (first | refine blk_drewN ?_ _ | refine blk_drew ?_ | refine blk_alloc ?_ _)); refine blk_put (cs := #[.int .i64 t314, .slice Ao12 t315.length co12, .slice none 0 0, .slice none 0 0]) ?_ 2 _ rfl; (with_reducible repeat (first | refine blk_drewN ?_ _ | refine blk_drew ?_ | refine blk_alloc ?_ _)); refine blk_put (cs := #[.int .i64 t314, .slice none 0 0, .slice none 0 0, .slice none 0 0]) ?_ 1 _ rfl; (with_reducible repeat (first | refine blk_drewN ?_ _ | refine blk_drew ?_ | refine blk_alloc ?_ _)); refine blk_put (cs := #[.int .i64 0, .slice none 0 0, .slice none 0 0, .slice none 0 0]) ?_ 0 _ rfl; (with_reducible repeat (first | refine blk_drewN ?_ _ | refine blk_drew ?_ | refine blk_alloc ?_ _)); exact BK325.out) hb); have n6_ := zA0 (below_step (by repeat (first | (with_reducible first | exact HB.out | apply zpA | apply zpN | apply zpD | refine below_set ?_ GE325.out) | exact HB.out)) hb); replace HO1 := n0_; replace HO317 := n1_; replace HO320 := n2_; replace HO323 := n3_; have HO329 := n4_; replace BK325 := n5_; replace HB := n6_; clear n0_ n1_ n2_ n3_ n4_ n5_ n6_; (try clear hb); (try clear hb2); (try clear hk); (try clear hi); (try clear ho0)))
   go_ret2
   exact ⟨_, by first | rfl | (simp [errW_none, errW_some] <;> rfl) | (simp [*, errW_none, errW_some] <;> rfl), by (with_reducible repeat (first | apply znA | apply znN | apply znD)); exact Kd.N_mono HO329.out (fun _ hk => hk.1), by repeat (first | (with_reducible first | exact HB.out | apply zpA | apply zpN | apply zpD | refine below_set ?_ GE325.out) | exact HB.out)⟩
  ·
   replace c7 := Bool.eq_false_iff.mpr c7
   subst c7
   rw [if_neg (show ¬ (false = true) by decide)] at H
   simp only [Option.some.injEq, Prod.mk.injEq] at H
   obtain ⟨rfl, rfl⟩ := H
   go_enter Try.func78, Try.ntmps78
   go_wp2_with (first | ((with_reducible refine gate_callee (f := 206) rfl ?_); refine goesL_ (some 13) rfl rfl Try.func206 (by kernel_rfl) rfl #[.int .i64 a0, .slice A1 l1.length c1] rfl (by (try simp only [List.map_toArray, List.map_cons, List.map_nil]); first | done | rfl) ?_; (with_reducible refine (impl_houseOf.calls k a0 (fun k_ => (P1_ k_ ∨ w.heap.size ≤ k_)) _ _ l1 t314 t315 t318 t321 true _ ?side1 A4.out).mono ?_); (case side1 => exact HO1.out); rintro e w16 ⟨v316, v319, v322, rfl, ho0, ho1, ho2, hb⟩; refine ⟨_, rfl, ?_⟩; (try replace ho1 := Kd.S_N ho1); have n0_ := zA0 (Kd.V_mono (Kd.V_told (Kd.V_told (Kd.V_old (zV HO1) hb) (Kd.N_base ho1)) (Kd.R_base ho2)) (fun _ h_ => h_.1)); have n1_ := zA0 (Kd.V_lower (Kd.V_mono (ok' := fun k_ => (P1_ k_ ∨ w.heap.size ≤ k_) ∧ some k_ ≠ (v319 : Value).ownBlock ∧ some k_ ≠ (v322 : Value).ownBlock) ho0 (fun k_ hk_ => ⟨Or.elim hk_.1 (fun hs_ => hs_) (fun hn_ => (.inr (Nat.le_trans (below_size (zB HB)) hn_))), hk_.2.1, hk_.2.2⟩)) (below_size (zB HB))); have n2_ := zA0 (Kd.N_lower (Kd.N_mono (ok' := fun k_ => (P1_ k_ ∨ w.heap.size ≤ k_) ∧ some k_ ≠ (v322 : Value).ownBlock) ho1 (fun k_ hk_ => ⟨(by first | exact Or.elim hk_.1 (fun hs_ => hs_) (fun hn_ => (.inr (Nat.le_trans (below_size (zB HB)) hn_))) | exact (fun hn_ => (.inr (Nat.le_trans (below_size (zB HB)) hn_))) hk_.1), hk_.2⟩)) (below_size (zB HB))); have n3_ := zA0 (Kd.R_lower (Kd.R_newM (M := fun k_ => (w.heap.size ≤ k_)) (Kd.R_mono (ok' := fun k_ => True) ho2 (fun _ hk_ => trivial)) (below_size (zB HB)) (fun k_ h_ => h_)) (below_size (zB HB))); have n4_ := zA0 (below_step (zB HB) hb); replace HO1 := n0_; have HO317 := n1_; have HO320 := n2_; have HO323 := n3_; replace HB := n4_; clear n0_ n1_ n2_ n3_ n4_; (try clear hb); (try clear hb2); (try clear hk); (try clear hi); (try clear ho0); (try clear ho1); (try clear ho2)) | ((with_reducible refine gate_dst (N := 8) rfl ?_); refine box_event ?hg (N := 8) ?hd (cs := #[.int .i64 0, .slice none 0 0, .slice none 0 0, .slice none 0 0]) (t := 132) ?hr ?_; (case hd => rfl); (case hg => rfl); (case hr => first | (go_simp; done) | (go_simp; rfl)); intro gb325 hg w17 hbox hb; have n0_ := zA0 (Kd.V_below (Kd.V_elderB (zV HO1) gb325 (Nat.le_of_eq hg.symm)) hb); have n1_ := zA0 (Kd.V_below (Kd.V_elderB (zV HO317) gb325 (Nat.le_of_eq hg.symm)) hb); have n2_ := zA0 (Kd.N_below (Kd.N_elderB (zN HO320) gb325 (Nat.le_of_eq hg.symm)) hb); have n3_ := zA0 (Kd.R_below (zR HO323) hb); have n4_ := zA0 (below_step (zB HB) hb); have n5_ := zA0 (hbox); have n6_ := zA0 ((by rw [hg]; exact (below_size (zB HB)) : w.heap.size ≤ gb325)); have n7_ := zA0 ((by rw [hg]; exact (below_size (zB HB)) : w.heap.size ≤ gb325)); replace HO1 := n0_; replace HO317 := n1_; replace HO320 := n2_; replace HO323 := n3_; replace HB := n4_; have BK325 := n5_; have GW325 := n6_; have GE325 := n7_; clear n0_ n1_ n2_ n3_ n4_ n5_ n6_ n7_; clear hb hbox hg; have hcz18_0 : w17.cell? ⟨gb325, 0, none⟩ = some (.int .i64 0) := (blk_cell BK325.out 0).trans rfl; have hcz18_1 : w17.cell? ⟨gb325, 1, none⟩ = some (.slice none 0 0) := (blk_cell BK325.out 1).trans rfl; have hcz18_2 : w17.cell? ⟨gb325, 2, none⟩ = some (.slice none 0 0) := (blk_cell BK325.out 2).trans rfl; have hcz18_3 : w17.cell? ⟨gb325, 3, none⟩ = some (.slice none 0 0) := (blk_cell BK325.out 3).trans rfl; have hfz18_0 := blk_frozen BK325.out 0; have hfz18_1 := blk_frozen BK325.out 1; have hfz18_2 := blk_frozen BK325.out 2; have hfz18_3 := blk_frozen BK325.out 3; obtain ⟨Ao19, co19, eo19⟩ := Kd.V_slice HO317.out; subst eo19; obtain ⟨Ao20, co20, eo20⟩ := Kd.N_slice HO320.out; subst eo20; obtain ⟨Ao21, co21, eo21⟩ := Kd.R_slice HO323.out; subst eo21) | (go_at_call 201; (with_reducible refine (impl_isCell.calls a0 a2 false _ A6.out).mono ?_); rintro e w' ⟨rfl, ⟨nd, rfl⟩⟩))
   go_ret2
   exact ⟨_, by first | rfl | (simp [errW_none, errW_some] <;> rfl) | (simp [*, errW_none, errW_some] <;> rfl), by first | exact Kd.S_nil _ _ _ _ _ | exact Kd.N_nil _ _ _ _ _ | exact Kd.V_nil _ _ _ _ _ | exact Kd.Q_nil _ _ _ _ _ | exact Kd.R_nil _ _ _ _ _, by repeat (first | (with_reducible first | exact HB.out | apply zpA | apply zpN | apply zpD | refine below_set ?_ GE325.out) | exact HB.out)⟩
 ·
  replace c5 := Bool.eq_false_iff.mpr c5
  subst c5
  rw [if_neg (show ¬ (false = true) by decide)] at H
  simp only [Option.some.injEq, Prod.mk.injEq] at H
  obtain ⟨rfl, rfl⟩ := H
  go_enter Try.func78, Try.ntmps78
  go_wp2_with (first | ((with_reducible refine gate_callee (f := 206) rfl ?_); refine goesL_ (some 13) rfl rfl Try.func206 (by kernel_rfl) rfl #[.int .i64 a0, .slice A1 l1.length c1] rfl (by (try simp only [List.map_toArray, List.map_cons, List.map_nil]); first | done | rfl) ?_; (with_reducible refine (impl_houseOf.calls k a0 (fun k_ => (P1_ k_ ∨ w.heap.size ≤ k_)) _ _ l1 t314 t315 t318 t321 false _ ?side1 A4.out).mono ?_); (case side1 => exact HO1.out); rintro e w22 ⟨v316, v319, v322, rfl, ho0, ho1, ho2, hb⟩; refine ⟨_, rfl, ?_⟩; (try replace ho1 := Kd.S_N ho1); have n0_ := zA0 (Kd.V_mono (Kd.V_told (Kd.V_told (Kd.V_old (zV HO1) hb) (Kd.N_base ho1)) (Kd.R_base ho2)) (fun _ h_ => h_.1)); have n1_ := zA0 (Kd.V_lower (Kd.V_mono (ok' := fun k_ => (P1_ k_ ∨ w.heap.size ≤ k_) ∧ some k_ ≠ (v319 : Value).ownBlock ∧ some k_ ≠ (v322 : Value).ownBlock) ho0 (fun k_ hk_ => ⟨Or.elim hk_.1 (fun hs_ => hs_) (fun hn_ => (.inr (Nat.le_trans (below_size (zB HB)) hn_))), hk_.2.1, hk_.2.2⟩)) (below_size (zB HB))); have n2_ := zA0 (Kd.N_lower (Kd.N_mono (ok' := fun k_ => (P1_ k_ ∨ w.heap.size ≤ k_) ∧ some k_ ≠ (v322 : Value).ownBlock) ho1 (fun k_ hk_ => ⟨(by first | exact Or.elim hk_.1 (fun hs_ => hs_) (fun hn_ => (.inr (Nat.le_trans (below_size (zB HB)) hn_))) | exact (fun hn_ => (.inr (Nat.le_trans (below_size (zB HB)) hn_))) hk_.1), hk_.2⟩)) (below_size (zB HB))); have n3_ := zA0 (Kd.R_lower (Kd.R_newM (M := fun k_ => (w.heap.size ≤ k_)) (Kd.R_mono (ok' := fun k_ => True) ho2 (fun _ hk_ => trivial)) (below_size (zB HB)) (fun k_ h_ => h_)) (below_size (zB HB))); have n4_ := zA0 (below_step (zB HB) hb); replace HO1 := n0_; have HO317 := n1_; have HO320 := n2_; have HO323 := n3_; replace HB := n4_; clear n0_ n1_ n2_ n3_ n4_; (try clear hb); (try clear hb2); (try clear hk); (try clear hi); (try clear ho0); (try clear ho1); (try clear ho2)) | ((with_reducible refine gate_dst (N := 8) rfl ?_); refine box_event ?hg (N := 8) ?hd (cs := #[.int .i64 0, .slice none 0 0, .slice none 0 0, .slice none 0 0]) (t := 132) ?hr ?_; (case hd => rfl); (case hg => rfl); (case hr => first | (go_simp; done) | (go_simp; rfl)); intro gb325 hg w23 hbox hb; have n0_ := zA0 (Kd.V_below (Kd.V_elderB (zV HO1) gb325 (Nat.le_of_eq hg.symm)) hb); have n1_ := zA0 (Kd.V_below (Kd.V_elderB (zV HO317) gb325 (Nat.le_of_eq hg.symm)) hb); have n2_ := zA0 (Kd.N_below (Kd.N_elderB (zN HO320) gb325 (Nat.le_of_eq hg.symm)) hb); have n3_ := zA0 (Kd.R_below (zR HO323) hb); have n4_ := zA0 (below_step (zB HB) hb); have n5_ := zA0 (hbox); have n6_ := zA0 ((by rw [hg]; exact (below_size (zB HB)) : w.heap.size ≤ gb325)); have n7_ := zA0 ((by rw [hg]; exact (below_size (zB HB)) : w.heap.size ≤ gb325)); replace HO1 := n0_; replace HO317 := n1_; replace HO320 := n2_; replace HO323 := n3_; replace HB := n4_; have BK325 := n5_; have GW325 := n6_; have GE325 := n7_; clear n0_ n1_ n2_ n3_ n4_ n5_ n6_ n7_; clear hb hbox hg; have hcz24_0 : w23.cell? ⟨gb325, 0, none⟩ = some (.int .i64 0) := (blk_cell BK325.out 0).trans rfl; have hcz24_1 : w23.cell? ⟨gb325, 1, none⟩ = some (.slice none 0 0) := (blk_cell BK325.out 1).trans rfl; have hcz24_2 : w23.cell? ⟨gb325, 2, none⟩ = some (.slice none 0 0) := (blk_cell BK325.out 2).trans rfl; have hcz24_3 : w23.cell? ⟨gb325, 3, none⟩ = some (.slice none 0 0) := (blk_cell BK325.out 3).trans rfl; have hfz24_0 := blk_frozen BK325.out 0; have hfz24_1 := blk_frozen BK325.out 1; have hfz24_2 := blk_frozen BK325.out 2; have hfz24_3 := blk_frozen BK325.out 3; obtain ⟨Ao25, co25, eo25⟩ := Kd.V_slice HO317.out; subst eo25; obtain ⟨Ao26, co26, eo26⟩ := Kd.N_slice HO320.out; subst eo26; obtain ⟨Ao27, co27, eo27⟩ := Kd.R_slice HO323.out; subst eo27))
  go_ret2
  exact ⟨_, by first | rfl | (simp [errW_none, errW_some] <;> rfl) | (simp [*, errW_none, errW_some] <;> rfl), by first | exact Kd.S_nil _ _ _ _ _ | exact Kd.N_nil _ _ _ _ _ | exact Kd.V_nil _ _ _ _ _ | exact Kd.Q_nil _ _ _ _ _ | exact Kd.R_nil _ _ _ _ _, by repeat (first | (with_reducible first | exact HB.out | apply zpA | apply zpN | apply zpD | refine below_set ?_ GE325.out) | exact HB.out)⟩
def impl_IsFull.f (k : Nat) (a0 : Int) (l1 : List Int) (a2 : Int) : Option (Bool × Bool) := (impl_houseOf.f k a0 l1).bind fun bt353 => (if bt353.2.2.2.2 = true then ((impl_isCell.f a0 a2).bind fun t365 => (if t365 = true then ((impl_house_isFull.f bt353.1 bt353.2.1 bt353.2.2.1 bt353.2.2.2.1 a2).bind fun t366 => (some (t366, true))) else (some (false, false)))) else (some (false, false)))
set_option maxHeartbeats 8000000 in
set_option maxRecDepth 100000 in
theorem impl_IsFull.calls (k : Nat) (a0 : Int) (A1 : Option Addr) (c1 : Nat) (l1 : List Int) (a2 : Int) (r1 : Bool) (r2 : Bool) (w : World) (hr1 : Kd.C (Kd.int .i64) w A1 l1.length l1) (hc1 : l1.length ≤ c1) (h : impl_IsFull.f k a0 l1 a2 = some (r1, r2)) :
  Calls Try.prog 80 #[.int .i64 a0, .slice A1 l1.length c1, .int .i64 a2] w fun e w' => e = .returned (.tuple #[.bool r1, .bool r2]) ∧ Below w.heap.size w w' := by
 have hu132 := Try.underlying132
 have HR1 := zA0 hr1
 have HC1 := zA0 hc1
 clear hr1 hc1
 have HB := zA0 (Below.refl w.heap.size w)
 have H : ((impl_houseOf.f k a0 l1).bind fun bt353 => (if bt353.2.2.2.2 = true then ((impl_isCell.f a0 a2).bind fun t365 => (if t365 = true then ((impl_house_isFull.f bt353.1 bt353.2.1 bt353.2.2.1 bt353.2.2.2.1 a2).bind fun t366 => (some (t366, true))) else (some (false, false)))) else (some (false, false)))) = some (r1, r2) := h
 clear h
 replace H := Option.bind_eq_some_iff.mp H
 obtain ⟨⟨t353, t354, t357, t360, t363⟩, A40, H⟩ := H
 (try dsimp only at H)
 have A4 := zA0 A40
 clear A40
 by_cases c5 : t363 = true
 ·
  subst c5
  rw [if_pos rfl] at H
  replace H := Option.bind_eq_some_iff.mp H
  obtain ⟨t365, A60, H⟩ := H
  (try dsimp only at H)
  have A6 := zA0 A60
  clear A60
  by_cases c7 : t365 = true
  ·
   subst c7
   rw [if_pos rfl] at H
   replace H := Option.bind_eq_some_iff.mp H
   obtain ⟨t366, A80, H⟩ := H
   (try dsimp only at H)
   have A8 := zA0 A80
   clear A80
   simp only [Option.some.injEq, Prod.mk.injEq] at H
   obtain ⟨rfl, rfl⟩ := H
   go_enter Try.func80, Try.ntmps80
   go_wp2_with (first | ((with_reducible refine gate_callee (f := 206) rfl ?_); refine goesL_ (some 13) rfl rfl Try.func206 (by kernel_rfl) rfl #[.int .i64 a0, .slice A1 l1.length c1] rfl (by (try simp only [List.map_toArray, List.map_cons, List.map_nil]); first | done | rfl) ?_; (with_reducible refine (impl_houseOf.calls k a0 (fun k_ => k_ < w.heap.size) _ _ l1 t353 t354 t357 t360 true _ ?side1 A4.out).mono ?_); (case side1 => exact Kd.V_mk HC1.out (Kd.F_below (Kd.C_F (Kd.heap_int .i64) HR1.out) (zB HB))); rintro e w9 ⟨v355, v358, v361, rfl, ho0, ho1, ho2, hb⟩; refine ⟨_, rfl, ?_⟩; have n0_ := zA0 (Kd.V_lower (Kd.V_mono (ok' := fun k_ => some k_ ≠ (v358 : Value).ownBlock ∧ some k_ ≠ (v361 : Value).ownBlock) ho0 (fun k_ hk_ => ⟨hk_.2.1, hk_.2.2⟩)) (below_size (zB HB))); have n1_ := zA0 (Kd.S_lower (Kd.S_mono (ok' := fun k_ => some k_ ≠ (v361 : Value).ownBlock) ho1 (fun _ hk_ => hk_.2)) (below_size (zB HB))); have n2_ := zA0 (Kd.R_lower (Kd.R_mono (ok' := fun k_ => True) ho2 (fun _ hk_ => trivial)) (below_size (zB HB))); have n3_ := zA0 (below_step (zB HB) hb); have HO356 := n0_; have HO359 := n1_; have HO362 := n2_; replace HB := n3_; clear n0_ n1_ n2_ n3_; (try clear hb); (try clear hb2); (try clear hk); (try clear hi); (try clear ho0); (try clear ho1); (try clear ho2)) | ((with_reducible refine gate_dst (N := 8) rfl ?_); refine box_event ?hg (N := 8) ?hd (cs := #[.int .i64 0, .slice none 0 0, .slice none 0 0, .slice none 0 0]) (t := 132) ?hr ?_; (case hd => rfl); (case hg => rfl); (case hr => first | (go_simp; done) | (go_simp; rfl)); intro gb364 hg w10 hbox hb; have n0_ := zA0 (Kd.V_below (Kd.V_elderB (zV HO356) gb364 (Nat.le_of_eq hg.symm)) hb); have n1_ := zA0 (Kd.S_below (zS HO359) hb); have n2_ := zA0 (Kd.R_below (zR HO362) hb); have n3_ := zA0 (below_step (zB HB) hb); have n4_ := zA0 (hbox); have n5_ := zA0 ((by rw [hg]; exact (below_size (zB HB)) : w.heap.size ≤ gb364)); have n6_ := zA0 ((by rw [hg]; exact (below_size (zB HB)) : w.heap.size ≤ gb364)); replace HO356 := n0_; replace HO359 := n1_; replace HO362 := n2_; replace HB := n3_; have BK364 := n4_; have GW364 := n5_; have GE364 := n6_; clear n0_ n1_ n2_ n3_ n4_ n5_ n6_; clear hb hbox hg; have hcz11_0 : w10.cell? ⟨gb364, 0, none⟩ = some (.int .i64 0) := (blk_cell BK364.out 0).trans rfl; have hcz11_1 : w10.cell? ⟨gb364, 1, none⟩ = some (.slice none 0 0) := (blk_cell BK364.out 1).trans rfl; have hcz11_2 : w10.cell? ⟨gb364, 2, none⟩ = some (.slice none 0 0) := (blk_cell BK364.out 2).trans rfl; have hcz11_3 : w10.cell? ⟨gb364, 3, none⟩ = some (.slice none 0 0) := (blk_cell BK364.out 3).trans rfl; have hfz11_0 := blk_frozen BK364.out 0; have hfz11_1 := blk_frozen BK364.out 1; have hfz11_2 := blk_frozen BK364.out 2; have hfz11_3 := blk_frozen BK364.out 3; obtain ⟨Ao12, co12, eo12⟩ := Kd.V_slice HO356.out; subst eo12; obtain ⟨Ao13, co13, eo13⟩ := Kd.S_slice HO359.out; subst eo13; obtain ⟨Ao14, co14, eo14⟩ := Kd.R_slice HO362.out; subst eo14) | (go_at_call 201; (with_reducible refine (impl_isCell.calls a0 a2 true _ A6.out).mono ?_); rintro e w' ⟨rfl, ⟨nd, rfl⟩⟩) | ((with_reducible refine gate_callee (f := 210) rfl ?_); refine goesL_ (some 26) rfl rfl Try.func210 (by kernel_rfl) rfl #[.agg #[.int .i64 t353, .slice Ao12 t354.length co12, .slice Ao13 t357.length co13, .slice Ao14 t360.length co14], .int .i64 a2] rfl (by (try simp only [List.map_toArray, List.map_cons, List.map_nil]); first | done | rfl) ?_; (with_reducible refine (impl_house_isFull.calls t353 _ _ t354 _ _ t357 _ _ t360 a2 t366 _ ?side1 ?side2 ?side3 ?side4 ?side5 ?side6 A8.out).mono ?_); (case side1 => refine (Kd.V_reads' (e := 3) (base := w.heap.size) (ok := fun k_ => ((some k_ ≠ (.slice Ao13 t357.length co13 : Value).ownBlock ∧ some k_ ≠ (.slice Ao14 t360.length co14 : Value).ownBlock) ∧ k_ ≠ gb364)) (n := t354.length) (c := co12) ?_).2.2; exact (by (with_reducible repeat (first | apply Kd.V_alloc | apply Kd.V_drewN | apply Kd.V_drew)); exact (Kd.V_mono (Kd.V_far (p := ⟨gb364, 3, none⟩) (Kd.V_far (p := ⟨gb364, 2, none⟩) (Kd.V_far (p := ⟨gb364, 1, none⟩) (Kd.V_far (p := ⟨gb364, 0, none⟩) (Kd.V_mono HO356.out (fun k_ hk => (⟨hk, hk.2⟩ : _ ∧ k_ ≠ gb364))) (fun _ hk => hk.2) (.int .i64 t353)) (fun _ hk => hk.2) (.slice Ao12 t354.length co12)) (fun _ hk => hk.2) (.slice Ao13 t357.length co13)) (fun _ hk => hk.2) (.slice Ao14 t360.length co14)) (fun _ h_ => h_.1)))); (case side2 => exact (Kd.V_reads' HO356.out).2.1); (case side3 => refine (Kd.S_reads' (e := 22) (base := w.heap.size) (ok := fun k_ => some k_ ≠ (.slice Ao14 t360.length co14 : Value).ownBlock) (n := t357.length) (c := co13) ?_).2.2; exact (by (with_reducible repeat (first | apply zsA | apply zsN | apply zsD)); exact (Kd.S_mono (Kd.S_far (p := ⟨gb364, 3, none⟩) (Kd.S_far (p := ⟨gb364, 2, none⟩) (Kd.S_far (p := ⟨gb364, 1, none⟩) (Kd.S_far (p := ⟨gb364, 0, none⟩) (Kd.S_types HO359.out BK364.out (by decide)) (fun _ hk => hk.2) (.int .i64 t353)) (fun _ hk => hk.2) (.slice Ao12 t354.length co12)) (fun _ hk => hk.2) (.slice Ao13 t357.length co13)) (fun _ hk => hk.2) (.slice Ao14 t360.length co14)) (fun _ h_ => h_.1)))); (case side4 => exact (Kd.S_reads' HO359.out).2.1); (case side5 => refine (Kd.R_reads' (e := 3) (base := w.heap.size) (ok := fun k_ => True) (n := t360.length) (c := co14) ?_).2.2; exact (by (with_reducible repeat (first | apply zrA | apply zrN | apply zrD)); exact (Kd.R_mono (Kd.R_far (p := ⟨gb364, 3, none⟩) (Kd.R_far (p := ⟨gb364, 2, none⟩) (Kd.R_far (p := ⟨gb364, 1, none⟩) (Kd.R_far (p := ⟨gb364, 0, none⟩) (Kd.R_types HO362.out BK364.out (by decide)) (fun _ hk => hk.2) (.int .i64 t353)) (fun _ hk => hk.2) (.slice Ao12 t354.length co12)) (fun _ hk => hk.2) (.slice Ao13 t357.length co13)) (fun _ hk => hk.2) (.slice Ao14 t360.length co14)) (fun _ h_ => h_.1)))); (case side6 => exact (Kd.R_reads' HO362.out).2.1); rintro e w15 ⟨rfl, hb⟩; refine ⟨_, rfl, ?_⟩; have n0_ := zA0 (Kd.V_below (by (with_reducible repeat (first | apply Kd.V_alloc | apply Kd.V_drewN | apply Kd.V_drew)); exact (Kd.V_mono (Kd.V_far (p := ⟨gb364, 3, none⟩) (Kd.V_far (p := ⟨gb364, 2, none⟩) (Kd.V_far (p := ⟨gb364, 1, none⟩) (Kd.V_far (p := ⟨gb364, 0, none⟩) (Kd.V_mono HO356.out (fun k_ hk => (⟨hk, hk.2⟩ : _ ∧ k_ ≠ gb364))) (fun _ hk => hk.2) (.int .i64 t353)) (fun _ hk => hk.2) (.slice Ao12 t354.length co12)) (fun _ hk => hk.2) (.slice Ao13 t357.length co13)) (fun _ hk => hk.2) (.slice Ao14 t360.length co14)) (fun _ h_ => h_.1))) hb); have n1_ := zA0 (Kd.S_below (by (with_reducible repeat (first | apply zsA | apply zsN | apply zsD)); exact (Kd.S_mono (Kd.S_far (p := ⟨gb364, 3, none⟩) (Kd.S_far (p := ⟨gb364, 2, none⟩) (Kd.S_far (p := ⟨gb364, 1, none⟩) (Kd.S_far (p := ⟨gb364, 0, none⟩) (Kd.S_types HO359.out BK364.out (by decide)) (fun _ hk => hk.2) (.int .i64 t353)) (fun _ hk => hk.2) (.slice Ao12 t354.length co12)) (fun _ hk => hk.2) (.slice Ao13 t357.length co13)) (fun _ hk => hk.2) (.slice Ao14 t360.length co14)) (fun _ h_ => h_.1))) hb); have n2_ := zA0 (Kd.R_below (by (with_reducible repeat (first | apply zrA | apply zrN | apply zrD)); exact (Kd.R_mono (Kd.R_far (p := ⟨gb364, 3, none⟩) (Kd.R_far (p := ⟨gb364, 2, none⟩) (Kd.R_far (p := ⟨gb364, 1, none⟩) (Kd.R_far (p := ⟨gb364, 0, none⟩) (Kd.R_types HO362.out BK364.out (by decide)) (fun _ hk => hk.2) (.int .i64 t353)) (fun _ hk => hk.2) (.slice Ao12 t354.length co12)) (fun _ hk => hk.2) (.slice Ao13 t357.length co13)) (fun _ hk => hk.2) (.slice Ao14 t360.length co14)) (fun _ h_ => h_.1))) hb); have n3_ := zA0 (blk_below (g := gb364) (o := .cells #[.int .i64 t353, .slice Ao12 t354.length co12, .slice Ao13 t357.length co13, .slice Ao14 t360.length co14] 132 (0, 0)) (by (with_reducible repeat (first | refine blk_drewN ?_ _ | refine blk_drew ?_ | refine blk_alloc ?_ _)); refine blk_put (cs := #[.int .i64 t353, .slice Ao12 t354.length co12, .slice Ao13 t357.length co13, .slice none 0 0]) ?_ 3 _ rfl; (with_reducible repeat (first | refine blk_drewN ?_ _ | refine blk_drew ?_ | refine blk_alloc ?_ _)); refine blk_put (cs := #[.int .i64 t353, .slice Ao12 t354.length co12, .slice none 0 0, .slice none 0 0]) ?_ 2 _ rfl; (with_reducible repeat (first | refine blk_drewN ?_ _ | refine blk_drew ?_ | refine blk_alloc ?_ _)); refine blk_put (cs := #[.int .i64 t353, .slice none 0 0, .slice none 0 0, .slice none 0 0]) ?_ 1 _ rfl; (with_reducible repeat (first | refine blk_drewN ?_ _ | refine blk_drew ?_ | refine blk_alloc ?_ _)); refine blk_put (cs := #[.int .i64 0, .slice none 0 0, .slice none 0 0, .slice none 0 0]) ?_ 0 _ rfl; (with_reducible repeat (first | refine blk_drewN ?_ _ | refine blk_drew ?_ | refine blk_alloc ?_ _)); exact BK364.out) hb); have n4_ := zA0 (below_step (by repeat (first | (with_reducible first | exact HB.out | apply zpA | apply zpN | apply zpD | refine below_set ?_ GE364.out) | exact HB.out)) hb); replace HO356 := n0_; replace HO359 := n1_; replace HO362 := n2_; replace BK364 := n3_; replace HB := n4_; clear n0_ n1_ n2_ n3_ n4_; (try clear hb); (try clear hb2); (try clear hk); (try clear hi)))
   go_ret2
   exact ⟨by first | rfl | (simp [errW_none, errW_some] <;> rfl) | (simp [*, errW_none, errW_some] <;> rfl), by repeat (first | (with_reducible first | exact HB.out | apply zpA | apply zpN | apply zpD | refine below_set ?_ GE364.out) | exact HB.out)⟩
  ·
   replace c7 := Bool.eq_false_iff.mpr c7
   subst c7
   rw [if_neg (show ¬ (false = true) by decide)] at H
   simp only [Option.some.injEq, Prod.mk.injEq] at H
   obtain ⟨rfl, rfl⟩ := H
   go_enter Try.func80, Try.ntmps80
   go_wp2_with (first | ((with_reducible refine gate_callee (f := 206) rfl ?_); refine goesL_ (some 13) rfl rfl Try.func206 (by kernel_rfl) rfl #[.int .i64 a0, .slice A1 l1.length c1] rfl (by (try simp only [List.map_toArray, List.map_cons, List.map_nil]); first | done | rfl) ?_; (with_reducible refine (impl_houseOf.calls k a0 (fun k_ => k_ < w.heap.size) _ _ l1 t353 t354 t357 t360 true _ ?side1 A4.out).mono ?_); (case side1 => exact Kd.V_mk HC1.out (Kd.F_below (Kd.C_F (Kd.heap_int .i64) HR1.out) (zB HB))); rintro e w16 ⟨v355, v358, v361, rfl, ho0, ho1, ho2, hb⟩; refine ⟨_, rfl, ?_⟩; have n0_ := zA0 (Kd.V_lower (Kd.V_mono (ok' := fun k_ => some k_ ≠ (v358 : Value).ownBlock ∧ some k_ ≠ (v361 : Value).ownBlock) ho0 (fun k_ hk_ => ⟨hk_.2.1, hk_.2.2⟩)) (below_size (zB HB))); have n1_ := zA0 (Kd.S_lower (Kd.S_mono (ok' := fun k_ => some k_ ≠ (v361 : Value).ownBlock) ho1 (fun _ hk_ => hk_.2)) (below_size (zB HB))); have n2_ := zA0 (Kd.R_lower (Kd.R_mono (ok' := fun k_ => True) ho2 (fun _ hk_ => trivial)) (below_size (zB HB))); have n3_ := zA0 (below_step (zB HB) hb); have HO356 := n0_; have HO359 := n1_; have HO362 := n2_; replace HB := n3_; clear n0_ n1_ n2_ n3_; (try clear hb); (try clear hb2); (try clear hk); (try clear hi); (try clear ho0); (try clear ho1); (try clear ho2)) | ((with_reducible refine gate_dst (N := 8) rfl ?_); refine box_event ?hg (N := 8) ?hd (cs := #[.int .i64 0, .slice none 0 0, .slice none 0 0, .slice none 0 0]) (t := 132) ?hr ?_; (case hd => rfl); (case hg => rfl); (case hr => first | (go_simp; done) | (go_simp; rfl)); intro gb364 hg w17 hbox hb; have n0_ := zA0 (Kd.V_below (Kd.V_elderB (zV HO356) gb364 (Nat.le_of_eq hg.symm)) hb); have n1_ := zA0 (Kd.S_below (zS HO359) hb); have n2_ := zA0 (Kd.R_below (zR HO362) hb); have n3_ := zA0 (below_step (zB HB) hb); have n4_ := zA0 (hbox); have n5_ := zA0 ((by rw [hg]; exact (below_size (zB HB)) : w.heap.size ≤ gb364)); have n6_ := zA0 ((by rw [hg]; exact (below_size (zB HB)) : w.heap.size ≤ gb364)); replace HO356 := n0_; replace HO359 := n1_; replace HO362 := n2_; replace HB := n3_; have BK364 := n4_; have GW364 := n5_; have GE364 := n6_; clear n0_ n1_ n2_ n3_ n4_ n5_ n6_; clear hb hbox hg; have hcz18_0 : w17.cell? ⟨gb364, 0, none⟩ = some (.int .i64 0) := (blk_cell BK364.out 0).trans rfl; have hcz18_1 : w17.cell? ⟨gb364, 1, none⟩ = some (.slice none 0 0) := (blk_cell BK364.out 1).trans rfl; have hcz18_2 : w17.cell? ⟨gb364, 2, none⟩ = some (.slice none 0 0) := (blk_cell BK364.out 2).trans rfl; have hcz18_3 : w17.cell? ⟨gb364, 3, none⟩ = some (.slice none 0 0) := (blk_cell BK364.out 3).trans rfl; have hfz18_0 := blk_frozen BK364.out 0; have hfz18_1 := blk_frozen BK364.out 1; have hfz18_2 := blk_frozen BK364.out 2; have hfz18_3 := blk_frozen BK364.out 3; obtain ⟨Ao19, co19, eo19⟩ := Kd.V_slice HO356.out; subst eo19; obtain ⟨Ao20, co20, eo20⟩ := Kd.S_slice HO359.out; subst eo20; obtain ⟨Ao21, co21, eo21⟩ := Kd.R_slice HO362.out; subst eo21) | (go_at_call 201; (with_reducible refine (impl_isCell.calls a0 a2 false _ A6.out).mono ?_); rintro e w' ⟨rfl, ⟨nd, rfl⟩⟩))
   go_ret2
   exact ⟨by first | rfl | (simp [errW_none, errW_some] <;> rfl) | (simp [*, errW_none, errW_some] <;> rfl), by repeat (first | (with_reducible first | exact HB.out | apply zpA | apply zpN | apply zpD | refine below_set ?_ GE364.out) | exact HB.out)⟩
 ·
  replace c5 := Bool.eq_false_iff.mpr c5
  subst c5
  rw [if_neg (show ¬ (false = true) by decide)] at H
  simp only [Option.some.injEq, Prod.mk.injEq] at H
  obtain ⟨rfl, rfl⟩ := H
  go_enter Try.func80, Try.ntmps80
  go_wp2_with (first | ((with_reducible refine gate_callee (f := 206) rfl ?_); refine goesL_ (some 13) rfl rfl Try.func206 (by kernel_rfl) rfl #[.int .i64 a0, .slice A1 l1.length c1] rfl (by (try simp only [List.map_toArray, List.map_cons, List.map_nil]); first | done | rfl) ?_; (with_reducible refine (impl_houseOf.calls k a0 (fun k_ => k_ < w.heap.size) _ _ l1 t353 t354 t357 t360 false _ ?side1 A4.out).mono ?_); (case side1 => exact Kd.V_mk HC1.out (Kd.F_below (Kd.C_F (Kd.heap_int .i64) HR1.out) (zB HB))); rintro e w22 ⟨v355, v358, v361, rfl, ho0, ho1, ho2, hb⟩; refine ⟨_, rfl, ?_⟩; have n0_ := zA0 (Kd.V_lower (Kd.V_mono (ok' := fun k_ => some k_ ≠ (v358 : Value).ownBlock ∧ some k_ ≠ (v361 : Value).ownBlock) ho0 (fun k_ hk_ => ⟨hk_.2.1, hk_.2.2⟩)) (below_size (zB HB))); have n1_ := zA0 (Kd.S_lower (Kd.S_mono (ok' := fun k_ => some k_ ≠ (v361 : Value).ownBlock) ho1 (fun _ hk_ => hk_.2)) (below_size (zB HB))); have n2_ := zA0 (Kd.R_lower (Kd.R_mono (ok' := fun k_ => True) ho2 (fun _ hk_ => trivial)) (below_size (zB HB))); have n3_ := zA0 (below_step (zB HB) hb); have HO356 := n0_; have HO359 := n1_; have HO362 := n2_; replace HB := n3_; clear n0_ n1_ n2_ n3_; (try clear hb); (try clear hb2); (try clear hk); (try clear hi); (try clear ho0); (try clear ho1); (try clear ho2)) | ((with_reducible refine gate_dst (N := 8) rfl ?_); refine box_event ?hg (N := 8) ?hd (cs := #[.int .i64 0, .slice none 0 0, .slice none 0 0, .slice none 0 0]) (t := 132) ?hr ?_; (case hd => rfl); (case hg => rfl); (case hr => first | (go_simp; done) | (go_simp; rfl)); intro gb364 hg w23 hbox hb; have n0_ := zA0 (Kd.V_below (Kd.V_elderB (zV HO356) gb364 (Nat.le_of_eq hg.symm)) hb); have n1_ := zA0 (Kd.S_below (zS HO359) hb); have n2_ := zA0 (Kd.R_below (zR HO362) hb); have n3_ := zA0 (below_step (zB HB) hb); have n4_ := zA0 (hbox); have n5_ := zA0 ((by rw [hg]; exact (below_size (zB HB)) : w.heap.size ≤ gb364)); have n6_ := zA0 ((by rw [hg]; exact (below_size (zB HB)) : w.heap.size ≤ gb364)); replace HO356 := n0_; replace HO359 := n1_; replace HO362 := n2_; replace HB := n3_; have BK364 := n4_; have GW364 := n5_; have GE364 := n6_; clear n0_ n1_ n2_ n3_ n4_ n5_ n6_; clear hb hbox hg; have hcz24_0 : w23.cell? ⟨gb364, 0, none⟩ = some (.int .i64 0) := (blk_cell BK364.out 0).trans rfl; have hcz24_1 : w23.cell? ⟨gb364, 1, none⟩ = some (.slice none 0 0) := (blk_cell BK364.out 1).trans rfl; have hcz24_2 : w23.cell? ⟨gb364, 2, none⟩ = some (.slice none 0 0) := (blk_cell BK364.out 2).trans rfl; have hcz24_3 : w23.cell? ⟨gb364, 3, none⟩ = some (.slice none 0 0) := (blk_cell BK364.out 3).trans rfl; have hfz24_0 := blk_frozen BK364.out 0; have hfz24_1 := blk_frozen BK364.out 1; have hfz24_2 := blk_frozen BK364.out 2; have hfz24_3 := blk_frozen BK364.out 3; obtain ⟨Ao25, co25, eo25⟩ := Kd.V_slice HO356.out; subst eo25; obtain ⟨Ao26, co26, eo26⟩ := Kd.S_slice HO359.out; subst eo26; obtain ⟨Ao27, co27, eo27⟩ := Kd.R_slice HO362.out; subst eo27))
  go_ret2
  exact ⟨by first | rfl | (simp [errW_none, errW_some] <;> rfl) | (simp [*, errW_none, errW_some] <;> rfl), by repeat (first | (with_reducible first | exact HB.out | apply zpA | apply zpN | apply zpD | refine below_set ?_ GE364.out) | exact HB.out)⟩
end Go.Proofs.Ytckiebdehlcjoaa.P
namespace Go.Proofs.Ytckiebdehlcjoaa.P
open Go.Proofs.Ytckiebdehlcjoaa.Own
open Go.RowKit Go.Proofs.YtckiebdehlcjoaaW.PrintWords Go.Proofs.YtckiebdehlcjoaaW.PrintLast Go.Proofs.YtckiebdehlcjoaaW.PrintMore
attribute [local go_sem] max2_int min2_int max_two min_two max_three min_three max_four min_four   -- for this text's walks alone
set_option linter.unusedVariables false
set_option linter.unusedSimpArgs false
def impl_house_leave.T2 : Bool × List (List Nat × List Nat) := (true, [([], []), ([], []), ([], []), ([], []), ([1, 2, 3], [1, 2, 3]), ([], []), ([0, 4, 5, 4], [0, 4, 5]), ([6], [6]), ([7], [7]), ([7], [7]), ([7], [7]), ([8, 6, 0, 1, 2, 3, 4, 5, 6, 7, 8], [8]), ([9, 11, 0, 1, 2, 3, 4, 5, 6, 7, 8, 9, 11], [9]), ([10, 12, 0, 1, 2, 3, 4, 5, 6, 7, 8, 9, 10, 11, 12], [10])])
def impl_house_leave.B2 : List Nat := [0, 0, 0, 0, 14, 0, 63, 127, 255, 255, 255, 511, 3071, 8191]
theorem impl_house_leave.tab2 : rtab .any (opsOf Try.f271 2) = impl_house_leave.T2 := by kernel_rfl
theorem impl_house_leave.bits2 : waitsOk impl_house_leave.T2.2 impl_house_leave.B2 = true := by kernel_rfl
end Go.Proofs.Ytckiebdehlcjoaa.P
namespace Go.Proofs.Ytckiebdehlcjoaa.Own
open Go.RowKit Go.Proofs.YtckiebdehlcjoaaW.PrintWords Go.Proofs.YtckiebdehlcjoaaW.PrintLast Go.Proofs.YtckiebdehlcjoaaW.PrintMore
set_option linter.unusedVariables false
set_option linter.unusedSimpArgs false
/-- what the row holds in the round j, i elements being kept -/
structure DelInv (q : Int → Bool) (l : List Int) (i j : Nat) (cur : List Int) : Prop where
  len : cur.length = l.length
  lt : i < j
  le : j ≤ l.length
  low : cur.take i = (l.take j).filter q
  high : cur.drop j = l.drop j
theorem take_rd (l : List Int) (j : Nat) (h : j < l.length) : l.take (j + 1) = l.take j ++ [rd l j] := by
  rw [List.take_add_one, List.getElem?_eq_getElem h]
  unfold rd
  rw [List.getD_eq_getElem?_getD, Int.toNat_natCast, List.getElem?_eq_getElem h]; rfl
theorem DelInv.at_ {q : Int → Bool} {l : List Int} {i j : Nat} {cur : List Int} (h : DelInv q l i j cur) (hj : j < l.length) : rd cur j = rd l j := by
  have e : (cur.drop j)[0]? = (l.drop j)[0]? := by rw [h.high]
  rw [List.getElem?_drop, List.getElem?_drop, Nat.add_zero] at e
  unfold rd
  rw [List.getD_eq_getElem?_getD, List.getD_eq_getElem?_getD, Int.toNat_natCast, e]
theorem DelInv.keep {q : Int → Bool} {l : List Int} {i j : Nat} {cur : List Int} (h : DelInv q l i j cur) (hj : j < l.length) (hq : q (rd l j) = true) : DelInv q l (i + 1) (j + 1) (cur.set i (rd l j)) := by
  have h1 := h.lt
  refine ⟨by rw [List.length_set, h.len], by omega, by omega, ?_, ?_⟩
  · rw [take_rd l j hj, List.filter_append, ← h.low]
    rw [take_rd _ i (by rw [List.length_set, h.len]; omega), List.take_set_of_le (Nat.le_refl i)]
    congr 1
    have e : rd (cur.set i (rd l j)) (i : Int) = rd l j := by
      generalize rd l (j : Int) = u
      unfold rd
      rw [List.getD_eq_getElem?_getD, Int.toNat_natCast, List.getElem?_set_self (by rw [h.len]; omega)]; rfl
    rw [e]
    simp [hq]
  · rw [List.drop_set_of_lt (by omega), ← List.drop_drop, h.high, List.drop_drop]
theorem DelInv.skip {q : Int → Bool} {l : List Int} {i j : Nat} {cur : List Int} (h : DelInv q l i j cur) (hj : j < l.length) (hq : q (rd l j) = false) : DelInv q l i (j + 1) cur := by
  have h1 := h.lt
  refine ⟨h.len, by omega, by omega, ?_, ?_⟩
  · rw [take_rd l j hj, List.filter_append, ← h.low]
    simp [hq]
  · rw [← List.drop_drop, h.high, List.drop_drop]
theorem own_cleared {W : World} {base g c i : Nat} {e : TypeId} {vs us : List Value} (h : W.ownsRow base e 1 (.slice (some ⟨g, 0, none⟩) vs.length c) vs.length vs) (hi : i + us.length ≤ vs.length) (hn : 0 < vs.length) :
    (W.setCells g i us).ownsRow base e 1 (.slice (some ⟨g, 0, none⟩) i c) i (vs.take i) ∧ W.grownBy (W.setCells g i us) (some g) := by
  obtain ⟨h1, h2⟩ := h
  rcases h2 with ⟨he, h0⟩ | ⟨g', cap, cur, he, hb, hh, hnc, hcm, hcs, ht⟩
  · omega
  · injection he with ha _ hc
    injection ha with ha
    injection ha with ha
    subst ha; subst hc
    have hsz : i + us.length ≤ cur.size := by rw [hcs]; omega
    obtain ⟨cur', k1, k2, k3⟩ := setCells_row us i W cur hh hsz
    obtain ⟨s1, s2, s3, s4⟩ := setCells_same g us i W
    refine ⟨⟨by rw [List.length_take]; omega, .inr ⟨g, c, cur', rfl, hb, k1, by omega, hcm, by rw [k2, hcs], ?_⟩⟩, s1, s2, s3, Nat.le_of_eq s4.symm, fun k _ hk => setCells_far us i k (fun e => hk (by rw [e]))⟩
    rw [k3, Nat.mul_one, List.append_assoc, List.take_append_of_le_length (by rw [List.length_take, Array.length_toList]; omega), List.take_take, Nat.min_self]
    rw [← ht, Nat.mul_one, List.take_take, Nat.min_eq_left (by omega)]
end Go.Proofs.Ytckiebdehlcjoaa.Own
