/- A part of the proof of the law FnDoorsOfRooms. -/
import Derived.Test.YtckiebdehlcjoaaTFnDoorsOfRooms11
namespace Go.Proofs.Ytckiebdehlcjoaa.P
open Go.Proofs.Ytckiebdehlcjoaa.Own
open Go.RowKit Go.Proofs.YtckiebdehlcjoaaW.PrintWords Go.Proofs.YtckiebdehlcjoaaW.PrintLast Go.Proofs.YtckiebdehlcjoaaW.PrintMore
attribute [local go_sem] max2_int min2_int max_two min_two max_three min_three max_four min_four   -- for this text's walks alone
set_option linter.unusedVariables false
set_option linter.unusedSimpArgs false
mutual
def impl_DoorsOf.l0 : Nat → List (List Int) → List (S109) → List (S109) → Int → Int → Int → List Int → List (List Int) → List Int → Option ((List (List Int)) × Bool)
  | 0, _, _, _, _, _, _, _, _, _ => none
  | k + 1, x8, x9, x24, x25, x26, x274000, x274001, x274002, x274003 => if x26 < x25 then (if 0 ≤ x26 then (if x26 < (x24.length : Int) then (impl_DoorsOf.l1 k x8 x9 x26 (wrap64 (x26 + 1)) x24 x25 x26 x274000 x274001 x274002 x274003 ((rd_T109 x24 x26).f0) ((rd_T109 x24 x26).f1) ((rd_T109 x24 x26).f2)) else (none)) else (none)) else (some (x8, true))
def impl_DoorsOf.l1 : Nat → List (List Int) → List (S109) → Int → Int → List (S109) → Int → Int → Int → List Int → List (List Int) → List Int → Int → Int → Int → Option ((List (List Int)) × Bool)
  | 0, _, _, _, _, _, _, _, _, _, _, _, _, _, _ => none
  | k + 1, x8, x9, x10, x12, x24, x25, x26, x274000, x274001, x274002, x274003, x282000, x282001, x282002 => if x12 < (x9.length : Int) then (if 0 ≤ x12 then ((impl_near.f k x282000 x282001 x282002 ((rd_T109 x9 x12).f0) ((rd_T109 x9 x12).f1) ((rd_T109 x9 x12).f2)).bind fun t283 => (if t283 = true then ((impl_house_isDoor.f x274000 x274001 x274002 x274003 x10 x12).bind fun t284 => (if t284 = true then (if x8.length < 5864062014805 then (impl_DoorsOf.l1 k (x8 ++ [(([x10, x12] : List Int))]) x9 x10 (wrap64 (x12 + 1)) x24 x25 x26 x274000 x274001 x274002 x274003 x282000 x282001 x282002) else (none)) else (impl_DoorsOf.l1 k x8 x9 x10 (wrap64 (x12 + 1)) x24 x25 x26 x274000 x274001 x274002 x274003 x282000 x282001 x282002))) else (impl_DoorsOf.l1 k x8 x9 x10 (wrap64 (x12 + 1)) x24 x25 x26 x274000 x274001 x274002 x274003 x282000 x282001 x282002))) else (none)) else (impl_DoorsOf.l0 k x8 x9 x24 x25 (wrap64 (x26 + 1)) x274000 x274001 x274002 x274003)
end
def impl_DoorsOf.f (k : Nat) (a0 : Int) (l1 : List Int) : Option ((List (List Int)) × Bool) := (impl_houseOf.f k a0 l1).bind fun bt262 => (if bt262.2.2.2.2 = true then ((impl_points.f k a0).bind fun t277 => (impl_DoorsOf.l0 k (([] : List (List Int))) t277 t277 (t277.length : Int) 0 bt262.1 bt262.2.1 bt262.2.2.1 bt262.2.2.2.1)) else (some (([] : List (List Int)), false)))
def impl_DoorsOf.T11 : Bool × List (List Nat × List Nat) := (true, [([], []), ([], []), ([], []), ([1, 2], [1, 2]), ([3], [3]), ([0, 4], [0, 4]), ([5, 5], [5]), ([6], [6]), ([6], [6]), ([6], [6]), ([7, 8, 9, 6, 6], [6, 7, 8, 9]), ([6, 10], [6, 10])])
def impl_DoorsOf.B11 : List Nat := [0, 0, 0, 6, 14, 31, 63, 127, 127, 127, 1023, 2047]
theorem impl_DoorsOf.tab11 : rtab .any (opsOf Try.f84 11) = impl_DoorsOf.T11 := by kernel_rfl
theorem impl_DoorsOf.bits11 : waitsOk impl_DoorsOf.T11.2 impl_DoorsOf.B11 = true := by kernel_rfl
set_option maxHeartbeats 8000000 in
set_option maxRecDepth 100000 in
theorem impl_DoorsOf.calls (k : Nat) (a0 : Int) (A1 : Option Addr) (c1 : Nat) (l1 : List Int) (r1 : List (List Int)) (r2 : Bool) (w : World) (hr1 : Kd.C (Kd.int .i64) w A1 l1.length l1) (hc1 : l1.length ≤ c1) (h : impl_DoorsOf.f k a0 l1 = some (r1, r2)) :
  Calls Try.prog 84 #[.int .i64 a0, .slice A1 l1.length c1] w fun e w' => ∃ v0_ : Value, e = .returned (.tuple #[v0_, .bool r2]) ∧ Kd.S (Kd.slice 3 (Kd.int .i64)) 22 w' w.heap.size (fun _ => True) v0_ r1 ∧ Below w.heap.size w w' := by
 have hu132 := Try.underlying132
 have hu109 := Try.underlying109
 have HR1 := zA0 hr1
 have HC1 := zA0 hc1
 clear hr1 hc1
 have HB := zA0 (Below.refl w.heap.size w)
 have H : ((impl_houseOf.f k a0 l1).bind fun bt262 => (if bt262.2.2.2.2 = true then ((impl_points.f k a0).bind fun t277 => (impl_DoorsOf.l0 k (([] : List (List Int))) t277 t277 (t277.length : Int) 0 bt262.1 bt262.2.1 bt262.2.2.1 bt262.2.2.2.1)) else (some (([] : List (List Int)), false)))) = some (r1, r2) := h
 clear h
 replace H := Option.bind_eq_some_iff.mp H
 obtain ⟨⟨t262, t263, t266, t269, t272⟩, A30, H⟩ := H
 (try dsimp only at H)
 have A3 := zA0 A30
 clear A30
 by_cases c4 : t272 = true
 ·
  subst c4
  rw [if_pos rfl] at H
  obtain ⟨y274, hy274⟩ : ∃ y_ : List (List Int), y_ = (([] : List (List Int))) := ⟨_, rfl⟩
  replace H : ((impl_points.f k a0).bind fun t277 => (impl_DoorsOf.l0 k y274 t277 t277 (t277.length : Int) 0 t262 t263 t266 t269)) = some (r1, r2) := by first | (rw [hy274]; with_reducible exact H) | (have H2_ := (Option.bind_some _ _).symm.trans H; rw [hy274]; with_reducible exact H2_) | (have H2_ := (Option.bind_some _ _).symm.trans H; with_reducible exact H2_) | with_reducible exact H | (rw [hy274]; exact H) | exact H
  have Ny274 := zA0 hy274
  clear hy274
  replace H := Option.bind_eq_some_iff.mp H
  obtain ⟨t277, A50, H⟩ := H
  (try dsimp only at H)
  have A5 := zA0 A50
  clear A50
  have H' := zA0 H
  clear H
  go_enter Try.func84, Try.ntmps84
  go_wp2_with (first | ((with_reducible refine gate_callee (f := 206) rfl ?_); refine goesL_ (some 16) rfl rfl Try.func206 (by kernel_rfl) rfl #[.int .i64 a0, .slice A1 l1.length c1] rfl (by (try simp only [List.map_toArray, List.map_cons, List.map_nil]); first | done | rfl) ?_; (with_reducible refine (impl_houseOf.calls k a0 (fun k_ => k_ < w.heap.size) _ _ l1 t262 t263 t266 t269 true _ ?side1 A3.out).mono ?_); (case side1 => exact Kd.V_mk HC1.out (Kd.F_below (Kd.C_F (Kd.heap_int .i64) HR1.out) (zB HB))); rintro e w6 ⟨v264, v267, v270, rfl, ho0, ho1, ho2, hb⟩; refine ⟨_, rfl, ?_⟩; have n0_ := zA0 (Kd.V_lower (Kd.V_mono (ok' := fun k_ => some k_ ≠ (v267 : Value).ownBlock ∧ some k_ ≠ (v270 : Value).ownBlock) ho0 (fun k_ hk_ => ⟨hk_.2.1, hk_.2.2⟩)) (below_size (zB HB))); have n1_ := zA0 (Kd.S_lower (Kd.S_mono (ok' := fun k_ => some k_ ≠ (v270 : Value).ownBlock) ho1 (fun _ hk_ => hk_.2)) (below_size (zB HB))); have n2_ := zA0 (Kd.R_lower (Kd.R_mono (ok' := fun k_ => True) ho2 (fun _ hk_ => trivial)) (below_size (zB HB))); have n3_ := zA0 (below_step (zB HB) hb); have HO265 := n0_; have HO268 := n1_; have HO271 := n2_; replace HB := n3_; clear n0_ n1_ n2_ n3_; (try clear hb); (try clear hb2); (try clear hk); (try clear hi); (try clear ho0); (try clear ho1); (try clear ho2)) | ((with_reducible refine gate_dst (N := 6) rfl ?_); refine box_event ?hg (N := 6) ?hd (cs := #[.int .i64 0, .slice none 0 0, .slice none 0 0, .slice none 0 0]) (t := 132) ?hr ?_; (case hd => rfl); (case hg => rfl); (case hr => first | (go_simp; done) | (go_simp; rfl)); intro gb273 hg w7 hbox hb; have n0_ := zA0 (Kd.V_below (Kd.V_elderB (zV HO265) gb273 (Nat.le_of_eq hg.symm)) hb); have n1_ := zA0 (Kd.S_below (zS HO268) hb); have n2_ := zA0 (Kd.R_below (zR HO271) hb); have n3_ := zA0 (below_step (zB HB) hb); have n4_ := zA0 (hbox); have n5_ := zA0 ((by rw [hg]; exact (below_size (zB HB)) : w.heap.size ≤ gb273)); have n6_ := zA0 ((by rw [hg]; exact (below_size (zB HB)) : w.heap.size ≤ gb273)); replace HO265 := n0_; replace HO268 := n1_; replace HO271 := n2_; replace HB := n3_; have BK273 := n4_; have GW273 := n5_; have GE273 := n6_; clear n0_ n1_ n2_ n3_ n4_ n5_ n6_; clear hb hbox hg; have hcz8_0 : w7.cell? ⟨gb273, 0, none⟩ = some (.int .i64 0) := (blk_cell BK273.out 0).trans rfl; have hcz8_1 : w7.cell? ⟨gb273, 1, none⟩ = some (.slice none 0 0) := (blk_cell BK273.out 1).trans rfl; have hcz8_2 : w7.cell? ⟨gb273, 2, none⟩ = some (.slice none 0 0) := (blk_cell BK273.out 2).trans rfl; have hcz8_3 : w7.cell? ⟨gb273, 3, none⟩ = some (.slice none 0 0) := (blk_cell BK273.out 3).trans rfl; have hfz8_0 := blk_frozen BK273.out 0; have hfz8_1 := blk_frozen BK273.out 1; have hfz8_2 := blk_frozen BK273.out 2; have hfz8_3 := blk_frozen BK273.out 3; obtain ⟨Ao9, co9, eo9⟩ := Kd.V_slice HO265.out; subst eo9; obtain ⟨Ao10, co10, eo10⟩ := Kd.S_slice HO268.out; subst eo10; obtain ⟨Ao11, co11, eo11⟩ := Kd.R_slice HO271.out; subst eo11) | ((with_reducible refine gate_dst (N := 21) rfl ?_); refine Kd.S_lit (Kd.slice 3 (Kd.int .i64)) _ 22 ?hg (N := 21) ?hd (xs := ([] : List (List Int))) (inner := []) (ok := fun _ => True) (okp := fun _ => True) ?hr ?hp (fun _ hk => hk) trivial (Below.refl _ _) (Nat.le_refl _) (by simp) ?_; (case hd => rfl); (case hg => rfl); (case hr => first | (go_simp; done) | (go_simp; rfl)); (case hp => exact (Reps.none _ _)); intro v275 w12 ho13 hb hg_ hnew_; clear hg_ hnew_; (first | rw [← Ny274.out] at ho13 | (simp only [Int.reduceToNat] at ho13; rw [← Ny274.out] at ho13)); have n0_ := zA0 (Kd.V_elder' (by (with_reducible repeat (first | apply Kd.V_alloc | apply Kd.V_drewN | apply Kd.V_drew)); exact (Kd.V_mono (Kd.V_far (p := ⟨gb273, 3, none⟩) (Kd.V_far (p := ⟨gb273, 2, none⟩) (Kd.V_far (p := ⟨gb273, 1, none⟩) (Kd.V_far (p := ⟨gb273, 0, none⟩) (Kd.V_mono HO265.out (fun k_ hk => (⟨hk, hk.2⟩ : _ ∧ k_ ≠ gb273))) (fun _ hk => hk.2) (.int .i64 t262)) (fun _ hk => hk.2) (.slice Ao9 t263.length co9)) (fun _ hk => hk.2) (.slice Ao10 t266.length co10)) (fun _ hk => hk.2) (.slice Ao11 t269.length co11)) (fun _ h_ => h_.1))) (Kd.S_base ho13) hb); have n1_ := zA0 (Kd.S_elder' (by (with_reducible repeat (first | apply zsA | apply zsN | apply zsD)); exact (Kd.S_mono (Kd.S_far (p := ⟨gb273, 3, none⟩) (Kd.S_far (p := ⟨gb273, 2, none⟩) (Kd.S_far (p := ⟨gb273, 1, none⟩) (Kd.S_far (p := ⟨gb273, 0, none⟩) (Kd.S_types HO268.out BK273.out (by decide)) (fun _ hk => hk.2) (.int .i64 t262)) (fun _ hk => hk.2) (.slice Ao9 t263.length co9)) (fun _ hk => hk.2) (.slice Ao10 t266.length co10)) (fun _ hk => hk.2) (.slice Ao11 t269.length co11)) (fun _ h_ => h_.1))) (Kd.S_base ho13) hb); have n2_ := zA0 (Kd.R_below (by (with_reducible repeat (first | apply zrA | apply zrN | apply zrD)); exact (Kd.R_mono (Kd.R_far (p := ⟨gb273, 3, none⟩) (Kd.R_far (p := ⟨gb273, 2, none⟩) (Kd.R_far (p := ⟨gb273, 1, none⟩) (Kd.R_far (p := ⟨gb273, 0, none⟩) (Kd.R_types HO271.out BK273.out (by decide)) (fun _ hk => hk.2) (.int .i64 t262)) (fun _ hk => hk.2) (.slice Ao9 t263.length co9)) (fun _ hk => hk.2) (.slice Ao10 t266.length co10)) (fun _ hk => hk.2) (.slice Ao11 t269.length co11)) (fun _ h_ => h_.1))) hb); have n3_ := zA0 (Kd.S_lower (Kd.S_new' (Kd.S_new' ho13 (Kd.S_lt (by (with_reducible repeat (first | apply zsA | apply zsN | apply zsD)); exact (Kd.S_mono (Kd.S_far (p := ⟨gb273, 3, none⟩) (Kd.S_far (p := ⟨gb273, 2, none⟩) (Kd.S_far (p := ⟨gb273, 1, none⟩) (Kd.S_far (p := ⟨gb273, 0, none⟩) (Kd.S_types HO268.out BK273.out (by decide)) (fun _ hk => hk.2) (.int .i64 t262)) (fun _ hk => hk.2) (.slice Ao9 t263.length co9)) (fun _ hk => hk.2) (.slice Ao10 t266.length co10)) (fun _ hk => hk.2) (.slice Ao11 t269.length co11)) (fun _ h_ => h_.1))))) (Kd.R_lt (by (with_reducible repeat (first | apply zrA | apply zrN | apply zrD)); exact (Kd.R_mono (Kd.R_far (p := ⟨gb273, 3, none⟩) (Kd.R_far (p := ⟨gb273, 2, none⟩) (Kd.R_far (p := ⟨gb273, 1, none⟩) (Kd.R_far (p := ⟨gb273, 0, none⟩) (Kd.R_types HO271.out BK273.out (by decide)) (fun _ hk => hk.2) (.int .i64 t262)) (fun _ hk => hk.2) (.slice Ao9 t263.length co9)) (fun _ hk => hk.2) (.slice Ao10 t266.length co10)) (fun _ hk => hk.2) (.slice Ao11 t269.length co11)) (fun _ h_ => h_.1))))) (below_size (by repeat (first | (with_reducible first | exact HB.out | apply zpA | apply zpN | apply zpD | refine below_set ?_ GE273.out) | exact HB.out)))); have n4_ := zA0 (blk_below (g := gb273) (o := .cells #[.int .i64 t262, .slice Ao9 t263.length co9, .slice Ao10 t266.length co10, .slice Ao11 t269.length co11] 132 (0, 0)) (by (with_reducible repeat (first | refine blk_drewN ?_ _ | refine blk_drew ?_ | refine blk_alloc ?_ _)); refine blk_put (cs := #[.int .i64 t262, .slice Ao9 t263.length co9, .slice Ao10 t266.length co10, .slice none 0 0]) ?_ 3 _ rfl; (with_reducible repeat (first | refine blk_drewN ?_ _ | refine blk_drew ?_ | refine blk_alloc ?_ _)); refine blk_put (cs := #[.int .i64 t262, .slice Ao9 t263.length co9, .slice none 0 0, .slice none 0 0]) ?_ 2 _ rfl; (with_reducible repeat (first | refine blk_drewN ?_ _ | refine blk_drew ?_ | refine blk_alloc ?_ _)); refine blk_put (cs := #[.int .i64 t262, .slice none 0 0, .slice none 0 0, .slice none 0 0]) ?_ 1 _ rfl; (with_reducible repeat (first | refine blk_drewN ?_ _ | refine blk_drew ?_ | refine blk_alloc ?_ _)); refine blk_put (cs := #[.int .i64 0, .slice none 0 0, .slice none 0 0, .slice none 0 0]) ?_ 0 _ rfl; (with_reducible repeat (first | refine blk_drewN ?_ _ | refine blk_drew ?_ | refine blk_alloc ?_ _)); exact BK273.out) hb); have n5_ := zA0 (below_step (by repeat (first | (with_reducible first | exact HB.out | apply zpA | apply zpN | apply zpD | refine below_set ?_ GE273.out) | exact HB.out)) hb); replace HO265 := n0_; replace HO268 := n1_; replace HO271 := n2_; have HO276 := n3_; replace BK273 := n4_; replace HB := n5_; clear n0_ n1_ n2_ n3_ n4_ n5_; clear hb ho13) | ((with_reducible refine gate_callee (f := 169) rfl ?_); refine goesL_ (some 23) rfl rfl Try.func169 (by kernel_rfl) rfl #[.int .i64 a0] rfl (by (try simp only [List.map_toArray, List.map_cons, List.map_nil]); first | done | rfl) ?_; (with_reducible refine (impl_points.calls k a0 t277 _ A5.out).mono ?_); rintro e w14 ⟨v278, rfl, ho0, hb⟩; refine ⟨_, rfl, ?_⟩; have n0_ := zA0 (Kd.V_elder' (zV HO265) (Kd.R_base ho0) hb); have n1_ := zA0 (Kd.S_below (zS HO268) hb); have n2_ := zA0 (Kd.R_below (zR HO271) hb); have n3_ := zA0 (Kd.S_below (zS HO276) hb); have n4_ := zA0 (Kd.R_lower ho0 (below_size (by repeat (first | (with_reducible first | exact HB.out | apply zpA | apply zpN | apply zpD | refine below_set ?_ GE273.out) | exact HB.out)))); have n5_ := zA0 (blk_below (g := gb273) (o := .cells #[.int .i64 t262, .slice Ao9 t263.length co9, .slice Ao10 t266.length co10, .slice Ao11 t269.length co11] 132 (0, 0)) (zQ BK273) hb); have n6_ := zA0 (below_step (by repeat (first | (with_reducible first | exact HB.out | apply zpA | apply zpN | apply zpD | refine below_set ?_ GE273.out) | exact HB.out)) hb); replace HO265 := n0_; replace HO268 := n1_; replace HO271 := n2_; replace HO276 := n3_; have HO279 := n4_; replace BK273 := n5_; replace HB := n6_; clear n0_ n1_ n2_ n3_ n4_ n5_ n6_; (try clear hb); (try clear hb2); (try clear hk); (try clear hi); (try clear ho0); obtain ⟨Ao15, co15, eo15⟩ := Kd.R_slice HO279.out; subst eo15))
  go_loopg [8, 26] k (fun kq v8 v26 w' => ∃ (x8_1 : List (List Int)) (x26_1 : Int), v26 = .int .i64 x26_1 ∧ Aside0 (impl_DoorsOf.l0 kq x8_1 t277 t277 (t277.length : Int) x26_1 t262 t263 t266 t269 = some (r1, r2)) ∧ Aside0 (kq ≤ k) ∧ Aside0 (Kd.S (Kd.slice 3 (Kd.int .i64)) 22 w' w.heap.size (fun k_ => some k_ ≠ ((.slice Ao10 t266.length co10) : Value).ownBlock ∧ some k_ ≠ ((.slice Ao11 t269.length co11) : Value).ownBlock) v8 x8_1) ∧ Aside0 (Kd.R k109 109 w' w.heap.size (fun _ => True) (.slice Ao15 t277.length co15) t277) ∧ Aside0 (Kd.R k109 109 w' w.heap.size (fun _ => True) (.slice Ao15 t277.length co15) t277) ∧ Aside0 (Kd.V (Kd.int .i64) 3 w' w.heap.size (fun k_ => some k_ ≠ (v8 : Value).ownBlock ∧ some k_ ≠ ((.slice Ao15 t277.length co15) : Value).ownBlock ∧ some k_ ≠ ((.slice Ao15 t277.length co15) : Value).ownBlock ∧ some k_ ≠ ((.slice Ao10 t266.length co10) : Value).ownBlock ∧ some k_ ≠ ((.slice Ao11 t269.length co11) : Value).ownBlock ∧ k_ ≠ gb273) (.slice Ao9 t263.length co9) t263) ∧ Aside0 (Kd.S (Kd.slice 3 (Kd.int .i64)) 22 w' w.heap.size (fun k_ => some k_ ≠ (v8 : Value).ownBlock ∧ some k_ ≠ ((.slice Ao11 t269.length co11) : Value).ownBlock) (.slice Ao10 t266.length co10) t266) ∧ Aside0 (Kd.R (Kd.int .i64) 3 w' w.heap.size (fun _ => True) (.slice Ao11 t269.length co11) t269) ∧ Aside0 (w'.heap[gb273]? = some (.cells #[.int .i64 t262, (.slice Ao9 t263.length co9), (.slice Ao10 t266.length co10), (.slice Ao11 t269.length co11)] 132 (0, 0))) ∧ Aside0 (Below w.heap.size w w'))
  case atStart => exact ⟨(y274), (0), (by first | rfl | (simp; done) | (simp [*]; done) | (simp; decide) | (simp; unfold wrap64; omega)), H', ⟨Nat.le_refl _⟩, ⟨by (with_reducible repeat (first | apply zsA | apply zsN | apply zsD)); exact Kd.S_mono HO276.out (fun _ hk => ⟨hk.1.2, hk.2⟩)⟩, ⟨zR HO279⟩, ⟨zR HO279⟩, ⟨by (with_reducible repeat (first | apply Kd.V_alloc | apply Kd.V_drewN | apply Kd.V_drew)); exact Kd.V_mono HO265.out (fun _ hk => ⟨hk.1.2, ⟨hk.2, ⟨hk.2, ⟨hk.1.1.1.1, ⟨hk.1.1.1.2, hk.1.1.2⟩⟩⟩⟩⟩)⟩, ⟨by (with_reducible repeat (first | apply zsA | apply zsN | apply zsD)); exact Kd.S_mono HO268.out (fun _ hk => ⟨hk.2, hk.1⟩)⟩, ⟨zR HO271⟩, ⟨by (with_reducible repeat (first | refine blk_drewN ?_ _ | refine blk_drew ?_ | refine blk_alloc ?_ _)); exact BK273.out⟩, ⟨by repeat (first | (with_reducible first | exact HB.out | apply zpA | apply zpN | apply zpD | refine below_set ?_ GE273.out) | exact HB.out)⟩⟩
  case round =>
   clear H'
   try clear c1
   try clear c2
   try clear p2
   try clear c4
   try clear p6
   try clear c8
   try clear hcz8_0
   try clear hcz8_1
   try clear hcz8_2
   try clear hcz8_3
   try clear hfz8_0
   try clear hfz8_1
   try clear hfz8_2
   try clear hfz8_3
   obtain ⟨x8_1, x26_1, rfl, HA, HK1, HO_8, HO_9, HO_24, HO_274001, HO_274002, HO_274003, BK273, HB⟩ := hrel
   cases gk with
   | zero => exact absurd HA.out (by simp [impl_DoorsOf.l0])
   | succ k1 =>
    have H := HA.out
    clear HA
    simp only [impl_DoorsOf.l0] at H
    by_cases c16 : x26_1 < (t277.length : Int)
    ·
     rw [if_pos c16] at H
     have c16b0 : decide (x26_1 < (t277.length : Int)) = true := decide_eq_true c16
     clear c16
     by_cases c17 : 0 ≤ x26_1
     ·
      rw [if_pos c17] at H
      have c17b0 : decide (0 ≤ x26_1) = true := decide_eq_true c17
      clear c17
      by_cases c18 : x26_1 < (t277.length : Int)
      ·
       rw [if_pos c18] at H
       have c18b0 : decide (x26_1 < (t277.length : Int)) = true := decide_eq_true c18
       clear c18
       have H' := zA0 H
       clear H
       have p280 : 0 ≤ (x26_1 : Int) := of_decide_eq_true (by first | (with_reducible assumption) | assumption)
       have q280 : x26_1 < (t277.length : Int) := of_decide_eq_true (by first | (with_reducible assumption) | assumption)
       obtain ⟨ad280, e280, hx280_0, hx280_1, hx280_2⟩ := at_T109 (Kd.R_reads' HO_24.out).2.2 x26_1 p280 q280
       cases e280
       replace p280 := eq_true p280
       replace q280 := eq_true q280
       go_wp2_with (first | ((with_reducible refine gate_dst (N := 11) rfl ?_); refine box_event ?hg (N := 11) ?hd (cs := #[.int .i64 0, .int .i64 0, .int .i64 0]) (t := 109) ?hr ?_; (case hd => rfl); (case hg => rfl); (case hr => first | (go_simp; done) | (go_simp; rfl)); intro gb281 hg w19 hbox hb; have n0_ := zA0 (Kd.S_below (zS HO_8) hb); have n1_ := zA0 (Kd.R_below (Kd.R_elderB (zR HO_9) gb281 (Nat.le_of_eq hg.symm)) hb); have n2_ := zA0 (Kd.R_below (Kd.R_elderB (zR HO_24) gb281 (Nat.le_of_eq hg.symm)) hb); have n3_ := zA0 (Kd.V_below (Kd.V_elderB (zV HO_274001) gb281 (Nat.le_of_eq hg.symm)) hb); have n4_ := zA0 (Kd.S_below (zS HO_274002) hb); have n5_ := zA0 (Kd.R_below (zR HO_274003) hb); have n6_ := zA0 (blk_below (g := gb273) (o := .cells #[.int .i64 t262, .slice Ao9 t263.length co9, .slice Ao10 t266.length co10, .slice Ao11 t269.length co11] 132 (0, 0)) (zQ BK273) hb); have n7_ := zA0 (below_step (by repeat (first | (with_reducible first | exact HB.out | apply zpA | apply zpN | apply zpD | refine below_set ?_ GE273.out) | exact HB.out)) hb); have n8_ := zA0 (hbox); have n9_ := zA0 ((by rw [hg]; exact (below_size (by repeat (first | (with_reducible first | exact HB.out | apply zpA | apply zpN | apply zpD | refine below_set ?_ GE273.out) | exact HB.out))) : w.heap.size ≤ gb281)); have n10_ := zA0 ((by rw [hg]; exact (below_size (by repeat (first | (with_reducible first | exact HB.out | apply zpA | apply zpN | apply zpD | refine below_set ?_ GE273.out) | exact HB.out))) : w.heap.size ≤ gb281)); have n11_ := zA0 ((by rw [hg]; exact Nat.ne_of_lt (blk_lt (g := gb273) (o := .cells #[.int .i64 t262, .slice Ao9 t263.length co9, .slice Ao10 t266.length co10, .slice Ao11 t269.length co11] 132 (0, 0)) (zQ BK273)) : gb273 ≠ gb281)); have n12_ := zA0 ((by rw [hg]; exact Nat.ne_of_gt (blk_lt (g := gb273) (o := .cells #[.int .i64 t262, .slice Ao9 t263.length co9, .slice Ao10 t266.length co10, .slice Ao11 t269.length co11] 132 (0, 0)) (zQ BK273)) : gb281 ≠ gb273)); replace HO_8 := n0_; replace HO_9 := n1_; replace HO_24 := n2_; replace HO_274001 := n3_; replace HO_274002 := n4_; replace HO_274003 := n5_; replace BK273 := n6_; replace HB := n7_; have BK281 := n8_; have GW281 := n9_; have GE281 := n10_; have NB273_281 := n11_; have NB281_273 := n12_; clear n0_ n1_ n2_ n3_ n4_ n5_ n6_ n7_ n8_ n9_ n10_ n11_ n12_; clear hb hbox hg; have hnb20 := NB281_273.out; have hnc20 := NB273_281.out; have hcz21_0 : w19.cell? ⟨gb281, 0, none⟩ = some (.int .i64 0) := (blk_cell BK281.out 0).trans rfl; have hcz21_1 : w19.cell? ⟨gb281, 1, none⟩ = some (.int .i64 0) := (blk_cell BK281.out 1).trans rfl; have hcz21_2 : w19.cell? ⟨gb281, 2, none⟩ = some (.int .i64 0) := (blk_cell BK281.out 2).trans rfl; have hfz21_0 := blk_frozen BK281.out 0; have hfz21_1 := blk_frozen BK281.out 1; have hfz21_2 := blk_frozen BK281.out 2))
       go_loopg [8, 12] k1 (fun kq v8 v12 w' => ∃ (x8_2 : List (List Int)) (x12_2 : Int), v12 = .int .i64 x12_2 ∧ Aside0 (impl_DoorsOf.l1 kq x8_2 t277 x26_1 x12_2 t277 (t277.length : Int) x26_1 t262 t263 t266 t269 ((rd_T109 t277 x26_1).f0) ((rd_T109 t277 x26_1).f1) ((rd_T109 t277 x26_1).f2) = some (r1, r2)) ∧ Aside0 (kq ≤ k1) ∧ Aside0 (Kd.S (Kd.slice 3 (Kd.int .i64)) 22 w' w.heap.size (fun k_ => some k_ ≠ ((.slice Ao10 t266.length co10) : Value).ownBlock ∧ some k_ ≠ ((.slice Ao11 t269.length co11) : Value).ownBlock) v8 x8_2) ∧ Aside0 (Kd.R k109 109 w' w.heap.size (fun k_ => k_ ≠ gb281) (.slice (some ad280) t277.length co15) t277) ∧ Aside0 (Kd.R k109 109 w' w.heap.size (fun k_ => k_ ≠ gb281) (.slice (some ad280) t277.length co15) t277) ∧ Aside0 (Kd.V (Kd.int .i64) 3 w' w.heap.size (fun k_ => some k_ ≠ (v8 : Value).ownBlock ∧ some k_ ≠ ((.slice (some ad280) t277.length co15) : Value).ownBlock ∧ some k_ ≠ ((.slice (some ad280) t277.length co15) : Value).ownBlock ∧ some k_ ≠ ((.slice Ao10 t266.length co10) : Value).ownBlock ∧ some k_ ≠ ((.slice Ao11 t269.length co11) : Value).ownBlock ∧ k_ ≠ gb273 ∧ k_ ≠ gb281) (.slice Ao9 t263.length co9) t263) ∧ Aside0 (Kd.S (Kd.slice 3 (Kd.int .i64)) 22 w' w.heap.size (fun k_ => some k_ ≠ (v8 : Value).ownBlock ∧ some k_ ≠ ((.slice Ao11 t269.length co11) : Value).ownBlock) (.slice Ao10 t266.length co10) t266) ∧ Aside0 (Kd.R (Kd.int .i64) 3 w' w.heap.size (fun _ => True) (.slice Ao11 t269.length co11) t269) ∧ Aside0 (w'.heap[gb273]? = some (.cells #[.int .i64 t262, (.slice Ao9 t263.length co9), (.slice Ao10 t266.length co10), (.slice Ao11 t269.length co11)] 132 (0, 0))) ∧ Aside0 (w'.heap[gb281]? = some (.cells #[.int .i64 ((rd_T109 t277 x26_1).f0), .int .i64 ((rd_T109 t277 x26_1).f1), .int .i64 ((rd_T109 t277 x26_1).f2)] 109 (0, 0))) ∧ Aside0 (Below w.heap.size w w'))
       case atStart => exact ⟨(x8_1), (wrap64 (x26_1 + 1)), (by first | rfl | (simp; done) | (simp [*]; done) | (simp; decide) | (simp; unfold wrap64; omega)), H', ⟨Nat.le_refl _⟩, ⟨by (with_reducible repeat (first | apply zsA | apply zsN | apply zsD)); exact Kd.S_mono (Kd.S_far (p := ⟨gb281, 2, none⟩) (Kd.S_far (p := ⟨gb281, 1, none⟩) (Kd.S_far (p := ⟨gb281, 0, none⟩) (Kd.S_types HO_8.out BK281.out (by decide)) (fun _ hk => hk.2) (.int .i64 ((rd_T109 t277 x26_1).f0))) (fun _ hk => hk.2) (.int .i64 ((rd_T109 t277 x26_1).f1))) (fun _ hk => hk.2) (.int .i64 ((rd_T109 t277 x26_1).f2))) (fun _ hk => ⟨hk.1.1, hk.1.2⟩)⟩, ⟨by (with_reducible repeat (first | apply zrA | apply zrN | apply zrD)); exact Kd.R_mono (Kd.R_far (p := ⟨gb281, 2, none⟩) (Kd.R_far (p := ⟨gb281, 1, none⟩) (Kd.R_far (p := ⟨gb281, 0, none⟩) (Kd.R_mono HO_9.out (fun k_ hk => (⟨hk, hk.2⟩ : _ ∧ k_ ≠ gb281))) (fun _ hk => hk.2) (.int .i64 ((rd_T109 t277 x26_1).f0))) (fun _ hk => hk.2) (.int .i64 ((rd_T109 t277 x26_1).f1))) (fun _ hk => hk.2) (.int .i64 ((rd_T109 t277 x26_1).f2))) (fun _ hk => hk.1.2)⟩, ⟨by (with_reducible repeat (first | apply zrA | apply zrN | apply zrD)); exact Kd.R_mono (Kd.R_far (p := ⟨gb281, 2, none⟩) (Kd.R_far (p := ⟨gb281, 1, none⟩) (Kd.R_far (p := ⟨gb281, 0, none⟩) (Kd.R_mono HO_24.out (fun k_ hk => (⟨hk, hk.2⟩ : _ ∧ k_ ≠ gb281))) (fun _ hk => hk.2) (.int .i64 ((rd_T109 t277 x26_1).f0))) (fun _ hk => hk.2) (.int .i64 ((rd_T109 t277 x26_1).f1))) (fun _ hk => hk.2) (.int .i64 ((rd_T109 t277 x26_1).f2))) (fun _ hk => hk.1.2)⟩, ⟨by (with_reducible repeat (first | apply Kd.V_alloc | apply Kd.V_drewN | apply Kd.V_drew)); exact Kd.V_mono (Kd.V_far (p := ⟨gb281, 2, none⟩) (Kd.V_far (p := ⟨gb281, 1, none⟩) (Kd.V_far (p := ⟨gb281, 0, none⟩) (Kd.V_mono HO_274001.out (fun k_ hk => (⟨hk, hk.2⟩ : _ ∧ k_ ≠ gb281))) (fun _ hk => hk.2) (.int .i64 ((rd_T109 t277 x26_1).f0))) (fun _ hk => hk.2) (.int .i64 ((rd_T109 t277 x26_1).f1))) (fun _ hk => hk.2) (.int .i64 ((rd_T109 t277 x26_1).f2))) (fun _ hk => ⟨hk.1.1.1, ⟨hk.1.1.2.1, ⟨hk.1.1.2.2.1, ⟨hk.1.1.2.2.2.1, ⟨hk.1.1.2.2.2.2.1, ⟨hk.1.1.2.2.2.2.2, hk.1.2⟩⟩⟩⟩⟩⟩)⟩, ⟨by (with_reducible repeat (first | apply zsA | apply zsN | apply zsD)); exact Kd.S_mono (Kd.S_far (p := ⟨gb281, 2, none⟩) (Kd.S_far (p := ⟨gb281, 1, none⟩) (Kd.S_far (p := ⟨gb281, 0, none⟩) (Kd.S_types HO_274002.out BK281.out (by decide)) (fun _ hk => hk.2) (.int .i64 ((rd_T109 t277 x26_1).f0))) (fun _ hk => hk.2) (.int .i64 ((rd_T109 t277 x26_1).f1))) (fun _ hk => hk.2) (.int .i64 ((rd_T109 t277 x26_1).f2))) (fun _ hk => ⟨hk.1.1, hk.1.2⟩)⟩, ⟨by (with_reducible repeat (first | apply zrA | apply zrN | apply zrD)); exact Kd.R_mono (Kd.R_far (p := ⟨gb281, 2, none⟩) (Kd.R_far (p := ⟨gb281, 1, none⟩) (Kd.R_far (p := ⟨gb281, 0, none⟩) (Kd.R_types HO_274003.out BK281.out (by decide)) (fun _ hk => hk.2) (.int .i64 ((rd_T109 t277 x26_1).f0))) (fun _ hk => hk.2) (.int .i64 ((rd_T109 t277 x26_1).f1))) (fun _ hk => hk.2) (.int .i64 ((rd_T109 t277 x26_1).f2))) (fun _ hk => trivial)⟩, ⟨by (with_reducible repeat (first | refine blk_drewN ?_ _ | refine blk_drew ?_ | refine blk_alloc ?_ _)); refine blk_far ?_ NB273_281.out _; (with_reducible repeat (first | refine blk_drewN ?_ _ | refine blk_drew ?_ | refine blk_alloc ?_ _)); refine blk_far ?_ NB273_281.out _; (with_reducible repeat (first | refine blk_drewN ?_ _ | refine blk_drew ?_ | refine blk_alloc ?_ _)); refine blk_far ?_ NB273_281.out _; (with_reducible repeat (first | refine blk_drewN ?_ _ | refine blk_drew ?_ | refine blk_alloc ?_ _)); exact BK273.out⟩, ⟨by (with_reducible repeat (first | refine blk_drewN ?_ _ | refine blk_drew ?_ | refine blk_alloc ?_ _)); refine blk_put (cs := #[.int .i64 ((rd_T109 t277 x26_1).f0), .int .i64 ((rd_T109 t277 x26_1).f1), .int .i64 0]) ?_ 2 _ rfl; (with_reducible repeat (first | refine blk_drewN ?_ _ | refine blk_drew ?_ | refine blk_alloc ?_ _)); refine blk_put (cs := #[.int .i64 ((rd_T109 t277 x26_1).f0), .int .i64 0, .int .i64 0]) ?_ 1 _ rfl; (with_reducible repeat (first | refine blk_drewN ?_ _ | refine blk_drew ?_ | refine blk_alloc ?_ _)); refine blk_put (cs := #[.int .i64 0, .int .i64 0, .int .i64 0]) ?_ 0 _ rfl; (with_reducible repeat (first | refine blk_drewN ?_ _ | refine blk_drew ?_ | refine blk_alloc ?_ _)); exact BK281.out⟩, ⟨by repeat (first | (with_reducible first | exact HB.out | apply zpA | apply zpN | apply zpD | refine below_set ?_ GE273.out | refine below_set ?_ GE281.out) | exact HB.out)⟩⟩
       case round =>
        clear H'
        try clear c1
        try clear c2
        try clear p2
        try clear q2
        try clear hx2
        try clear c4
        try clear p6
        try clear c8
        try clear c16
        try clear c16b0
        try clear c17
        try clear c17b0
        try clear c18
        try clear c18b0
        try clear c20
        try clear hcz21_0
        try clear hcz21_1
        try clear hcz21_2
        try clear hcz8_0
        try clear hcz8_1
        try clear hcz8_2
        try clear hcz8_3
        try clear hfz21_0
        try clear hfz21_1
        try clear hfz21_2
        try clear hfz8_0
        try clear hfz8_1
        try clear hfz8_2
        try clear hfz8_3
        try clear hx280_0
        try clear hx280_1
        try clear hx280_2
        try clear p2
        try clear p280
        try clear p6
        try clear q280
        obtain ⟨x8_2, x12_2, rfl, HA, HK2, HO_8, HO_9, HO_24, HO_274001, HO_274002, HO_274003, BK273, BK281, HB⟩ := hrel
        cases gk with
        | zero => exact absurd HA.out (by simp [impl_DoorsOf.l1])
        | succ k2 =>
         have H := HA.out
         clear HA
         simp only [impl_DoorsOf.l1] at H
         by_cases c22 : x12_2 < (t277.length : Int)
         ·
          rw [if_pos c22] at H
          have c22b0 : decide (x12_2 < (t277.length : Int)) = true := decide_eq_true c22
          clear c22
          by_cases c23 : 0 ≤ x12_2
          ·
           rw [if_pos c23] at H
           have c23b0 : decide (0 ≤ x12_2) = true := decide_eq_true c23
           clear c23
           replace H := Option.bind_eq_some_iff.mp H
           obtain ⟨t283, A240, H⟩ := H
           (try dsimp only at H)
           have A24 := zA0 A240
           clear A240
           by_cases c25 : t283 = true
           ·
            subst c25
            rw [if_pos rfl] at H
            replace H := Option.bind_eq_some_iff.mp H
            obtain ⟨t284, A260, H⟩ := H
            (try dsimp only at H)
            have A26 := zA0 A260
            clear A260
            by_cases c27 : t284 = true
            ·
             subst c27
             rw [if_pos rfl] at H
             obtain ⟨y285, hy285⟩ : ∃ y_ : List Int, y_ = (([x26_1, x12_2] : List Int)) := ⟨_, rfl⟩
             replace H : (if x8_2.length < 5864062014805 then (impl_DoorsOf.l1 k2 (x8_2 ++ [y285]) t277 x26_1 (wrap64 (x12_2 + 1)) t277 (t277.length : Int) x26_1 t262 t263 t266 t269 ((rd_T109 t277 x26_1).f0) ((rd_T109 t277 x26_1).f1) ((rd_T109 t277 x26_1).f2)) else (none)) = some (r1, r2) := by first | (rw [hy285]; with_reducible exact H) | (have H2_ := (Option.bind_some _ _).symm.trans H; rw [hy285]; with_reducible exact H2_) | (have H2_ := (Option.bind_some _ _).symm.trans H; with_reducible exact H2_) | with_reducible exact H | (rw [hy285]; exact H) | exact H
             have Ny285 := zA0 hy285
             clear hy285
             by_cases c28 : x8_2.length < 5864062014805
             ·
              rw [if_pos c28] at H
              have LMc28 := zA0 c28
              clear c28
              obtain ⟨y288, hy288⟩ : ∃ y_ : List (List Int), y_ = (x8_2 ++ [y285]) := ⟨_, rfl⟩
              replace H : (impl_DoorsOf.l1 k2 y288 t277 x26_1 (wrap64 (x12_2 + 1)) t277 (t277.length : Int) x26_1 t262 t263 t266 t269 ((rd_T109 t277 x26_1).f0) ((rd_T109 t277 x26_1).f1) ((rd_T109 t277 x26_1).f2)) = some (r1, r2) := by first | (rw [hy288]; with_reducible exact H) | (have H2_ := (Option.bind_some _ _).symm.trans H; rw [hy288]; with_reducible exact H2_) | (have H2_ := (Option.bind_some _ _).symm.trans H; with_reducible exact H2_) | with_reducible exact H | (rw [hy288]; exact H) | exact H
              have Ny288 := zA0 hy288
              clear hy288
              have H' := zA0 H
              clear H
              try go_wp2
              have n0_ := zA0 (zsD HO_8.out)
              have n1_ := zA0 (zrD HO_9.out)
              have n2_ := zA0 (zrD HO_24.out)
              have n3_ := zA0 (Kd.V_drew HO_274001.out)
              have n4_ := zA0 (zsD HO_274002.out)
              have n5_ := zA0 (zrD HO_274003.out)
              have n6_ := zA0 (blk_drew BK273.out)
              have n7_ := zA0 (blk_drew BK281.out)
              have n8_ := zA0 (zpD HB.out)
              replace HO_8 := n0_; replace HO_9 := n1_; replace HO_24 := n2_; replace HO_274001 := n3_; replace HO_274002 := n4_; replace HO_274003 := n5_; replace BK273 := n6_; replace BK281 := n7_; replace HB := n8_; clear n0_ n1_ n2_ n3_ n4_ n5_ n6_ n7_ n8_
              have p282 : 0 ≤ (x12_2 : Int) := of_decide_eq_true (by first | (with_reducible assumption) | assumption)
              have q282 : x12_2 < (t277.length : Int) := of_decide_eq_true (by first | (with_reducible assumption) | assumption)
              obtain ⟨ad282, e282, hx282_0, hx282_1, hx282_2⟩ := at_T109 (Kd.R_reads' HO_9.out).2.2 x12_2 p282 q282
              obtain rfl : ad280 = ad282 := (by injection e282)
              replace p282 := eq_true p282
              replace q282 := eq_true q282
              refine start_ (n := 12) (S := fun w' => w'.cell? ⟨gb281, 0, none⟩ = some (.int .i64 ((rd_T109 t277 x26_1).f0)) ∧ w'.cell? ⟨gb281, 1, none⟩ = some (.int .i64 ((rd_T109 t277 x26_1).f1)) ∧ w'.cell? ⟨gb281, 2, none⟩ = some (.int .i64 ((rd_T109 t277 x26_1).f2)) ∧ w'.cell? ⟨gb273, 0, none⟩ = some (.int .i64 t262) ∧ w'.cell? ⟨gb273, 1, none⟩ = some (.slice Ao9 t263.length co9) ∧ w'.cell? ⟨gb273, 2, none⟩ = some (.slice Ao10 t266.length co10) ∧ w'.cell? ⟨gb273, 3, none⟩ = some (.slice Ao11 t269.length co11) ∧ w'.cell? (ad280.add ((x12_2).toNat * 3)) = some (.int .i64 ((rd_T109 t277 x12_2).f0)) ∧ w'.cell? ⟨(ad280.add ((x12_2).toNat * 3)).block, (ad280.add ((x12_2).toNat * 3)).off + 1, none⟩ = some (.int .i64 ((rd_T109 t277 x12_2).f1)) ∧ w'.cell? ⟨(ad280.add ((x12_2).toNat * 3)).block, (ad280.add ((x12_2).toNat * 3)).off + 2, none⟩ = some (.int .i64 ((rd_T109 t277 x12_2).f2))) (ds := []) #[false, false, false, false, false, false, false, false, false, false, false, false] (by kernel_rfl) rfl rfl ⟨(blk_cell BK281.out 0).trans rfl, (blk_cell BK281.out 1).trans rfl, (blk_cell BK281.out 2).trans rfl, (blk_cell BK273.out 0).trans rfl, (blk_cell BK273.out 1).trans rfl, (blk_cell BK273.out 2).trans rfl, (blk_cell BK273.out 3).trans rfl, hx282_0, hx282_1, hx282_2⟩ (fun hHeld => ?_); refine with_tabW impl_DoorsOf.tab11 impl_DoorsOf.bits11 (fun HT_ HW_ => ?_)
              generalize wr.drew = w29 at HO_8 HO_9 HO_24 HO_274001 HO_274002 HO_274003 BK273 BK281 HB hx282_0 hx282_1 hx282_2 hHeld ⊢
              refine pure_ (i := 1) (N := some 40) (v := ?_) (a' := ?_) #[false, true, false, false, false, false, false, false, false, false, false, false] rfl rfl (any_of HT_.out (by kernel_rfl)) (fun _ _ _ h => h) (Or.inl ⟨by rfl, ?_⟩) ?_ ?_
              rotate_left
              ·
               intro w'
               go_simp
               with_reducible rfl
              rotate_left
              ·
               simp only [Act.put, List.setIfInBounds_toArray, List.set_cons_zero, List.set_cons_succ, i64_w, i32_w]
               rfl
              refine pure_ (i := 2) (N := some 41) (v := ?_) (a' := ?_) #[false, true, true, false, false, false, false, false, false, false, false, false] rfl rfl (any_of HT_.out (by kernel_rfl)) (fun _ _ _ h => h) (Or.inl ⟨by rfl, ?_⟩) ?_ ?_
              rotate_left
              ·
               intro w'
               go_simp
               with_reducible rfl
              rotate_left
              ·
               simp only [Act.put, List.setIfInBounds_toArray, List.set_cons_zero, List.set_cons_succ, i64_w, i32_w]
               rfl
              refine pure_ (i := 3) (N := some 42) (v := ?_) (a' := ?_) #[false, true, true, true, false, false, false, false, false, false, false, false] rfl rfl (any_of HT_.out (by kernel_rfl)) (fun _ _ _ h => h) (Or.inl ⟨by rfl, ?_⟩) ?_ ?_
              rotate_left
              ·
               intro w'
               go_simp
               with_reducible rfl
              rotate_left
              ·
               simp only [Act.put, List.setIfInBounds_toArray, List.set_cons_zero, List.set_cons_succ, i64_w, i32_w]
               rfl
              refine take_ (i := 0) (N := some 39) (v := ?_) (a' := ?_) #[true, true, true, true, false, false, false, false, false, false, false, false] rfl rfl (take_ofW HT_.out HW_.out (by kernel_rfl)) (fun _ _ _ h => h) (Or.inl ⟨by rfl, ?_⟩) hHeld ?_ ?_
              rotate_left
              ·
               rintro w' ⟨s0, s1, s2, s3, s4, s5, s6, s7, s8, s9⟩
               go_simp
               with_reducible rfl
              rotate_left
              ·
               simp only [Act.put, List.setIfInBounds_toArray, List.set_cons_zero, List.set_cons_succ, i64_w, i32_w]
               rfl
              refine take_ (i := 4) (N := some 43) (v := ?_) (a' := ?_) #[true, true, true, true, true, false, false, false, false, false, false, false] rfl rfl (take_ofW HT_.out HW_.out (by kernel_rfl)) (fun _ _ _ h => h) (Or.inl ⟨by rfl, ?_⟩) hHeld ?_ ?_
              rotate_left
              ·
               rintro w' ⟨s0, s1, s2, s3, s4, s5, s6, s7, s8, s9⟩
               go_simp
               with_reducible rfl
              rotate_left
              ·
               simp only [Act.put, List.setIfInBounds_toArray, List.set_cons_zero, List.set_cons_succ, i64_w, i32_w]
               rfl
              refine one_ (i := 5) (N := some 44) #[true, true, true, true, true, true, false, false, false, false, false, false] rfl rfl (one_of HT_.out (by kernel_rfl)) (by decide) (fun K hK => ?_)
              refine goes_ Try.func191 (by kernel_rfl) rfl #[.agg #[.int .i64 ((rd_T109 t277 x26_1).f0), .int .i64 ((rd_T109 t277 x26_1).f1), .int .i64 ((rd_T109 t277 x26_1).f2)], .agg #[.int .i64 ((rd_T109 t277 x12_2).f0), .int .i64 ((rd_T109 t277 x12_2).f1), .int .i64 ((rd_T109 t277 x12_2).f2)]] (by rfl) rfl rfl (by (try simp only [List.map_toArray, List.map_cons, List.map_nil]); first | done | rfl) ?_
              with_reducible refine (impl_near.calls k2 ((rd_T109 t277 x26_1).f0) ((rd_T109 t277 x26_1).f1) ((rd_T109 t277 x26_1).f2) ((rd_T109 t277 x12_2).f0) ((rd_T109 t277 x12_2).f1) ((rd_T109 t277 x12_2).f2) true _ A24.out).mono ?_
              rintro e w30 ⟨rfl, hb⟩
              have HS7_ := (hb.cell (World.block_lt_of_cell? _ _ (hHeld.2.2.2.2.2.2.2.1))).trans (hHeld.2.2.2.2.2.2.2.1)
              have HS8_ := (hb.cell (World.block_lt_of_cell? _ _ (hHeld.2.2.2.2.2.2.2.2.1))).trans (hHeld.2.2.2.2.2.2.2.2.1)
              have HS9_ := (hb.cell (World.block_lt_of_cell? _ _ (hHeld.2.2.2.2.2.2.2.2.2))).trans (hHeld.2.2.2.2.2.2.2.2.2)
              refine ⟨_, rfl, ?_⟩
              have n0_ := zA0 (Kd.S_below (zS HO_8) hb)
              have n1_ := zA0 (Kd.R_below (zR HO_9) hb)
              have n2_ := zA0 (Kd.R_below (zR HO_24) hb)
              have n3_ := zA0 (Kd.V_below (zV HO_274001) hb)
              have n4_ := zA0 (Kd.S_below (zS HO_274002) hb)
              have n5_ := zA0 (Kd.R_below (zR HO_274003) hb)
              have n6_ := zA0 (blk_below (g := gb273) (o := .cells #[.int .i64 t262, .slice Ao9 t263.length co9, .slice Ao10 t266.length co10, .slice Ao11 t269.length co11] 132 (0, 0)) (zQ BK273) hb)
              have n7_ := zA0 (blk_below (g := gb281) (o := .cells #[.int .i64 ((rd_T109 t277 x26_1).f0), .int .i64 ((rd_T109 t277 x26_1).f1), .int .i64 ((rd_T109 t277 x26_1).f2)] 109 (0, 0)) (zQ BK281) hb)
              have n8_ := zA0 (below_step (by repeat (first | (with_reducible first | exact HB.out | apply zpA | apply zpN | apply zpD | refine below_set ?_ GE273.out | refine below_set ?_ GE281.out) | exact HB.out)) hb)
              replace HO_8 := n0_; replace HO_9 := n1_; replace HO_24 := n2_; replace HO_274001 := n3_; replace HO_274002 := n4_; replace HO_274003 := n5_; replace BK273 := n6_; replace BK281 := n7_; replace HB := n8_; clear n0_ n1_ n2_ n3_ n4_ n5_ n6_ n7_ n8_
              (try clear hb)
              (try clear hb2)
              (try clear hk)
              (try clear hi)
              refine hK.out _ _ ⟨(blk_cell BK281.out 0).trans rfl, (blk_cell BK281.out 1).trans rfl, (blk_cell BK281.out 2).trans rfl, (blk_cell BK273.out 0).trans rfl, (blk_cell BK273.out 1).trans rfl, (blk_cell BK273.out 2).trans rfl, (blk_cell BK273.out 3).trans rfl, HS7_, HS8_, HS9_⟩ (fun hHeld => ?_)
              clear hK K
              refine norm_ (a' := ?_) ?_ ?_
              rotate_left
              ·
               show Act.put _ (some 44) _ = _
               simp only [Act.put, List.setIfInBounds_toArray, List.set_cons_zero, List.set_cons_succ, i64_w, i32_w]
               rfl
              refine pure_ (i := 6) (N := some 45) (v := ?_) (a' := ?_) #[true, true, true, true, true, true, true, false, false, false, false, false] rfl rfl (any_of HT_.out (by kernel_rfl)) (fun _ _ _ h => h) (Or.inl ⟨by rfl, ?_⟩) ?_ ?_
              rotate_left
              ·
               intro w'
               go_simp
               with_reducible rfl
              rotate_left
              ·
               simp only [Act.put, List.setIfInBounds_toArray, List.set_cons_zero, List.set_cons_succ, i64_w, i32_w]
               rfl
              refine pure_ (i := 8) (N := some 47) (v := ?_) (a' := ?_) #[true, true, true, true, true, true, true, false, true, false, false, false] rfl rfl (any_of HT_.out (by kernel_rfl)) (fun _ _ _ h => h) (Or.inl ⟨by rfl, ?_⟩) ?_ ?_
              rotate_left
              ·
               intro w'
               go_simp
               with_reducible rfl
              rotate_left
              ·
               simp only [Act.put, List.setIfInBounds_toArray, List.set_cons_zero, List.set_cons_succ, i64_w, i32_w]
               rfl
              refine pure_ (i := 9) (N := some 48) (v := ?_) (a' := ?_) #[true, true, true, true, true, true, true, false, true, true, false, false] rfl rfl (any_of HT_.out (by kernel_rfl)) (fun _ _ _ h => h) (Or.inl ⟨by rfl, ?_⟩) ?_ ?_
              rotate_left
              ·
               intro w'
               go_simp
               with_reducible rfl
              rotate_left
              ·
               simp only [Act.put, List.setIfInBounds_toArray, List.set_cons_zero, List.set_cons_succ, i64_w, i32_w]
               rfl
              refine take_ (i := 7) (N := some 46) (v := ?_) (a' := ?_) #[true, true, true, true, true, true, true, true, true, true, false, false] rfl rfl (take_ofW HT_.out HW_.out (by kernel_rfl)) (fun _ _ _ h => h) (Or.inl ⟨by rfl, ?_⟩) hHeld ?_ ?_
              rotate_left
              ·
               rintro w' ⟨s0, s1, s2, s3, s4, s5, s6, s7, s8, s9⟩
               go_simp
               with_reducible rfl
              rotate_left
              ·
               simp only [Act.put, List.setIfInBounds_toArray, List.set_cons_zero, List.set_cons_succ, i64_w, i32_w]
               rfl
              refine one_ (i := 10) (N := some 49) #[true, true, true, true, true, true, true, true, true, true, true, false] rfl rfl (one_of HT_.out (by kernel_rfl)) (by decide) (fun K hK => ?_)
              refine goes_ Try.func212 (by kernel_rfl) rfl #[.agg #[.int .i64 t262, .slice Ao9 t263.length co9, .slice Ao10 t266.length co10, .slice Ao11 t269.length co11], .int .i64 x26_1, .int .i64 x12_2] (by rfl) rfl rfl (by (try simp only [List.map_toArray, List.map_cons, List.map_nil]); first | done | rfl) ?_
              with_reducible refine (impl_house_isDoor.calls t262 _ _ t263 _ _ t266 _ _ t269 x26_1 x12_2 true _ ?side1 ?side2 ?side3 ?side4 ?side5 ?side6 A26.out).mono ?_
              (case side1 => exact zC (Kd.V_reads' HO_274001.out).2.2)
              (case side2 => exact (Kd.V_reads' HO_274001.out).2.1)
              (case side3 => exact zC (Kd.S_reads' HO_274002.out).2.2)
              (case side4 => exact (Kd.S_reads' HO_274002.out).2.1)
              (case side5 => exact zC (Kd.R_reads' HO_274003.out).2.2)
              (case side6 => exact (Kd.R_reads' HO_274003.out).2.1)
              rintro e w31 ⟨rfl, hb⟩
              have HS7_ := (hb.cell (World.block_lt_of_cell? _ _ (hHeld.2.2.2.2.2.2.2.1))).trans (hHeld.2.2.2.2.2.2.2.1)
              have HS8_ := (hb.cell (World.block_lt_of_cell? _ _ (hHeld.2.2.2.2.2.2.2.2.1))).trans (hHeld.2.2.2.2.2.2.2.2.1)
              have HS9_ := (hb.cell (World.block_lt_of_cell? _ _ (hHeld.2.2.2.2.2.2.2.2.2))).trans (hHeld.2.2.2.2.2.2.2.2.2)
              refine ⟨_, rfl, ?_⟩
              have n0_ := zA0 (Kd.S_below (zS HO_8) hb)
              have n1_ := zA0 (Kd.R_below (zR HO_9) hb)
              have n2_ := zA0 (Kd.R_below (zR HO_24) hb)
              have n3_ := zA0 (Kd.V_below (zV HO_274001) hb)
              have n4_ := zA0 (Kd.S_below (zS HO_274002) hb)
              have n5_ := zA0 (Kd.R_below (zR HO_274003) hb)
              have n6_ := zA0 (blk_below (g := gb273) (o := .cells #[.int .i64 t262, .slice Ao9 t263.length co9, .slice Ao10 t266.length co10, .slice Ao11 t269.length co11] 132 (0, 0)) (zQ BK273) hb)
              have n7_ := zA0 (blk_below (g := gb281) (o := .cells #[.int .i64 ((rd_T109 t277 x26_1).f0), .int .i64 ((rd_T109 t277 x26_1).f1), .int .i64 ((rd_T109 t277 x26_1).f2)] 109 (0, 0)) (zQ BK281) hb)
              have n8_ := zA0 (below_step (by repeat (first | (with_reducible first | exact HB.out | apply zpA | apply zpN | apply zpD | refine below_set ?_ GE273.out | refine below_set ?_ GE281.out) | exact HB.out)) hb)
              replace HO_8 := n0_; replace HO_9 := n1_; replace HO_24 := n2_; replace HO_274001 := n3_; replace HO_274002 := n4_; replace HO_274003 := n5_; replace BK273 := n6_; replace BK281 := n7_; replace HB := n8_; clear n0_ n1_ n2_ n3_ n4_ n5_ n6_ n7_ n8_
              (try clear hb)
              (try clear hb2)
              (try clear hk)
              (try clear hi)
              refine hK.out _ _ ⟨(blk_cell BK281.out 0).trans rfl, (blk_cell BK281.out 1).trans rfl, (blk_cell BK281.out 2).trans rfl, (blk_cell BK273.out 0).trans rfl, (blk_cell BK273.out 1).trans rfl, (blk_cell BK273.out 2).trans rfl, (blk_cell BK273.out 3).trans rfl, HS7_, HS8_, HS9_⟩ (fun hHeld => ?_)
              clear hK K
              refine norm_ (a' := ?_) ?_ ?_
              rotate_left
              ·
               show Act.put _ (some 49) _ = _
               simp only [Act.put, List.setIfInBounds_toArray, List.set_cons_zero, List.set_cons_succ, i64_w, i32_w]
               rfl
              refine pure_ (i := 11) (N := some 50) (v := ?_) (a' := ?_) #[true, true, true, true, true, true, true, true, true, true, true, true] rfl rfl (any_of HT_.out (by kernel_rfl)) (fun _ _ _ h => h) (Or.inl ⟨by rfl, ?_⟩) ?_ ?_
              rotate_left
              ·
               intro w'
               go_simp
               with_reducible rfl
              rotate_left
              ·
               simp only [Act.put, List.setIfInBounds_toArray, List.set_cons_zero, List.set_cons_succ, i64_w, i32_w]
               rfl
              refine done_ (done_of HT_.out (by kernel_rfl)) ?_
              try go_wp2_with (first | ((with_reducible refine gate_dst (N := 54) rfl ?_); refine Kd.R_lit (Kd.int .i64) _ 3 ?hg (N := 54) ?hd (xs := ([x26_1, x12_2] : List Int)) (inner := [.int .i64 x26_1, .int .i64 x12_2]) (ok := fun _ => True) (okp := fun _ => True) ?hr ?hp (fun _ hk => hk) trivial (Below.refl _ _) (Nat.le_refl _) (by simp) ?_; (case hd => rfl); (case hg => rfl); (case hr => first | (go_simp; done) | (go_simp; rfl)); (case hp => exact (Reps.one (show Kd.M (Kd.int .i64) _ _ _ x26_1 [.int .i64 x26_1] from rfl) (Reps.one (show Kd.M (Kd.int .i64) _ _ _ x12_2 [.int .i64 x12_2] from rfl) (Reps.none _ _)))); intro v286 w32 ho33 hb hg_ hnew_; clear hg_ hnew_; (first | rw [← Ny285.out] at ho33 | (simp only [Int.reduceToNat] at ho33; rw [← Ny285.out] at ho33)); have n0_ := zA0 (Kd.S_elder' (zS HO_8) (Kd.R_base ho33) hb); have n1_ := zA0 (Kd.R_below (zR HO_9) hb); have n2_ := zA0 (Kd.R_below (zR HO_24) hb); have n3_ := zA0 (Kd.V_elder' (zV HO_274001) (Kd.R_base ho33) hb); have n4_ := zA0 (Kd.S_elder' (zS HO_274002) (Kd.R_base ho33) hb); have n5_ := zA0 (Kd.R_elder' (zR HO_274003) (Kd.R_base ho33) hb); have n6_ := zA0 (Kd.R_lower (Kd.R_new' ho33 (Kd.R_lt (zR HO_274003))) (below_size (by repeat (first | (with_reducible first | exact HB.out | apply zpA | apply zpN | apply zpD | refine below_set ?_ GE273.out | refine below_set ?_ GE281.out) | exact HB.out)))); have n7_ := zA0 (blk_below (g := gb273) (o := .cells #[.int .i64 t262, .slice Ao9 t263.length co9, .slice Ao10 t266.length co10, .slice Ao11 t269.length co11] 132 (0, 0)) (zQ BK273) hb); have n8_ := zA0 (blk_below (g := gb281) (o := .cells #[.int .i64 ((rd_T109 t277 x26_1).f0), .int .i64 ((rd_T109 t277 x26_1).f1), .int .i64 ((rd_T109 t277 x26_1).f2)] 109 (0, 0)) (zQ BK281) hb); have n9_ := zA0 (below_step (by repeat (first | (with_reducible first | exact HB.out | apply zpA | apply zpN | apply zpD | refine below_set ?_ GE273.out | refine below_set ?_ GE281.out) | exact HB.out)) hb); replace HO_8 := n0_; replace HO_9 := n1_; replace HO_24 := n2_; replace HO_274001 := n3_; replace HO_274002 := n4_; replace HO_274003 := n5_; have HO287 := n6_; replace BK273 := n7_; replace BK281 := n8_; replace HB := n9_; clear n0_ n1_ n2_ n3_ n4_ n5_ n6_ n7_ n8_ n9_; clear hb ho33; obtain ⟨Ao35, co35, eo35⟩ := Kd.R_slice HO287.out; subst eo35) | ((with_reducible refine gate_builtin (b := .append) (xs := #[.tmp 51, .tmp 55]) rfl ?_); at_builtin; refine Kd.S_append (Kd.slice 3 (Kd.int .i64)) (w0 := w) w.heap.size rfl (.tmp 51) (.tmp 55) 23 22 (.slice none 0 0) 24 rfl Try.underlying23 info22 rfl (by decide) (by omega) u8 x8_2 y285 [.slice Ao35 y285.length co35] (fun k_ => some k_ ≠ (.slice Ao10 t266.length co10 : Value).ownBlock ∧ some k_ ≠ (.slice Ao11 t269.length co11 : Value).ownBlock) (fun k_ => some k_ = (.slice Ao35 y285.length co35 : Value).ownBlock) rfl rfl ?aP (fun k_ hk_ => ((Kd.R_mono (ok' := fun k_ => ((fun k_ => some k_ ≠ (.slice Ao10 t266.length co10 : Value).ownBlock ∧ some k_ ≠ (.slice Ao11 t269.length co11 : Value).ownBlock)) k_ ∧ some k_ ≠ (u8 : Value).ownBlock) (Kd.R_apart' (Kd.R_apart' (HO287.out) (Kd.S_typed HO_274002.out) (by decide)) (Kd.S_typed HO_8.out) (by decide)) (fun k_ hk => ⟨⟨hk.1.2, hk.1.1.2⟩, hk.2⟩))).1 k_ hk_.symm) ?aF ?aO ?aB ?aS ?aL ?_; (case aP => exact Kd.M_row (Kd.R_mono (Kd.R_tight rfl (Kd.R_mono (ok' := fun k_ => ((fun k_ => some k_ ≠ (.slice Ao10 t266.length co10 : Value).ownBlock ∧ some k_ ≠ (.slice Ao11 t269.length co11 : Value).ownBlock)) k_ ∧ some k_ ≠ (u8 : Value).ownBlock) (Kd.R_apart' (Kd.R_apart' (HO287.out) (Kd.S_typed HO_274002.out) (by decide)) (Kd.S_typed HO_8.out) (by decide)) (fun k_ hk => ⟨⟨hk.1.2, hk.1.1.2⟩, hk.2⟩))) (fun _ h_ => h_))); (case aB => exact (by repeat (first | (with_reducible first | exact HB.out | apply zpA | apply zpN | apply zpD | refine below_set ?_ GE273.out | refine below_set ?_ GE281.out) | exact HB.out))); (case aF => exact (fun k_ hk => ⟨Kd.fresh' (Kd.S_lt (zS HO_274002)) k_ hk, Kd.fresh' (Kd.R_lt (zR HO_274003)) k_ hk⟩)); (case aO => exact (by (with_reducible repeat (first | apply zsA | apply zsN | apply zsD)); exact Kd.S_mono HO_8.out (fun k_ hk => ⟨⟨hk.1.1, hk.1.2⟩, fun e_ => hk.2 e_⟩))); (case aS => exact (below_size (by repeat (first | (with_reducible first | exact HB.out | apply zpA | apply zpN | apply zpD | refine below_set ?_ GE273.out | refine below_set ?_ GE281.out) | exact HB.out)))); (case aL => have := LMc28.out; omega); intro v289 w34 ho hb hg hat; rw [← Ny288.out] at ho; have n0_ := zA0 (Kd.R_over' (zR HO_9) (Kd.S_typed (zS HO_8)) (by decide) hg); have n1_ := zA0 (Kd.R_over' (zR HO_24) (Kd.S_typed (zS HO_8)) (by decide) hg); have n2_ := zA0 (Kd.V_afterv (ok := (fun k_ => some k_ ≠ (.slice (some ad280) t277.length co15 : Value).ownBlock ∧ some k_ ≠ (.slice (some ad280) t277.length co15 : Value).ownBlock ∧ some k_ ≠ (.slice Ao10 t266.length co10 : Value).ownBlock ∧ some k_ ≠ (.slice Ao11 t269.length co11 : Value).ownBlock ∧ some k_ ≠ (.slice Ao35 y285.length co35 : Value).ownBlock ∧ k_ ≠ gb273 ∧ k_ ≠ gb281)) (by (with_reducible repeat (first | apply Kd.V_alloc | apply Kd.V_drewN | apply Kd.V_drew)); exact Kd.V_mono HO_274001.out (fun _ hk => ⟨⟨hk.1.2.1, ⟨hk.1.2.2.1, ⟨hk.1.2.2.2.1, ⟨hk.1.2.2.2.2.1, ⟨hk.2, ⟨hk.1.2.2.2.2.2.1, hk.1.2.2.2.2.2.2⟩⟩⟩⟩⟩⟩, hk.1.1⟩)) hg hat); have n3_ := zA0 (Kd.S_after (ok := (fun k_ => some k_ ≠ (.slice Ao11 t269.length co11 : Value).ownBlock ∧ some k_ ≠ (.slice Ao35 y285.length co35 : Value).ownBlock)) (by (with_reducible repeat (first | apply zsA | apply zsN | apply zsD)); exact Kd.S_mono HO_274002.out (fun _ hk => ⟨⟨hk.1.2, hk.2⟩, hk.1.1⟩)) hg hat); have n4_ := zA0 (Kd.R_over' (zR HO_274003) (Kd.S_typed (zS HO_8)) (by decide) hg); have n5_ := zA0 (blk_grown (g := gb273) (o := .cells #[.int .i64 t262, .slice Ao9 t263.length co9, .slice Ao10 t266.length co10, .slice Ao11 t269.length co11] 132 (0, 0)) (zQ BK273) hg (Kd.S_ne HO_8.out BK273.out (by decide))); have n6_ := zA0 (blk_grown (g := gb281) (o := .cells #[.int .i64 ((rd_T109 t277 x26_1).f0), .int .i64 ((rd_T109 t277 x26_1).f1), .int .i64 ((rd_T109 t277 x26_1).f2)] 109 (0, 0)) (zQ BK281) hg (Kd.S_ne HO_8.out BK281.out (by decide))); have n7_ := zA0 (hb); have n8_ := zA0 (ho); clear HO_8; clear HO287; replace HO_9 := n0_; replace HO_24 := n1_; replace HO_274001 := n2_; replace HO_274002 := n3_; replace HO_274003 := n4_; replace BK273 := n5_; replace BK281 := n6_; replace HB := n7_; have HO290 := n8_; clear n0_ n1_ n2_ n3_ n4_ n5_ n6_ n7_ n8_; clear ho hb hg hat))
              go_roundg k2
              case measure => have := HK1.out; have := HK2.out; omega
              case rel => exact ⟨(y288), (wrap64 (x12_2 + 1)), (by first | rfl | (simp; done) | (simp [*]; done) | (simp; decide) | (simp; unfold wrap64; omega)), H', ⟨by have := HK1.out; have := HK2.out; omega⟩, ⟨zS HO290⟩, ⟨zR HO_9⟩, ⟨zR HO_24⟩, ⟨by (with_reducible repeat (first | apply Kd.V_alloc | apply Kd.V_drewN | apply Kd.V_drew)); exact Kd.V_mono HO_274001.out (fun _ hk => ⟨hk.2, ⟨hk.1.1, ⟨hk.1.2.1, ⟨hk.1.2.2.1, ⟨hk.1.2.2.2.1, ⟨hk.1.2.2.2.2.2.1, hk.1.2.2.2.2.2.2⟩⟩⟩⟩⟩⟩)⟩, ⟨by (with_reducible repeat (first | apply zsA | apply zsN | apply zsD)); exact Kd.S_mono HO_274002.out (fun _ hk => ⟨hk.2, hk.1.1⟩)⟩, ⟨by (with_reducible repeat (first | apply zrA | apply zrN | apply zrD)); exact Kd.R_mono HO_274003.out (fun _ hk => trivial)⟩, ⟨by (with_reducible repeat (first | refine blk_drewN ?_ _ | refine blk_drew ?_ | refine blk_alloc ?_ _)); exact BK273.out⟩, ⟨by (with_reducible repeat (first | refine blk_drewN ?_ _ | refine blk_drew ?_ | refine blk_alloc ?_ _)); exact BK281.out⟩, ⟨by repeat (first | (with_reducible first | exact HB.out | apply zpA | apply zpN | apply zpD | refine below_set ?_ GE273.out | refine below_set ?_ GE281.out) | exact HB.out)⟩⟩
             ·
              rw [if_neg c28] at H
              exact absurd H (by simp)
            ·
             replace c27 := Bool.eq_false_iff.mpr c27
             subst c27
             rw [if_neg (show ¬ (false = true) by decide)] at H
             have H' := zA0 H
             clear H
             try go_wp2
             have n0_ := zA0 (zsD HO_8.out)
             have n1_ := zA0 (zrD HO_9.out)
             have n2_ := zA0 (zrD HO_24.out)
             have n3_ := zA0 (Kd.V_drew HO_274001.out)
             have n4_ := zA0 (zsD HO_274002.out)
             have n5_ := zA0 (zrD HO_274003.out)
             have n6_ := zA0 (blk_drew BK273.out)
             have n7_ := zA0 (blk_drew BK281.out)
             have n8_ := zA0 (zpD HB.out)
             replace HO_8 := n0_; replace HO_9 := n1_; replace HO_24 := n2_; replace HO_274001 := n3_; replace HO_274002 := n4_; replace HO_274003 := n5_; replace BK273 := n6_; replace BK281 := n7_; replace HB := n8_; clear n0_ n1_ n2_ n3_ n4_ n5_ n6_ n7_ n8_
             have p282 : 0 ≤ (x12_2 : Int) := of_decide_eq_true (by first | (with_reducible assumption) | assumption)
             have q282 : x12_2 < (t277.length : Int) := of_decide_eq_true (by first | (with_reducible assumption) | assumption)
             obtain ⟨ad282, e282, hx282_0, hx282_1, hx282_2⟩ := at_T109 (Kd.R_reads' HO_9.out).2.2 x12_2 p282 q282
             obtain rfl : ad280 = ad282 := (by injection e282)
             replace p282 := eq_true p282
             replace q282 := eq_true q282
             refine start_ (n := 12) (S := fun w' => w'.cell? ⟨gb281, 0, none⟩ = some (.int .i64 ((rd_T109 t277 x26_1).f0)) ∧ w'.cell? ⟨gb281, 1, none⟩ = some (.int .i64 ((rd_T109 t277 x26_1).f1)) ∧ w'.cell? ⟨gb281, 2, none⟩ = some (.int .i64 ((rd_T109 t277 x26_1).f2)) ∧ w'.cell? ⟨gb273, 0, none⟩ = some (.int .i64 t262) ∧ w'.cell? ⟨gb273, 1, none⟩ = some (.slice Ao9 t263.length co9) ∧ w'.cell? ⟨gb273, 2, none⟩ = some (.slice Ao10 t266.length co10) ∧ w'.cell? ⟨gb273, 3, none⟩ = some (.slice Ao11 t269.length co11) ∧ w'.cell? (ad280.add ((x12_2).toNat * 3)) = some (.int .i64 ((rd_T109 t277 x12_2).f0)) ∧ w'.cell? ⟨(ad280.add ((x12_2).toNat * 3)).block, (ad280.add ((x12_2).toNat * 3)).off + 1, none⟩ = some (.int .i64 ((rd_T109 t277 x12_2).f1)) ∧ w'.cell? ⟨(ad280.add ((x12_2).toNat * 3)).block, (ad280.add ((x12_2).toNat * 3)).off + 2, none⟩ = some (.int .i64 ((rd_T109 t277 x12_2).f2))) (ds := []) #[false, false, false, false, false, false, false, false, false, false, false, false] (by kernel_rfl) rfl rfl ⟨(blk_cell BK281.out 0).trans rfl, (blk_cell BK281.out 1).trans rfl, (blk_cell BK281.out 2).trans rfl, (blk_cell BK273.out 0).trans rfl, (blk_cell BK273.out 1).trans rfl, (blk_cell BK273.out 2).trans rfl, (blk_cell BK273.out 3).trans rfl, hx282_0, hx282_1, hx282_2⟩ (fun hHeld => ?_); refine with_tabW impl_DoorsOf.tab11 impl_DoorsOf.bits11 (fun HT_ HW_ => ?_)
             generalize wr.drew = w36 at HO_8 HO_9 HO_24 HO_274001 HO_274002 HO_274003 BK273 BK281 HB hx282_0 hx282_1 hx282_2 hHeld ⊢
             refine pure_ (i := 1) (N := some 40) (v := ?_) (a' := ?_) #[false, true, false, false, false, false, false, false, false, false, false, false] rfl rfl (any_of HT_.out (by kernel_rfl)) (fun _ _ _ h => h) (Or.inl ⟨by rfl, ?_⟩) ?_ ?_
             rotate_left
             ·
              intro w'
              go_simp
              with_reducible rfl
             rotate_left
             ·
              simp only [Act.put, List.setIfInBounds_toArray, List.set_cons_zero, List.set_cons_succ, i64_w, i32_w]
              rfl
             refine pure_ (i := 2) (N := some 41) (v := ?_) (a' := ?_) #[false, true, true, false, false, false, false, false, false, false, false, false] rfl rfl (any_of HT_.out (by kernel_rfl)) (fun _ _ _ h => h) (Or.inl ⟨by rfl, ?_⟩) ?_ ?_
             rotate_left
             ·
              intro w'
              go_simp
              with_reducible rfl
             rotate_left
             ·
              simp only [Act.put, List.setIfInBounds_toArray, List.set_cons_zero, List.set_cons_succ, i64_w, i32_w]
              rfl
             refine pure_ (i := 3) (N := some 42) (v := ?_) (a' := ?_) #[false, true, true, true, false, false, false, false, false, false, false, false] rfl rfl (any_of HT_.out (by kernel_rfl)) (fun _ _ _ h => h) (Or.inl ⟨by rfl, ?_⟩) ?_ ?_
             rotate_left
             ·
              intro w'
              go_simp
              with_reducible rfl
             rotate_left
             ·
              simp only [Act.put, List.setIfInBounds_toArray, List.set_cons_zero, List.set_cons_succ, i64_w, i32_w]
              rfl
             refine take_ (i := 0) (N := some 39) (v := ?_) (a' := ?_) #[true, true, true, true, false, false, false, false, false, false, false, false] rfl rfl (take_ofW HT_.out HW_.out (by kernel_rfl)) (fun _ _ _ h => h) (Or.inl ⟨by rfl, ?_⟩) hHeld ?_ ?_
             rotate_left
             ·
              rintro w' ⟨s0, s1, s2, s3, s4, s5, s6, s7, s8, s9⟩
              go_simp
              with_reducible rfl
             rotate_left
             ·
              simp only [Act.put, List.setIfInBounds_toArray, List.set_cons_zero, List.set_cons_succ, i64_w, i32_w]
              rfl
             refine take_ (i := 4) (N := some 43) (v := ?_) (a' := ?_) #[true, true, true, true, true, false, false, false, false, false, false, false] rfl rfl (take_ofW HT_.out HW_.out (by kernel_rfl)) (fun _ _ _ h => h) (Or.inl ⟨by rfl, ?_⟩) hHeld ?_ ?_
             rotate_left
             ·
              rintro w' ⟨s0, s1, s2, s3, s4, s5, s6, s7, s8, s9⟩
              go_simp
              with_reducible rfl
             rotate_left
             ·
              simp only [Act.put, List.setIfInBounds_toArray, List.set_cons_zero, List.set_cons_succ, i64_w, i32_w]
              rfl
             refine one_ (i := 5) (N := some 44) #[true, true, true, true, true, true, false, false, false, false, false, false] rfl rfl (one_of HT_.out (by kernel_rfl)) (by decide) (fun K hK => ?_)
             refine goes_ Try.func191 (by kernel_rfl) rfl #[.agg #[.int .i64 ((rd_T109 t277 x26_1).f0), .int .i64 ((rd_T109 t277 x26_1).f1), .int .i64 ((rd_T109 t277 x26_1).f2)], .agg #[.int .i64 ((rd_T109 t277 x12_2).f0), .int .i64 ((rd_T109 t277 x12_2).f1), .int .i64 ((rd_T109 t277 x12_2).f2)]] (by rfl) rfl rfl (by (try simp only [List.map_toArray, List.map_cons, List.map_nil]); first | done | rfl) ?_
             with_reducible refine (impl_near.calls k2 ((rd_T109 t277 x26_1).f0) ((rd_T109 t277 x26_1).f1) ((rd_T109 t277 x26_1).f2) ((rd_T109 t277 x12_2).f0) ((rd_T109 t277 x12_2).f1) ((rd_T109 t277 x12_2).f2) true _ A24.out).mono ?_
             rintro e w37 ⟨rfl, hb⟩
             have HS7_ := (hb.cell (World.block_lt_of_cell? _ _ (hHeld.2.2.2.2.2.2.2.1))).trans (hHeld.2.2.2.2.2.2.2.1)
             have HS8_ := (hb.cell (World.block_lt_of_cell? _ _ (hHeld.2.2.2.2.2.2.2.2.1))).trans (hHeld.2.2.2.2.2.2.2.2.1)
             have HS9_ := (hb.cell (World.block_lt_of_cell? _ _ (hHeld.2.2.2.2.2.2.2.2.2))).trans (hHeld.2.2.2.2.2.2.2.2.2)
             refine ⟨_, rfl, ?_⟩
             have n0_ := zA0 (Kd.S_below (zS HO_8) hb)
             have n1_ := zA0 (Kd.R_below (zR HO_9) hb)
             have n2_ := zA0 (Kd.R_below (zR HO_24) hb)
             have n3_ := zA0 (Kd.V_below (zV HO_274001) hb)
             have n4_ := zA0 (Kd.S_below (zS HO_274002) hb)
             have n5_ := zA0 (Kd.R_below (zR HO_274003) hb)
             have n6_ := zA0 (blk_below (g := gb273) (o := .cells #[.int .i64 t262, .slice Ao9 t263.length co9, .slice Ao10 t266.length co10, .slice Ao11 t269.length co11] 132 (0, 0)) (zQ BK273) hb)
             have n7_ := zA0 (blk_below (g := gb281) (o := .cells #[.int .i64 ((rd_T109 t277 x26_1).f0), .int .i64 ((rd_T109 t277 x26_1).f1), .int .i64 ((rd_T109 t277 x26_1).f2)] 109 (0, 0)) (zQ BK281) hb)
             have n8_ := zA0 (below_step (by repeat (first | (with_reducible first | exact HB.out | apply zpA | apply zpN | apply zpD | refine below_set ?_ GE273.out | refine below_set ?_ GE281.out) | exact HB.out)) hb)
             replace HO_8 := n0_; replace HO_9 := n1_; replace HO_24 := n2_; replace HO_274001 := n3_; replace HO_274002 := n4_; replace HO_274003 := n5_; replace BK273 := n6_; replace BK281 := n7_; replace HB := n8_; clear n0_ n1_ n2_ n3_ n4_ n5_ n6_ n7_ n8_
             (try clear hb)
             (try clear hb2)
             (try clear hk)
             (try clear hi)
             refine hK.out _ _ ⟨(blk_cell BK281.out 0).trans rfl, (blk_cell BK281.out 1).trans rfl, (blk_cell BK281.out 2).trans rfl, (blk_cell BK273.out 0).trans rfl, (blk_cell BK273.out 1).trans rfl, (blk_cell BK273.out 2).trans rfl, (blk_cell BK273.out 3).trans rfl, HS7_, HS8_, HS9_⟩ (fun hHeld => ?_)
             clear hK K
             refine norm_ (a' := ?_) ?_ ?_
             rotate_left
             ·
              show Act.put _ (some 44) _ = _
              simp only [Act.put, List.setIfInBounds_toArray, List.set_cons_zero, List.set_cons_succ, i64_w, i32_w]
              rfl
             refine pure_ (i := 6) (N := some 45) (v := ?_) (a' := ?_) #[true, true, true, true, true, true, true, false, false, false, false, false] rfl rfl (any_of HT_.out (by kernel_rfl)) (fun _ _ _ h => h) (Or.inl ⟨by rfl, ?_⟩) ?_ ?_
             rotate_left
             ·
              intro w'
              go_simp
              with_reducible rfl
             rotate_left
             ·
              simp only [Act.put, List.setIfInBounds_toArray, List.set_cons_zero, List.set_cons_succ, i64_w, i32_w]
              rfl
             refine pure_ (i := 8) (N := some 47) (v := ?_) (a' := ?_) #[true, true, true, true, true, true, true, false, true, false, false, false] rfl rfl (any_of HT_.out (by kernel_rfl)) (fun _ _ _ h => h) (Or.inl ⟨by rfl, ?_⟩) ?_ ?_
             rotate_left
             ·
              intro w'
              go_simp
              with_reducible rfl
             rotate_left
             ·
              simp only [Act.put, List.setIfInBounds_toArray, List.set_cons_zero, List.set_cons_succ, i64_w, i32_w]
              rfl
             refine pure_ (i := 9) (N := some 48) (v := ?_) (a' := ?_) #[true, true, true, true, true, true, true, false, true, true, false, false] rfl rfl (any_of HT_.out (by kernel_rfl)) (fun _ _ _ h => h) (Or.inl ⟨by rfl, ?_⟩) ?_ ?_
             rotate_left
             ·
              intro w'
              go_simp
              with_reducible rfl
             rotate_left
             ·
              simp only [Act.put, List.setIfInBounds_toArray, List.set_cons_zero, List.set_cons_succ, i64_w, i32_w]
              rfl
             refine take_ (i := 7) (N := some 46) (v := ?_) (a' := ?_) #[true, true, true, true, true, true, true, true, true, true, false, false] rfl rfl (take_ofW HT_.out HW_.out (by kernel_rfl)) (fun _ _ _ h => h) (Or.inl ⟨by rfl, ?_⟩) hHeld ?_ ?_
             rotate_left
             ·
              rintro w' ⟨s0, s1, s2, s3, s4, s5, s6, s7, s8, s9⟩
              go_simp
              with_reducible rfl
             rotate_left
             ·
              simp only [Act.put, List.setIfInBounds_toArray, List.set_cons_zero, List.set_cons_succ, i64_w, i32_w]
              rfl
             refine one_ (i := 10) (N := some 49) #[true, true, true, true, true, true, true, true, true, true, true, false] rfl rfl (one_of HT_.out (by kernel_rfl)) (by decide) (fun K hK => ?_)
             refine goes_ Try.func212 (by kernel_rfl) rfl #[.agg #[.int .i64 t262, .slice Ao9 t263.length co9, .slice Ao10 t266.length co10, .slice Ao11 t269.length co11], .int .i64 x26_1, .int .i64 x12_2] (by rfl) rfl rfl (by (try simp only [List.map_toArray, List.map_cons, List.map_nil]); first | done | rfl) ?_
             with_reducible refine (impl_house_isDoor.calls t262 _ _ t263 _ _ t266 _ _ t269 x26_1 x12_2 false _ ?side1 ?side2 ?side3 ?side4 ?side5 ?side6 A26.out).mono ?_
             (case side1 => exact zC (Kd.V_reads' HO_274001.out).2.2)
             (case side2 => exact (Kd.V_reads' HO_274001.out).2.1)
             (case side3 => exact zC (Kd.S_reads' HO_274002.out).2.2)
             (case side4 => exact (Kd.S_reads' HO_274002.out).2.1)
             (case side5 => exact zC (Kd.R_reads' HO_274003.out).2.2)
             (case side6 => exact (Kd.R_reads' HO_274003.out).2.1)
             rintro e w38 ⟨rfl, hb⟩
             have HS7_ := (hb.cell (World.block_lt_of_cell? _ _ (hHeld.2.2.2.2.2.2.2.1))).trans (hHeld.2.2.2.2.2.2.2.1)
             have HS8_ := (hb.cell (World.block_lt_of_cell? _ _ (hHeld.2.2.2.2.2.2.2.2.1))).trans (hHeld.2.2.2.2.2.2.2.2.1)
             have HS9_ := (hb.cell (World.block_lt_of_cell? _ _ (hHeld.2.2.2.2.2.2.2.2.2))).trans (hHeld.2.2.2.2.2.2.2.2.2)
             refine ⟨_, rfl, ?_⟩
             have n0_ := zA0 (Kd.S_below (zS HO_8) hb)
             have n1_ := zA0 (Kd.R_below (zR HO_9) hb)
             have n2_ := zA0 (Kd.R_below (zR HO_24) hb)
             have n3_ := zA0 (Kd.V_below (zV HO_274001) hb)
             have n4_ := zA0 (Kd.S_below (zS HO_274002) hb)
             have n5_ := zA0 (Kd.R_below (zR HO_274003) hb)
             have n6_ := zA0 (blk_below (g := gb273) (o := .cells #[.int .i64 t262, .slice Ao9 t263.length co9, .slice Ao10 t266.length co10, .slice Ao11 t269.length co11] 132 (0, 0)) (zQ BK273) hb)
             have n7_ := zA0 (blk_below (g := gb281) (o := .cells #[.int .i64 ((rd_T109 t277 x26_1).f0), .int .i64 ((rd_T109 t277 x26_1).f1), .int .i64 ((rd_T109 t277 x26_1).f2)] 109 (0, 0)) (zQ BK281) hb)
             have n8_ := zA0 (below_step (by repeat (first | (with_reducible first | exact HB.out | apply zpA | apply zpN | apply zpD | refine below_set ?_ GE273.out | refine below_set ?_ GE281.out) | exact HB.out)) hb)
             replace HO_8 := n0_; replace HO_9 := n1_; replace HO_24 := n2_; replace HO_274001 := n3_; replace HO_274002 := n4_; replace HO_274003 := n5_; replace BK273 := n6_; replace BK281 := n7_; replace HB := n8_; clear n0_ n1_ n2_ n3_ n4_ n5_ n6_ n7_ n8_
             (try clear hb)
             (try clear hb2)
             (try clear hk)
             (try clear hi)
             refine hK.out _ _ ⟨(blk_cell BK281.out 0).trans rfl, (blk_cell BK281.out 1).trans rfl, (blk_cell BK281.out 2).trans rfl, (blk_cell BK273.out 0).trans rfl, (blk_cell BK273.out 1).trans rfl, (blk_cell BK273.out 2).trans rfl, (blk_cell BK273.out 3).trans rfl, HS7_, HS8_, HS9_⟩ (fun hHeld => ?_)
             clear hK K
             refine norm_ (a' := ?_) ?_ ?_
             rotate_left
             ·
              show Act.put _ (some 49) _ = _
              simp only [Act.put, List.setIfInBounds_toArray, List.set_cons_zero, List.set_cons_succ, i64_w, i32_w]
              rfl
             refine pure_ (i := 11) (N := some 50) (v := ?_) (a' := ?_) #[true, true, true, true, true, true, true, true, true, true, true, true] rfl rfl (any_of HT_.out (by kernel_rfl)) (fun _ _ _ h => h) (Or.inl ⟨by rfl, ?_⟩) ?_ ?_
             rotate_left
             ·
              intro w'
              go_simp
              with_reducible rfl
             rotate_left
             ·
              simp only [Act.put, List.setIfInBounds_toArray, List.set_cons_zero, List.set_cons_succ, i64_w, i32_w]
              rfl
             refine done_ (done_of HT_.out (by kernel_rfl)) ?_
             try go_wp2
             go_roundg k2
             case measure => have := HK1.out; have := HK2.out; omega
             case rel => exact ⟨(x8_2), (wrap64 (x12_2 + 1)), (by first | rfl | (simp; done) | (simp [*]; done) | (simp; decide) | (simp; unfold wrap64; omega)), H', ⟨by have := HK1.out; have := HK2.out; omega⟩, ⟨zS HO_8⟩, ⟨zR HO_9⟩, ⟨zR HO_24⟩, ⟨zV HO_274001⟩, ⟨zS HO_274002⟩, ⟨zR HO_274003⟩, ⟨by (with_reducible repeat (first | refine blk_drewN ?_ _ | refine blk_drew ?_ | refine blk_alloc ?_ _)); exact BK273.out⟩, ⟨by (with_reducible repeat (first | refine blk_drewN ?_ _ | refine blk_drew ?_ | refine blk_alloc ?_ _)); exact BK281.out⟩, ⟨by repeat (first | (with_reducible first | exact HB.out | apply zpA | apply zpN | apply zpD | refine below_set ?_ GE273.out | refine below_set ?_ GE281.out) | exact HB.out)⟩⟩
           ·
            replace c25 := Bool.eq_false_iff.mpr c25
            subst c25
            rw [if_neg (show ¬ (false = true) by decide)] at H
            have H' := zA0 H
            clear H
            try go_wp2
            have n0_ := zA0 (zsD HO_8.out)
            have n1_ := zA0 (zrD HO_9.out)
            have n2_ := zA0 (zrD HO_24.out)
            have n3_ := zA0 (Kd.V_drew HO_274001.out)
            have n4_ := zA0 (zsD HO_274002.out)
            have n5_ := zA0 (zrD HO_274003.out)
            have n6_ := zA0 (blk_drew BK273.out)
            have n7_ := zA0 (blk_drew BK281.out)
            have n8_ := zA0 (zpD HB.out)
            replace HO_8 := n0_; replace HO_9 := n1_; replace HO_24 := n2_; replace HO_274001 := n3_; replace HO_274002 := n4_; replace HO_274003 := n5_; replace BK273 := n6_; replace BK281 := n7_; replace HB := n8_; clear n0_ n1_ n2_ n3_ n4_ n5_ n6_ n7_ n8_
            have p282 : 0 ≤ (x12_2 : Int) := of_decide_eq_true (by first | (with_reducible assumption) | assumption)
            have q282 : x12_2 < (t277.length : Int) := of_decide_eq_true (by first | (with_reducible assumption) | assumption)
            obtain ⟨ad282, e282, hx282_0, hx282_1, hx282_2⟩ := at_T109 (Kd.R_reads' HO_9.out).2.2 x12_2 p282 q282
            obtain rfl : ad280 = ad282 := (by injection e282)
            replace p282 := eq_true p282
            replace q282 := eq_true q282
            refine start_ (n := 12) (S := fun w' => w'.cell? ⟨gb281, 0, none⟩ = some (.int .i64 ((rd_T109 t277 x26_1).f0)) ∧ w'.cell? ⟨gb281, 1, none⟩ = some (.int .i64 ((rd_T109 t277 x26_1).f1)) ∧ w'.cell? ⟨gb281, 2, none⟩ = some (.int .i64 ((rd_T109 t277 x26_1).f2)) ∧ w'.cell? (ad280.add ((x12_2).toNat * 3)) = some (.int .i64 ((rd_T109 t277 x12_2).f0)) ∧ w'.cell? ⟨(ad280.add ((x12_2).toNat * 3)).block, (ad280.add ((x12_2).toNat * 3)).off + 1, none⟩ = some (.int .i64 ((rd_T109 t277 x12_2).f1)) ∧ w'.cell? ⟨(ad280.add ((x12_2).toNat * 3)).block, (ad280.add ((x12_2).toNat * 3)).off + 2, none⟩ = some (.int .i64 ((rd_T109 t277 x12_2).f2))) (ds := []) #[false, false, false, false, false, false, false, false, false, false, false, false] (by kernel_rfl) rfl rfl ⟨(blk_cell BK281.out 0).trans rfl, (blk_cell BK281.out 1).trans rfl, (blk_cell BK281.out 2).trans rfl, hx282_0, hx282_1, hx282_2⟩ (fun hHeld => ?_); refine with_tabW impl_DoorsOf.tab11 impl_DoorsOf.bits11 (fun HT_ HW_ => ?_)
            generalize wr.drew = w39 at HO_8 HO_9 HO_24 HO_274001 HO_274002 HO_274003 BK273 BK281 HB hx282_0 hx282_1 hx282_2 hHeld ⊢
            refine pure_ (i := 1) (N := some 40) (v := ?_) (a' := ?_) #[false, true, false, false, false, false, false, false, false, false, false, false] rfl rfl (any_of HT_.out (by kernel_rfl)) (fun _ _ _ h => h) (Or.inl ⟨by rfl, ?_⟩) ?_ ?_
            rotate_left
            ·
             intro w'
             go_simp
             with_reducible rfl
            rotate_left
            ·
             simp only [Act.put, List.setIfInBounds_toArray, List.set_cons_zero, List.set_cons_succ, i64_w, i32_w]
             rfl
            refine pure_ (i := 2) (N := some 41) (v := ?_) (a' := ?_) #[false, true, true, false, false, false, false, false, false, false, false, false] rfl rfl (any_of HT_.out (by kernel_rfl)) (fun _ _ _ h => h) (Or.inl ⟨by rfl, ?_⟩) ?_ ?_
            rotate_left
            ·
             intro w'
             go_simp
             with_reducible rfl
            rotate_left
            ·
             simp only [Act.put, List.setIfInBounds_toArray, List.set_cons_zero, List.set_cons_succ, i64_w, i32_w]
             rfl
            refine pure_ (i := 3) (N := some 42) (v := ?_) (a' := ?_) #[false, true, true, true, false, false, false, false, false, false, false, false] rfl rfl (any_of HT_.out (by kernel_rfl)) (fun _ _ _ h => h) (Or.inl ⟨by rfl, ?_⟩) ?_ ?_
            rotate_left
            ·
             intro w'
             go_simp
             with_reducible rfl
            rotate_left
            ·
             simp only [Act.put, List.setIfInBounds_toArray, List.set_cons_zero, List.set_cons_succ, i64_w, i32_w]
             rfl
            refine take_ (i := 0) (N := some 39) (v := ?_) (a' := ?_) #[true, true, true, true, false, false, false, false, false, false, false, false] rfl rfl (take_ofW HT_.out HW_.out (by kernel_rfl)) (fun _ _ _ h => h) (Or.inl ⟨by rfl, ?_⟩) hHeld ?_ ?_
            rotate_left
            ·
             rintro w' ⟨s0, s1, s2, s3, s4, s5⟩
             go_simp
             with_reducible rfl
            rotate_left
            ·
             simp only [Act.put, List.setIfInBounds_toArray, List.set_cons_zero, List.set_cons_succ, i64_w, i32_w]
             rfl
            refine take_ (i := 4) (N := some 43) (v := ?_) (a' := ?_) #[true, true, true, true, true, false, false, false, false, false, false, false] rfl rfl (take_ofW HT_.out HW_.out (by kernel_rfl)) (fun _ _ _ h => h) (Or.inl ⟨by rfl, ?_⟩) hHeld ?_ ?_
            rotate_left
            ·
             rintro w' ⟨s0, s1, s2, s3, s4, s5⟩
             go_simp
             with_reducible rfl
            rotate_left
            ·
             simp only [Act.put, List.setIfInBounds_toArray, List.set_cons_zero, List.set_cons_succ, i64_w, i32_w]
             rfl
            refine one_ (i := 5) (N := some 44) #[true, true, true, true, true, true, false, false, false, false, false, false] rfl rfl (one_of HT_.out (by kernel_rfl)) (by decide) (fun K hK => ?_)
            refine goes_ Try.func191 (by kernel_rfl) rfl #[.agg #[.int .i64 ((rd_T109 t277 x26_1).f0), .int .i64 ((rd_T109 t277 x26_1).f1), .int .i64 ((rd_T109 t277 x26_1).f2)], .agg #[.int .i64 ((rd_T109 t277 x12_2).f0), .int .i64 ((rd_T109 t277 x12_2).f1), .int .i64 ((rd_T109 t277 x12_2).f2)]] (by rfl) rfl rfl (by (try simp only [List.map_toArray, List.map_cons, List.map_nil]); first | done | rfl) ?_
            with_reducible refine (impl_near.calls k2 ((rd_T109 t277 x26_1).f0) ((rd_T109 t277 x26_1).f1) ((rd_T109 t277 x26_1).f2) ((rd_T109 t277 x12_2).f0) ((rd_T109 t277 x12_2).f1) ((rd_T109 t277 x12_2).f2) false _ A24.out).mono ?_
            rintro e w40 ⟨rfl, hb⟩
            have HS3_ := (hb.cell (World.block_lt_of_cell? _ _ (hHeld.2.2.2.1))).trans (hHeld.2.2.2.1)
            have HS4_ := (hb.cell (World.block_lt_of_cell? _ _ (hHeld.2.2.2.2.1))).trans (hHeld.2.2.2.2.1)
            have HS5_ := (hb.cell (World.block_lt_of_cell? _ _ (hHeld.2.2.2.2.2))).trans (hHeld.2.2.2.2.2)
            refine ⟨_, rfl, ?_⟩
            have n0_ := zA0 (Kd.S_below (zS HO_8) hb)
            have n1_ := zA0 (Kd.R_below (zR HO_9) hb)
            have n2_ := zA0 (Kd.R_below (zR HO_24) hb)
            have n3_ := zA0 (Kd.V_below (zV HO_274001) hb)
            have n4_ := zA0 (Kd.S_below (zS HO_274002) hb)
            have n5_ := zA0 (Kd.R_below (zR HO_274003) hb)
            have n6_ := zA0 (blk_below (g := gb273) (o := .cells #[.int .i64 t262, .slice Ao9 t263.length co9, .slice Ao10 t266.length co10, .slice Ao11 t269.length co11] 132 (0, 0)) (zQ BK273) hb)
            have n7_ := zA0 (blk_below (g := gb281) (o := .cells #[.int .i64 ((rd_T109 t277 x26_1).f0), .int .i64 ((rd_T109 t277 x26_1).f1), .int .i64 ((rd_T109 t277 x26_1).f2)] 109 (0, 0)) (zQ BK281) hb)
            have n8_ := zA0 (below_step (by repeat (first | (with_reducible first | exact HB.out | apply zpA | apply zpN | apply zpD | refine below_set ?_ GE273.out | refine below_set ?_ GE281.out) | exact HB.out)) hb)
            replace HO_8 := n0_; replace HO_9 := n1_; replace HO_24 := n2_; replace HO_274001 := n3_; replace HO_274002 := n4_; replace HO_274003 := n5_; replace BK273 := n6_; replace BK281 := n7_; replace HB := n8_; clear n0_ n1_ n2_ n3_ n4_ n5_ n6_ n7_ n8_
            (try clear hb)
            (try clear hb2)
            (try clear hk)
            (try clear hi)
            refine hK.out _ _ ⟨(blk_cell BK281.out 0).trans rfl, (blk_cell BK281.out 1).trans rfl, (blk_cell BK281.out 2).trans rfl, HS3_, HS4_, HS5_⟩ (fun hHeld => ?_)
            clear hK K
            refine norm_ (a' := ?_) ?_ ?_
            rotate_left
            ·
             show Act.put _ (some 44) _ = _
             simp only [Act.put, List.setIfInBounds_toArray, List.set_cons_zero, List.set_cons_succ, i64_w, i32_w]
             rfl
            refine pure_ (i := 6) (N := some 45) (v := ?_) (a' := ?_) #[true, true, true, true, true, true, true, false, false, false, false, false] rfl rfl (any_of HT_.out (by kernel_rfl)) (fun _ _ _ h => h) (Or.inl ⟨by rfl, ?_⟩) ?_ ?_
            rotate_left
            ·
             intro w'
             go_simp
             with_reducible rfl
            rotate_left
            ·
             simp only [Act.put, List.setIfInBounds_toArray, List.set_cons_zero, List.set_cons_succ, i64_w, i32_w]
             rfl
            refine pure_ (i := 7) (N := some 46) (v := undef) (a' := ?_) #[true, true, true, true, true, true, true, true, false, false, false, false] rfl rfl (any_of HT_.out (by kernel_rfl)) (fun _ _ _ h => h) (Or.inr ⟨by rfl, rfl⟩) ?_ ?_
            rotate_left
            ·
             simp only [Act.put, List.setIfInBounds_toArray, List.set_cons_zero, List.set_cons_succ, i64_w, i32_w]
             rfl
            refine pure_ (i := 8) (N := some 47) (v := undef) (a' := ?_) #[true, true, true, true, true, true, true, true, true, false, false, false] rfl rfl (any_of HT_.out (by kernel_rfl)) (fun _ _ _ h => h) (Or.inr ⟨by rfl, rfl⟩) ?_ ?_
            rotate_left
            ·
             simp only [Act.put, List.setIfInBounds_toArray, List.set_cons_zero, List.set_cons_succ, i64_w, i32_w]
             rfl
            refine pure_ (i := 9) (N := some 48) (v := undef) (a' := ?_) #[true, true, true, true, true, true, true, true, true, true, false, false] rfl rfl (any_of HT_.out (by kernel_rfl)) (fun _ _ _ h => h) (Or.inr ⟨by rfl, rfl⟩) ?_ ?_
            rotate_left
            ·
             simp only [Act.put, List.setIfInBounds_toArray, List.set_cons_zero, List.set_cons_succ, i64_w, i32_w]
             rfl
            refine pure_ (i := 10) (N := some 49) (v := undef) (a' := ?_) #[true, true, true, true, true, true, true, true, true, true, true, false] rfl rfl (any_of HT_.out (by kernel_rfl)) (fun _ _ _ h => h) (Or.inr ⟨by rfl, rfl⟩) ?_ ?_
            rotate_left
            ·
             simp only [Act.put, List.setIfInBounds_toArray, List.set_cons_zero, List.set_cons_succ, i64_w, i32_w]
             rfl
            refine pure_ (i := 11) (N := some 50) (v := ?_) (a' := ?_) #[true, true, true, true, true, true, true, true, true, true, true, true] rfl rfl (any_of HT_.out (by kernel_rfl)) (fun _ _ _ h => h) (Or.inl ⟨by rfl, ?_⟩) ?_ ?_
            rotate_left
            ·
             intro w'
             go_simp
             with_reducible rfl
            rotate_left
            ·
             simp only [Act.put, List.setIfInBounds_toArray, List.set_cons_zero, List.set_cons_succ, i64_w, i32_w]
             rfl
            refine done_ (done_of HT_.out (by kernel_rfl)) ?_
            try go_wp2
            go_roundg k2
            case measure => have := HK1.out; have := HK2.out; omega
            case rel => exact ⟨(x8_2), (wrap64 (x12_2 + 1)), (by first | rfl | (simp; done) | (simp [*]; done) | (simp; decide) | (simp; unfold wrap64; omega)), H', ⟨by have := HK1.out; have := HK2.out; omega⟩, ⟨zS HO_8⟩, ⟨zR HO_9⟩, ⟨zR HO_24⟩, ⟨zV HO_274001⟩, ⟨zS HO_274002⟩, ⟨zR HO_274003⟩, ⟨by (with_reducible repeat (first | refine blk_drewN ?_ _ | refine blk_drew ?_ | refine blk_alloc ?_ _)); exact BK273.out⟩, ⟨by (with_reducible repeat (first | refine blk_drewN ?_ _ | refine blk_drew ?_ | refine blk_alloc ?_ _)); exact BK281.out⟩, ⟨by repeat (first | (with_reducible first | exact HB.out | apply zpA | apply zpN | apply zpD | refine below_set ?_ GE273.out | refine below_set ?_ GE281.out) | exact HB.out)⟩⟩
          ·
           rw [if_neg c23] at H
           exact absurd H (by simp)
         ·
          rw [if_neg c22] at H
          have c22b0 : decide (x12_2 < (t277.length : Int)) = false := decide_eq_false c22
          clear c22
          have H' := zA0 H
          clear H
          go_wp2
          go_roundg k2
          case measure => have := HK1.out; have := HK2.out; omega
          case rel => exact ⟨(x8_2), (wrap64 (x26_1 + 1)), (by first | rfl | (simp; done) | (simp [*]; done) | (simp; decide) | (simp; unfold wrap64; omega)), H', ⟨by have := HK1.out; have := HK2.out; omega⟩, ⟨zS HO_8⟩, ⟨by (with_reducible repeat (first | apply zrA | apply zrN | apply zrD)); exact Kd.R_mono HO_9.out (fun _ hk => trivial)⟩, ⟨by (with_reducible repeat (first | apply zrA | apply zrN | apply zrD)); exact Kd.R_mono HO_24.out (fun _ hk => trivial)⟩, ⟨by (with_reducible repeat (first | apply Kd.V_alloc | apply Kd.V_drewN | apply Kd.V_drew)); exact Kd.V_mono HO_274001.out (fun _ hk => ⟨hk.1, ⟨hk.2.1, ⟨hk.2.2.1, ⟨hk.2.2.2.1, ⟨hk.2.2.2.2.1, hk.2.2.2.2.2.1⟩⟩⟩⟩⟩)⟩, ⟨zS HO_274002⟩, ⟨zR HO_274003⟩, ⟨by (with_reducible repeat (first | refine blk_drewN ?_ _ | refine blk_drew ?_ | refine blk_alloc ?_ _)); exact BK273.out⟩, ⟨by repeat (first | (with_reducible first | exact HB.out | apply zpA | apply zpN | apply zpD | refine below_set ?_ GE273.out | refine below_set ?_ GE281.out) | exact HB.out)⟩⟩
      ·
       rw [if_neg c18] at H
       exact absurd H (by simp)
     ·
      rw [if_neg c17] at H
      exact absurd H (by simp)
    ·
     rw [if_neg c16] at H
     have c16b0 : decide (x26_1 < (t277.length : Int)) = false := decide_eq_false c16
     clear c16
     simp only [Option.some.injEq, Prod.mk.injEq] at H
     obtain ⟨rfl, rfl⟩ := H
     go_wp2
     go_ret2
     exact ⟨_, by first | rfl | (simp [errW_none, errW_some] <;> rfl) | (simp [*, errW_none, errW_some] <;> rfl), by (with_reducible repeat (first | apply zsA | apply zsN | apply zsD)); exact Kd.S_mono HO_8.out (fun _ hk => trivial), by repeat (first | (with_reducible first | exact HB.out | apply zpA | apply zpN | apply zpD | refine below_set ?_ GE273.out) | exact HB.out)⟩
 ·
  replace c4 := Bool.eq_false_iff.mpr c4
  subst c4
  rw [if_neg (show ¬ (false = true) by decide)] at H
  simp only [Option.some.injEq, Prod.mk.injEq] at H
  obtain ⟨rfl, rfl⟩ := H
  go_enter Try.func84, Try.ntmps84
  go_wp2_with (first | ((with_reducible refine gate_callee (f := 206) rfl ?_); refine goesL_ (some 16) rfl rfl Try.func206 (by kernel_rfl) rfl #[.int .i64 a0, .slice A1 l1.length c1] rfl (by (try simp only [List.map_toArray, List.map_cons, List.map_nil]); first | done | rfl) ?_; (with_reducible refine (impl_houseOf.calls k a0 (fun k_ => k_ < w.heap.size) _ _ l1 t262 t263 t266 t269 false _ ?side1 A3.out).mono ?_); (case side1 => exact Kd.V_mk HC1.out (Kd.F_below (Kd.C_F (Kd.heap_int .i64) HR1.out) (zB HB))); rintro e w41 ⟨v264, v267, v270, rfl, ho0, ho1, ho2, hb⟩; refine ⟨_, rfl, ?_⟩; have n0_ := zA0 (Kd.V_lower (Kd.V_mono (ok' := fun k_ => some k_ ≠ (v267 : Value).ownBlock ∧ some k_ ≠ (v270 : Value).ownBlock) ho0 (fun k_ hk_ => ⟨hk_.2.1, hk_.2.2⟩)) (below_size (zB HB))); have n1_ := zA0 (Kd.S_lower (Kd.S_mono (ok' := fun k_ => some k_ ≠ (v270 : Value).ownBlock) ho1 (fun _ hk_ => hk_.2)) (below_size (zB HB))); have n2_ := zA0 (Kd.R_lower (Kd.R_mono (ok' := fun k_ => True) ho2 (fun _ hk_ => trivial)) (below_size (zB HB))); have n3_ := zA0 (below_step (zB HB) hb); have HO265 := n0_; have HO268 := n1_; have HO271 := n2_; replace HB := n3_; clear n0_ n1_ n2_ n3_; (try clear hb); (try clear hb2); (try clear hk); (try clear hi); (try clear ho0); (try clear ho1); (try clear ho2)) | ((with_reducible refine gate_dst (N := 6) rfl ?_); refine box_event ?hg (N := 6) ?hd (cs := #[.int .i64 0, .slice none 0 0, .slice none 0 0, .slice none 0 0]) (t := 132) ?hr ?_; (case hd => rfl); (case hg => rfl); (case hr => first | (go_simp; done) | (go_simp; rfl)); intro gb273 hg w42 hbox hb; have n0_ := zA0 (Kd.V_below (Kd.V_elderB (zV HO265) gb273 (Nat.le_of_eq hg.symm)) hb); have n1_ := zA0 (Kd.S_below (zS HO268) hb); have n2_ := zA0 (Kd.R_below (zR HO271) hb); have n3_ := zA0 (below_step (zB HB) hb); have n4_ := zA0 (hbox); have n5_ := zA0 ((by rw [hg]; exact (below_size (zB HB)) : w.heap.size ≤ gb273)); have n6_ := zA0 ((by rw [hg]; exact (below_size (zB HB)) : w.heap.size ≤ gb273)); replace HO265 := n0_; replace HO268 := n1_; replace HO271 := n2_; replace HB := n3_; have BK273 := n4_; have GW273 := n5_; have GE273 := n6_; clear n0_ n1_ n2_ n3_ n4_ n5_ n6_; clear hb hbox hg; have hcz43_0 : w42.cell? ⟨gb273, 0, none⟩ = some (.int .i64 0) := (blk_cell BK273.out 0).trans rfl; have hcz43_1 : w42.cell? ⟨gb273, 1, none⟩ = some (.slice none 0 0) := (blk_cell BK273.out 1).trans rfl; have hcz43_2 : w42.cell? ⟨gb273, 2, none⟩ = some (.slice none 0 0) := (blk_cell BK273.out 2).trans rfl; have hcz43_3 : w42.cell? ⟨gb273, 3, none⟩ = some (.slice none 0 0) := (blk_cell BK273.out 3).trans rfl; have hfz43_0 := blk_frozen BK273.out 0; have hfz43_1 := blk_frozen BK273.out 1; have hfz43_2 := blk_frozen BK273.out 2; have hfz43_3 := blk_frozen BK273.out 3; obtain ⟨Ao44, co44, eo44⟩ := Kd.V_slice HO265.out; subst eo44; obtain ⟨Ao45, co45, eo45⟩ := Kd.S_slice HO268.out; subst eo45; obtain ⟨Ao46, co46, eo46⟩ := Kd.R_slice HO271.out; subst eo46))
  go_ret2
  exact ⟨_, by first | rfl | (simp [errW_none, errW_some] <;> rfl) | (simp [*, errW_none, errW_some] <;> rfl), by first | exact Kd.S_nil _ _ _ _ _ | exact Kd.N_nil _ _ _ _ _ | exact Kd.V_nil _ _ _ _ _ | exact Kd.Q_nil _ _ _ _ _ | exact Kd.R_nil _ _ _ _ _, by repeat (first | (with_reducible first | exact HB.out | apply zpA | apply zpN | apply zpD | refine below_set ?_ GE273.out) | exact HB.out)⟩
end Go.Proofs.Ytckiebdehlcjoaa.P
