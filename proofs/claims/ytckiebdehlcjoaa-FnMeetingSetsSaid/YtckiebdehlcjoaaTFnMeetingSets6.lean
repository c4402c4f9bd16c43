/- A part of the proof of the law FnMeetingSets. -/
import Derived.Test.YtckiebdehlcjoaaProg
import Derived.Below
import Derived.Deep.Draws
import Derived.Deep.AppendLies
import Derived.Maps.AppendAt
import Derived.OwnWalk
import Derived.Laws.BytesArg
import Derived.Laws.MakeOwn
import Derived.Laws.OwnMore
import Derived.Deep.OwnRows
import Derived.Tactics
import Derived.Lib.ConvBytes
import Derived.Laws.Slices
import Derived.WalkKit
import Derived.KernelRfl
import Derived.RowKit3
import Derived.Deep.LoopGhost
import Derived.Deep.QuietTactic
import Derived.BigQuiet
import Derived.WideLaws
import Derived.Deep.DeepCutAuto
import Derived.Deep.CutBlock
import Derived.Deep.RegionHeld3
import Derived.Laws.Rows
import Derived.Lib.AppendStr
import Derived.ArgAppend
import Derived.Laws.IdiomCopy
import Derived.OrdersHeld
import Derived.Laws.BitsLemmas
import Derived.RowKit
import Derived.ChangeKeysEq
import Derived.DeepKeys
import Derived.Test.YtckiebdehlcjoaaTFnMeetingSets1
import Derived.Test.YtckiebdehlcjoaaTFnMeetingSets2
import Derived.Test.YtckiebdehlcjoaaTFnMeetingSets3
import Derived.Test.YtckiebdehlcjoaaTFnMeetingSets4
import Derived.Test.YtckiebdehlcjoaaTFnMeetingSets5
import Derived.Shelf.GgClosure.Gives
import Derived.LoopTactic
import Derived.Lib.SliceRun
namespace Go.Proofs.Ytckiebdehlcjoaa.P
open Go.Proofs.Ytckiebdehlcjoaa.Own
open Go.RowKit Go.Proofs.YtckiebdehlcjoaaW.PrintWords Go.Proofs.YtckiebdehlcjoaaW.PrintLast Go.Proofs.YtckiebdehlcjoaaW.PrintMore
attribute [local go_sem] max2_int min2_int max_two min_two max_three min_three max_four min_four   -- for this text's walks alone
set_option linter.unusedVariables false
set_option linter.unusedSimpArgs false
mutual
def spec_ColoursOf.l0 : Nat → Int → Int → List Int → List Int → Int → Int → Option (List Int × Bool)
  | 0, _, _, _, _, _, _ => none
  | k + 1, x0, x1, x6, x16, x17, x18 => if x18 < x17 then (if 0 ≤ x18 then (if x18 < (x16.length : Int) then (spec_ColoursOf.l1 k x0 x1 x6 (rd x16 x18) 0 x16 x17 x18) else (none)) else (none)) else (some (x6, true))
def spec_ColoursOf.l1 : Nat → Int → Int → List Int → Int → Int → List Int → Int → Int → Option (List Int × Bool)
  | 0, _, _, _, _, _, _, _, _ => none
  | k + 1, x0, x1, x6, x8, x9, x16, x17, x18 => if 0 ≤ x9 then (if (Int.tmod (shr .i64 x8 x9) 2) = 0 then (spec_ColoursOf.l1 k x0 x1 x6 x8 (wrap64 (x9 + 1)) x16 x17 x18) else ((spec_knFewest.f x0 x1).bind fun t165 => ((spec_l1Least.f x9 (wrap64 (t165 - 1))).bind fun t166 => (if x6.length < 17592186044416 then (spec_ColoursOf.l0 k x0 x1 (x6 ++ [t166]) x16 x17 (wrap64 (x18 + 1))) else (none))))) else (none)
end
def spec_ColoursOf.f (k : Nat) (a0 : Int) (a1 : Int) : Option (List Int × Bool) := (spec_knGiven.f a0 a1).bind fun t160 => (if t160 = true then ((spec_knSets.f k a0 a1).bind fun t161 => (spec_ColoursOf.l0 k a0 a1 ([] : List Int) t161 (t161.length : Int) 0)) else (some (([] : List Int), false)))
theorem spec_ColoursOf.mono_l : ∀ k, (∀ y0 y1 y2 y3 y4 y5, LeO (spec_ColoursOf.l0 k y0 y1 y2 y3 y4 y5) (spec_ColoursOf.l0 (k + 1) y0 y1 y2 y3 y4 y5)) ∧ (∀ y0 y1 y2 y3 y4 y5 y6 y7, LeO (spec_ColoursOf.l1 k y0 y1 y2 y3 y4 y5 y6 y7) (spec_ColoursOf.l1 (k + 1) y0 y1 y2 y3 y4 y5 y6 y7))
  | 0 => ⟨fun _ _ _ _ _ _ r h => by simp [spec_ColoursOf.l0] at h, fun _ _ _ _ _ _ _ _ r h => by simp [spec_ColoursOf.l1] at h⟩
  | k + 1 => by
    obtain ⟨ih0, ih1⟩ := spec_ColoursOf.mono_l k
    refine ⟨?_, ?_⟩
    · intro y0 y1 y2 y3 y4 y5
      unfold spec_ColoursOf.l0
      repeat' first
      | (with_reducible exact ih0 _ _ _ _ _ _)
      | (with_reducible exact ih1 _ _ _ _ _ _ _ _)
      | (with_reducible exact spec_knSets.mono _ _ _)
      | (with_reducible exact LeO.refl _)
      | (with_reducible exact LeO.none _)
      | (with_reducible refine LeO.ite ?_ ?_)
      | (with_reducible refine LeO.bind ?_ (fun _ => ?_))
      | exact ih0 _ _ _ _ _ _
      | exact ih1 _ _ _ _ _ _ _ _
      | exact spec_knSets.mono _ _ _
      | exact LeO.none _
      | refine LeO.ite ?_ ?_
      | refine LeO.bind ?_ (fun _ => ?_)
    · intro y0 y1 y2 y3 y4 y5 y6 y7
      unfold spec_ColoursOf.l1
      repeat' first
      | (with_reducible exact ih0 _ _ _ _ _ _)
      | (with_reducible exact ih1 _ _ _ _ _ _ _ _)
      | (with_reducible exact spec_knSets.mono _ _ _)
      | (with_reducible exact LeO.refl _)
      | (with_reducible exact LeO.none _)
      | (with_reducible refine LeO.ite ?_ ?_)
      | (with_reducible refine LeO.bind ?_ (fun _ => ?_))
      | exact ih0 _ _ _ _ _ _
      | exact ih1 _ _ _ _ _ _ _ _
      | exact spec_knSets.mono _ _ _
      | exact LeO.none _
      | refine LeO.ite ?_ ?_
      | refine LeO.bind ?_ (fun _ => ?_)
theorem spec_ColoursOf.mono : ∀ a0 a1 k, LeO (spec_ColoursOf.f k a0 a1) (spec_ColoursOf.f (k + 1) a0 a1) := by
  intro a0 a1 k
  obtain ⟨ih0, ih1⟩ := spec_ColoursOf.mono_l k
  unfold spec_ColoursOf.f
  repeat' first
      | (with_reducible exact ih0 _ _ _ _ _ _)
      | (with_reducible exact ih1 _ _ _ _ _ _ _ _)
      | (with_reducible exact spec_knSets.mono _ _ _)
      | (with_reducible exact LeO.refl _)
      | (with_reducible exact LeO.none _)
      | (with_reducible refine LeO.ite ?_ ?_)
      | (with_reducible refine LeO.bind ?_ (fun _ => ?_))
      | exact ih0 _ _ _ _ _ _
      | exact ih1 _ _ _ _ _ _ _ _
      | exact spec_knSets.mono _ _ _
      | exact LeO.none _
      | refine LeO.ite ?_ ?_
      | refine LeO.bind ?_ (fun _ => ?_)
set_option maxHeartbeats 8000000 in
set_option maxRecDepth 100000 in
theorem spec_ColoursOf.calls (k : Nat) (a0 : Int) (a1 : Int) (r1 : List Int) (r2 : Bool) (w : World) (h : spec_ColoursOf.f k a0 a1 = some (r1, r2)) :
    Calls Try.prog 285 #[.int .i64 a0, .int .i64 a1] w fun e w' => ∃ v0_ : Value, e = .returned (.tuple #[v0_, .bool r2]) ∧ Kd.R (Kd.int .i64) 3 w' w.heap.size (fun _ => True) v0_ r1 ∧ Below w.heap.size w w' := by
  have HB := Aside0.mk (Below.refl w.heap.size w)
  have H : ((spec_knGiven.f a0 a1).bind fun t160 => (if t160 = true then ((spec_knSets.f k a0 a1).bind fun t161 => (spec_ColoursOf.l0 k a0 a1 ([] : List Int) t161 (t161.length : Int) 0)) else (some (([] : List Int), false)))) = some (r1, r2) := h
  clear h
  replace H := Option.bind_eq_some_iff.mp H
  obtain ⟨t160, A30, H⟩ := H
  replace H : (if t160 = true then ((spec_knSets.f k a0 a1).bind fun t161 => (spec_ColoursOf.l0 k a0 a1 ([] : List Int) t161 (t161.length : Int) 0)) else (some (([] : List Int), false))) = some (r1, r2) := H
  have A3 := Aside0.mk A30
  clear A30
  by_cases c4 : t160 = true
  · subst c4
    have H1 : ((spec_knSets.f k a0 a1).bind fun t161 => (spec_ColoursOf.l0 k a0 a1 ([] : List Int) t161 (t161.length : Int) 0)) = some (r1, r2) := by rw [if_pos rfl] at H; exact H
    clear H
    have H := H1
    clear H1
    replace H := Option.bind_eq_some_iff.mp H
    obtain ⟨t161, A50, H⟩ := H
    replace H : (spec_ColoursOf.l0 k a0 a1 ([] : List Int) t161 (t161.length : Int) 0) = some (r1, r2) := H
    have A5 := Aside0.mk A50
    clear A50
    have H' := Aside0.mk H
    clear H
    go_enter Try.func285, Try.ntmps285
    go_wp2_with (first | ((with_reducible refine gate_callee (f := 143) rfl ?_); refine goesL_ (some 12) rfl rfl Try.func143 (by kernel_rfl) rfl #[.int .i64 a0, .int .i64 a1] rfl (by (try simp only [List.map_toArray, List.map_cons, List.map_nil]); first | done | rfl | (simp only [List.length_drop, List.length_take]; rfl)) ?_; (with_reducible refine (spec_knGiven.calls a0 a1 true _ A3.out).mono ?_); rintro e w' ⟨rfl, ⟨nd, rfl⟩⟩; refine ⟨_, rfl, ?_⟩) | ((with_reducible refine gate_callee (f := 183) rfl ?_); refine goesL_ (some 16) rfl rfl Try.func183 (by kernel_rfl) rfl #[.int .i64 a0, .int .i64 a1] rfl (by (try simp only [List.map_toArray, List.map_cons, List.map_nil]); first | done | rfl | (simp only [List.length_drop, List.length_take]; rfl)) ?_; (with_reducible refine (spec_knSets.calls k a0 a1 t161 _ A5.out).mono ?_); rintro e w6 ⟨v162, rfl, ho0, hb⟩; refine ⟨_, rfl, ?_⟩; have n0_ := Aside0.mk (Kd.R_lower ho0 (below_size (by repeat (first | (with_reducible first | exact HB.out | apply below_alloc | apply pw_below_drewN | apply below_drew1) | exact HB.out)))); have n1_ := Aside0.mk (below_step (by repeat (first | (with_reducible first | exact HB.out | apply below_alloc | apply pw_below_drewN | apply below_drew1) | exact HB.out)) hb); clear HB; have HO163 := n0_; have HB := n1_; clear n0_ n1_; (try clear hb); (try clear hb2); (try clear hk); (try clear hi); (try clear ho0); obtain ⟨Ao7, co7, eo7⟩ := Kd.R_slice HO163.out; subst eo7))
    go_loopg [6, 18] k (fun kq v6 v18 w' => ∃ (x6_1 : List Int) (x18_1 : Int), v18 = .int .i64 x18_1 ∧ Aside0 (spec_ColoursOf.l0 kq a0 a1 x6_1 t161 (t161.length : Int) x18_1 = some (r1, r2)) ∧ Aside0 (kq ≤ k) ∧ Aside0 (Kd.R (Kd.int .i64) 3 w' w.heap.size (fun k_ => some k_ ≠ ((.slice Ao7 t161.length co7) : Value).ownBlock) v6 x6_1) ∧ Aside0 (Kd.R (Kd.int .i64) 3 w' w.heap.size (fun k_ => some k_ ≠ (v6 : Value).ownBlock) (.slice Ao7 t161.length co7) t161) ∧ Aside0 (Below w.heap.size w w'))
    case atStart => exact ⟨(([] : List Int)), (0), (by first | rfl | (simp; done) | (simp [*]; done) | (simp; decide) | (simp; unfold wrap64; omega)), H', ⟨Nat.le_refl _⟩, ⟨by first | exact Kd.R_nil _ _ _ _ _ | exact Kd.N_nil _ _ _ _ _ | exact Kd.V_nil _ _ _ _ _ | exact Kd.Q_nil _ _ _ _ _ | exact Kd.S_nil _ _ _ _ _⟩, ⟨by (with_reducible repeat (first | apply Kd.R_alloc | apply Kd.R_drewN | apply Kd.R_drew)); exact Kd.R_mono HO163.out (fun _ hk => (by simp [Value.ownBlock]))⟩, ⟨by repeat (first | (with_reducible first | exact HB.out | apply below_alloc | apply pw_below_drewN | apply below_drew1) | exact HB.out)⟩⟩
    case round =>
      clear H'
      try clear c1
      try clear c2
      try clear p2
      try clear c4
      try clear p6
      obtain ⟨x6_1, x18_1, rfl, HA, HK1, HO_6, HO_16, HB⟩ := hrel
      cases gk with
      | zero => exact absurd HA.out (by simp [spec_ColoursOf.l0])
      | succ k1 =>
        have H := HA.out
        clear HA
        simp only [spec_ColoursOf.l0] at H
        by_cases c8 : x18_1 < (t161.length : Int)
        · rw [if_pos c8] at H
          have c8b0 : decide (x18_1 < (t161.length : Int)) = true := decide_eq_true c8
          clear c8
          by_cases c9 : 0 ≤ x18_1
          · rw [if_pos c9] at H
            have c9b0 : decide (0 ≤ x18_1) = true := decide_eq_true c9
            clear c9
            by_cases c10 : x18_1 < (t161.length : Int)
            · rw [if_pos c10] at H
              have c10b0 : decide (x18_1 < (t161.length : Int)) = true := decide_eq_true c10
              clear c10
              have H' := Aside0.mk H
              clear H
              have p164 : 0 ≤ (x18_1 : Int) := of_decide_eq_true (by first | (with_reducible assumption) | assumption)
              have q164 : x18_1 < (t161.length : Int) := of_decide_eq_true (by first | (with_reducible assumption) | assumption)
              obtain ⟨ad164, e164, hx164_0⟩ := Kd.at_int (Kd.R_reads' HO_16.out).2.2 x18_1 p164 q164
              cases e164
              replace p164 := eq_true p164
              replace q164 := eq_true q164
              go_wp2
              go_loopg [9] k1 (fun kq v9 w' => ∃ (x9_2 : Int), v9 = .int .i64 x9_2 ∧ Aside0 (spec_ColoursOf.l1 kq a0 a1 x6_1 (rd t161 x18_1) x9_2 t161 (t161.length : Int) x18_1 = some (r1, r2)) ∧ Aside0 (kq ≤ k1) ∧ Aside0 (Kd.R (Kd.int .i64) 3 w' w.heap.size (fun k_ => some k_ ≠ ((.slice (some ad164) t161.length co7) : Value).ownBlock) u6 x6_1) ∧ Aside0 (Kd.R (Kd.int .i64) 3 w' w.heap.size (fun k_ => some k_ ≠ (u6 : Value).ownBlock) (.slice (some ad164) t161.length co7) t161) ∧ Aside0 (Below w.heap.size w w'))
              case atStart => exact ⟨(0), (by first | rfl | (simp; done) | (simp [*]; done) | (simp; decide) | (simp; unfold wrap64; omega)), H', ⟨Nat.le_refl _⟩, ⟨by (with_reducible repeat (first | apply Kd.R_alloc | apply Kd.R_drewN | apply Kd.R_drew)); exact HO_6.out⟩, ⟨by (with_reducible repeat (first | apply Kd.R_alloc | apply Kd.R_drewN | apply Kd.R_drew)); exact HO_16.out⟩, ⟨by repeat (first | (with_reducible first | exact HB.out | apply below_alloc | apply pw_below_drewN | apply below_drew1) | exact HB.out)⟩⟩
              case round =>
                clear H'
                try clear c1
                try clear p1
                try clear q1
                try clear hx1
                try clear c2
                try clear p2
                try clear c4
                try clear p6
                try clear c8
                try clear c8b0
                try clear c9
                try clear c9b0
                try clear c10
                try clear c10b0
                try clear hx164_0
                try clear p164
                try clear p2
                try clear p6
                try clear q164
                obtain ⟨x9_2, rfl, HA, HK2, HO_6, HO_16, HB⟩ := hrel
                cases gk with
                | zero => exact absurd HA.out (by simp [spec_ColoursOf.l1])
                | succ k2 =>
                  have H := HA.out
                  clear HA
                  simp only [spec_ColoursOf.l1] at H
                  by_cases c11 : 0 ≤ x9_2
                  · rw [if_pos c11] at H
                    have c11b0 := eq_true c11
                    have c11b1 : decide (0 ≤ x9_2) = true := decide_eq_true c11
                    clear c11
                    obtain ⟨ji12, hji12⟩ : ∃ j_ : Int, (shr .i64 (rd t161 x18_1) x9_2) = j_ := ⟨_, rfl⟩
                    replace H : (if (Int.tmod (ji12) 2) = 0 then (spec_ColoursOf.l1 k2 a0 a1 x6_1 (rd t161 x18_1) (wrap64 (x9_2 + 1)) t161 (t161.length : Int) x18_1) else ((spec_knFewest.f a0 a1).bind fun t165 => ((spec_l1Least.f x9_2 (wrap64 (t165 - 1))).bind fun t166 => (if x6_1.length < 17592186044416 then (spec_ColoursOf.l0 k2 a0 a1 (x6_1 ++ [t166]) t161 (t161.length : Int) (wrap64 (x18_1 + 1))) else (none))))) = some (r1, r2) := by first | (rw [hji12] at H; exact H) | (simp only [hji12] at H ⊢; exact H)
                    have hji12_ : ((rd t161 x18_1) / 2 ^ min x9_2.toNat 64) = ji12 := hji12
                    have hji12z : x9_2 ≤ 64 → ((rd t161 x18_1) / 2 ^ x9_2.toNat) = ji12 := shr_small hji12
                    by_cases c13 : (Int.tmod (ji12) 2) = 0
                    · rw [if_pos c13] at H
                      have c13b0 : ((Int.tmod (ji12) 2) == 0) = true := beq_iff_eq.mpr c13
                      have c13b1 : ((Int.tmod (ji12) 2) != 0) = false := bne_eq_false_iff_eq.mpr c13
                      clear c13
                      have H' := Aside0.mk H
                      clear H
                      go_wp2
                      go_roundg k2
                      case measure => have := HK1.out; have := HK2.out; omega
                      case rel => exact ⟨(wrap64 (x9_2 + 1)), (by first | rfl | (simp; done) | (simp [*]; done) | (simp; decide) | (simp; unfold wrap64; omega)), H', ⟨by have := HK1.out; have := HK2.out; omega⟩, ⟨by (with_reducible repeat (first | apply Kd.R_alloc | apply Kd.R_drewN | apply Kd.R_drew)); exact HO_6.out⟩, ⟨by (with_reducible repeat (first | apply Kd.R_alloc | apply Kd.R_drewN | apply Kd.R_drew)); exact HO_16.out⟩, ⟨by repeat (first | (with_reducible first | exact HB.out | apply below_alloc | apply pw_below_drewN | apply below_drew1) | exact HB.out)⟩⟩
                    · rw [if_neg c13] at H
                      have c13b0 : ((Int.tmod (ji12) 2) == 0) = false := beq_eq_false_iff_ne.mpr c13
                      have c13b1 : ((Int.tmod (ji12) 2) != 0) = true := bne_iff_ne.mpr c13
                      replace H := Option.bind_eq_some_iff.mp H
                      obtain ⟨t165, A140, H⟩ := H
                      replace H : ((spec_l1Least.f x9_2 (wrap64 (t165 - 1))).bind fun t166 => (if x6_1.length < 17592186044416 then (spec_ColoursOf.l0 k2 a0 a1 (x6_1 ++ [t166]) t161 (t161.length : Int) (wrap64 (x18_1 + 1))) else (none))) = some (r1, r2) := H
                      have A14 := Aside0.mk A140
                      clear A140
                      replace H := Option.bind_eq_some_iff.mp H
                      obtain ⟨t166, A150, H⟩ := H
                      replace H : (if x6_1.length < 17592186044416 then (spec_ColoursOf.l0 k2 a0 a1 (x6_1 ++ [t166]) t161 (t161.length : Int) (wrap64 (x18_1 + 1))) else (none)) = some (r1, r2) := H
                      have A15 := Aside0.mk A150
                      clear A150
                      by_cases c16 : x6_1.length < 17592186044416
                      · rw [if_pos c16] at H
                        have LMc16 := Aside0.mk c16
                        clear c16
                        obtain ⟨y167, hy167⟩ : ∃ y_ : List Int, y_ = (x6_1 ++ [t166]) := ⟨_, rfl⟩
                        replace H : (spec_ColoursOf.l0 k2 a0 a1 y167 t161 (t161.length : Int) (wrap64 (x18_1 + 1))) = some (r1, r2) := by first | (rw [hy167]; with_reducible exact H) | (have H2_ := (Option.bind_some _ _).symm.trans H; rw [hy167]; with_reducible exact H2_) | (have H2_ := (Option.bind_some _ _).symm.trans H; with_reducible exact H2_) | with_reducible exact H | (rw [hy167]; exact H) | exact H
                        have Ny167 := Aside0.mk hy167
                        clear hy167
                        have H' := Aside0.mk H
                        clear H
                        go_wp2_with (first | ((with_reducible refine gate_callee (f := 176) rfl ?_); refine goesL_ (some 33) rfl rfl Try.func176 (by kernel_rfl) rfl #[.int .i64 a0, .int .i64 a1] rfl (by (try simp only [List.map_toArray, List.map_cons, List.map_nil]); first | done | rfl | (simp only [List.length_drop, List.length_take]; rfl)) ?_; (with_reducible refine (spec_knFewest.calls a0 a1 t165 _ A14.out).mono ?_); rintro e w' ⟨rfl, ⟨nd, rfl⟩⟩; refine ⟨_, rfl, ?_⟩) | ((with_reducible refine gate_callee (f := 186) rfl ?_); refine goesL_ (some 35) rfl rfl Try.func186 (by kernel_rfl) rfl #[.int .i64 x9_2, .int .i64 (wrap64 (t165 - 1))] rfl (by (try simp only [List.map_toArray, List.map_cons, List.map_nil]); first | done | rfl | (simp only [List.length_drop, List.length_take]; rfl)) ?_; (with_reducible refine (spec_l1Least.calls x9_2 (wrap64 (t165 - 1)) t166 _ A15.out).mono ?_); rintro e w' ⟨rfl, ⟨nd, rfl⟩⟩; refine ⟨_, rfl, ?_⟩) | ((with_reducible refine gate_builtin (b := .append) (xs := #[.tmp 29, .tmp 36]) rfl ?_); at_builtin; refine Kd.R_append (Kd.int .i64) (w0 := w) w.heap.size rfl (.tmp 29) (.tmp 36) 22 3 (.int .i64 0) 8 rfl Try.underlying22 info3 rfl (by decide) (by omega) u6 x6_1 t166 [.int .i64 t166] (fun k_ => some k_ ≠ (.slice (some ad164) t161.length co7 : Value).ownBlock) (fun _ => False) rfl rfl ?aP (fun _ hk => hk.elim) ?aF ?aO ?aB ?aS ?aL ?_; (case aP => exact rfl); (case aB => exact (by repeat (first | (with_reducible first | exact HB.out | apply below_alloc | apply pw_below_drewN | apply below_drew1) | exact HB.out))); (case aF => exact (fun k_ hk => Kd.fresh' (Kd.R_lt (by (with_reducible repeat (first | apply Kd.R_alloc | apply Kd.R_drewN | apply Kd.R_drew)); exact HO_16.out)) k_ hk)); (case aO => exact (by (with_reducible repeat (first | apply Kd.R_alloc | apply Kd.R_drewN | apply Kd.R_drew)); exact HO_6.out)); (case aS => exact (below_size (by repeat (first | (with_reducible first | exact HB.out | apply below_alloc | apply pw_below_drewN | apply below_drew1) | exact HB.out)))); (case aL => have := LMc16.out; omega); intro v168 w17 ho hb hg hat; rw [← Ny167.out] at ho; have n0_ := Aside0.mk (Kd.R_after (ok := (fun _ => True)) (by (with_reducible repeat (first | apply Kd.R_alloc | apply Kd.R_drewN | apply Kd.R_drew)); exact Kd.R_mono HO_16.out (fun _ hk => ⟨trivial, hk⟩)) hg hat); have n1_ := Aside0.mk (hb); have n2_ := Aside0.mk (ho); clear HO_16; clear HB; clear HO_6; have HO_16 := n0_; have HB := n1_; have HO169 := n2_; clear n0_ n1_ n2_; clear ho hb hg hat))
                        go_roundg k2
                        case measure => have := HK1.out; have := HK2.out; omega
                        case rel => exact ⟨(y167), (wrap64 (x18_1 + 1)), (by first | rfl | (simp; done) | (simp [*]; done) | (simp; decide) | (simp; unfold wrap64; omega)), H', ⟨by have := HK1.out; have := HK2.out; omega⟩, ⟨by (with_reducible repeat (first | apply Kd.R_alloc | apply Kd.R_drewN | apply Kd.R_drew)); exact HO169.out⟩, ⟨by (with_reducible repeat (first | apply Kd.R_alloc | apply Kd.R_drewN | apply Kd.R_drew)); exact Kd.R_mono HO_16.out (fun _ hk => hk.2)⟩, ⟨by repeat (first | (with_reducible first | exact HB.out | apply below_alloc | apply pw_below_drewN | apply below_drew1) | exact HB.out)⟩⟩
                      · rw [if_neg c16] at H
                        exact absurd H (by simp)
                  · rw [if_neg c11] at H
                    exact absurd H (by simp)
            · rw [if_neg c10] at H
              exact absurd H (by simp)
          · rw [if_neg c9] at H
            exact absurd H (by simp)
        · rw [if_neg c8] at H
          have c8b0 : decide (x18_1 < (t161.length : Int)) = false := decide_eq_false c8
          clear c8
          simp only [Option.some.injEq, Prod.mk.injEq] at H
          obtain ⟨rfl, rfl⟩ := H
          go_wp2
          go_ret2
          exact ⟨_, by first | rfl | (simp [errW_none, errW_some] <;> rfl) | (simp [*, errW_none, errW_some] <;> rfl), by (with_reducible repeat (first | apply Kd.R_alloc | apply Kd.R_drewN | apply Kd.R_drew)); exact Kd.R_mono HO_6.out (fun _ hk => trivial), by repeat (first | (with_reducible first | exact HB.out | apply below_alloc | apply pw_below_drewN | apply below_drew1) | exact HB.out)⟩
  · replace c4 := Bool.eq_false_iff.mpr c4
    subst c4
    have H1 : (some (([] : List Int), false)) = some (r1, r2) := by rw [if_neg (show ¬ (false = true) by decide)] at H; exact H
    clear H
    have H := H1
    clear H1
    simp only [Option.some.injEq, Prod.mk.injEq] at H
    obtain ⟨rfl, rfl⟩ := H
    go_enter Try.func285, Try.ntmps285
    go_wp2_with (first | ((with_reducible refine gate_callee (f := 143) rfl ?_); refine goesL_ (some 12) rfl rfl Try.func143 (by kernel_rfl) rfl #[.int .i64 a0, .int .i64 a1] rfl (by (try simp only [List.map_toArray, List.map_cons, List.map_nil]); first | done | rfl | (simp only [List.length_drop, List.length_take]; rfl)) ?_; (with_reducible refine (spec_knGiven.calls a0 a1 false _ A3.out).mono ?_); rintro e w' ⟨rfl, ⟨nd, rfl⟩⟩; refine ⟨_, rfl, ?_⟩))
    go_ret2
    exact ⟨_, by first | rfl | (simp [errW_none, errW_some] <;> rfl) | (simp [*, errW_none, errW_some] <;> rfl), by first | exact Kd.R_nil _ _ _ _ _ | exact Kd.N_nil _ _ _ _ _ | exact Kd.V_nil _ _ _ _ _ | exact Kd.Q_nil _ _ _ _ _ | exact Kd.S_nil _ _ _ _ _, by repeat (first | (with_reducible first | exact HB.out | apply below_alloc | apply pw_below_drewN | apply below_drew1) | exact HB.out)⟩
def spec_l1Own.f (l0 : List Int) : Option (List Int) := (some (([] : List Int) : List Int)).bind fun y170 => (if y170.length + l0.length < 17592186044416 then (some (y170 ++ l0)) else (none))
set_option maxHeartbeats 8000000 in
set_option maxRecDepth 100000 in
theorem spec_l1Own.calls (A0 : Option Addr) (c0 : Nat) (l0 : List Int) (r : List Int) (w : World) (hr0 : Kd.C (Kd.int .i64) w A0 l0.length l0) (hc0 : l0.length ≤ c0) (h : spec_l1Own.f l0 = some r) :
    Calls Try.prog 286 #[.slice A0 l0.length c0] w fun e w' => ∃ v0_ : Value, e = .returned (v0_) ∧ Kd.R (Kd.int .i64) 3 w' w.heap.size (fun _ => True) v0_ r ∧ Below w.heap.size w w' := by
  have HR0 := Aside0.mk hr0
  have HC0 := Aside0.mk hc0
  clear hr0 hc0
  have HB := Aside0.mk (Below.refl w.heap.size w)
  have H : ((some (([] : List Int) : List Int)).bind fun y170 => (if y170.length + l0.length < 17592186044416 then (some (y170 ++ l0)) else (none))) = some r := h
  clear h
  obtain ⟨y170, hy170⟩ : ∃ y_ : List Int, y_ = (([] : List Int)) := ⟨_, rfl⟩
  replace H : (if y170.length + l0.length < 17592186044416 then (some (y170 ++ l0)) else (none)) = some r := by first | (rw [hy170]; with_reducible exact H) | (have H2_ := (Option.bind_some _ _).symm.trans H; rw [hy170]; with_reducible exact H2_) | (have H2_ := (Option.bind_some _ _).symm.trans H; with_reducible exact H2_) | with_reducible exact H | (rw [hy170]; exact H) | exact H
  have Ny170 := Aside0.mk hy170
  clear hy170
  by_cases c2 : y170.length + l0.length < 17592186044416
  · rw [if_pos c2] at H
    have LMc2 := Aside0.mk c2
    clear c2
    obtain ⟨y173, hy173⟩ : ∃ y_ : List Int, y_ = (y170 ++ l0) := ⟨_, rfl⟩
    replace H : (some y173) = some r := by first | (rw [hy173]; with_reducible exact H) | (have H2_ := (Option.bind_some _ _).symm.trans H; rw [hy173]; with_reducible exact H2_) | (have H2_ := (Option.bind_some _ _).symm.trans H; with_reducible exact H2_) | with_reducible exact H | (rw [hy173]; exact H) | exact H
    have Ny173 := Aside0.mk hy173
    clear hy173
    obtain rfl := Option.some.inj H
    go_enter Try.func286, Try.ntmps286
    go_wp2_with (first | ((with_reducible refine gate_dst (N := 3) rfl ?_); refine Kd.R_lit (Kd.int .i64) _ 3 ?hg (N := 3) ?hd (xs := ([] : List Int)) (inner := []) (ok := fun _ => True) (okp := fun _ => True) ?hr ?hp (fun _ hk => hk) trivial (Below.refl _ _) (Nat.le_refl _) (by simp) ?_; (case hd => rfl); (case hg => rfl); (case hr => first | (go_simp; done) | (go_simp; rfl)); (case hp => exact (Reps.none _ _)); intro v171 w3 ho4 hb hg_ hnew_; clear hg_ hnew_; (first | rw [← Ny170.out] at ho4 | (simp only [Int.reduceToNat] at ho4; rw [← Ny170.out] at ho4)); have n0_ := Aside0.mk (Kd.R_lower ho4 (below_size (by repeat (first | (with_reducible first | exact HB.out | apply below_alloc | apply pw_below_drewN | apply below_drew1) | exact HB.out)))); have n1_ := Aside0.mk (below_step (by repeat (first | (with_reducible first | exact HB.out | apply below_alloc | apply pw_below_drewN | apply below_drew1) | exact HB.out)) hb); clear HB; have HO172 := n0_; have HB := n1_; clear n0_ n1_; clear hb ho4) | ((with_reducible refine gate_builtin (b := .append) (xs := #[.tmp 3, .tmp 4]) rfl ?_); at_builtin; refine Kd.R_append_rows (Kd.int .i64) (w0 := w) w.heap.size rfl (.tmp 3) (.tmp 4) 22 3 (.int .i64 0) 8 rfl Try.underlying22 info3 rfl (by decide) (by omega) v171 y170 l0 _ _ _ (fun _ => True) (fun _ => False) rfl rfl ?aO ?aR (fun _ _ h => h) (fun _ h => h.elim) ?aF ?aB ?aS ?aL ?_; (case aR => repeat (first | exact (Kd.C_below HR0.out HB.out) | (with_reducible refine Kd.C_alloc ?_ _) | (with_reducible refine Kd.C_drewN ?_ _) | (with_reducible refine Kd.C_drew ?_))); (case aB => exact (by repeat (first | (with_reducible first | exact HB.out | apply below_alloc | apply pw_below_drewN | apply below_drew1) | exact HB.out))); (case aF => exact (fun _ _ => trivial)); (case aO => exact (by (with_reducible repeat (first | apply Kd.R_alloc | apply Kd.R_drewN | apply Kd.R_drew)); exact HO172.out)); (case aS => exact (below_size (by repeat (first | (with_reducible first | exact HB.out | apply below_alloc | apply pw_below_drewN | apply below_drew1) | exact HB.out)))); (case aL => have := LMc2.out; omega); intro v174 w5 ho hb hg hat; rw [← Ny173.out] at ho; have n0_ := Aside0.mk (hb); have n1_ := Aside0.mk (ho); clear HB; clear HO172; have HB := n0_; have HO175 := n1_; clear n0_ n1_; clear ho hb hg hat))
    go_ret
    exact ⟨_, by first | rfl | (simp [errW_none, errW_some] <;> rfl) | (simp [*, errW_none, errW_some] <;> rfl), by (with_reducible repeat (first | apply Kd.R_alloc | apply Kd.R_drewN | apply Kd.R_drew)); exact HO175.out, by repeat (first | (with_reducible first | exact HB.out | apply below_alloc | apply pw_below_drewN | apply below_drew1) | exact HB.out)⟩
  · rw [if_neg c2] at H
    exact absurd H (by simp)
def spec_l1Cur_coloured.l0 : Nat → Int → Int → List Int → Int → Int → List Int → Int → Int → Option (Int × Int × List Int × Int × Int)
  | 0, _, _, _, _, _, _, _, _ => none
  | k + 1, x5, x6, x7, x51, x52, x1000, x1001, x1002 => if x52 < x51 then ((spec_l1Cur_pick.f x1000 x1001 x1002 3).bind fun bt204 => (if 0 ≤ x52 then (if x52 < (x7.length : Int) then (spec_l1Cur_coloured.l0 k x5 x6 (x7.set (x52 : Int).toNat bt204.1) x51 (wrap64 (x52 + 1)) x1000 bt204.2.1 bt204.2.2) else (none)) else (none))) else (some (x5, x6, x7, x1001, x1002))
def spec_l1Cur_coloured.f (k : Nat) (s0_0 : List Int) (s0_1 : Int) (s0_2 : Int) : Option (Int × Int × List Int × Int × Int) := (spec_l1Cur_sets.f s0_0 s0_1 s0_2 6).bind fun bt176 => ((spec_knGiven.f bt176.1 bt176.2.1).bind fun t180 => (if t180 = true then ((spec_ColoursOf.f k bt176.1 bt176.2.1).bind fun bt184 => ((spec_l1Own.f bt184.1).bind fun t188 => ((spec_l1Cur_pick.f s0_0 bt176.2.2.1 bt176.2.2.2 6).bind fun bt191 => (if bt191.1 = 0 then ((spec_l1Cur_pick.f s0_0 bt191.2.1 bt191.2.2 (t188.length : Int)).bind fun bt194 => ((spec_l1Cur_pick.f s0_0 bt194.2.1 bt194.2.2 4).bind fun bt197 => (if 0 ≤ bt194.1 then (if bt194.1 < (t188.length : Int) then (some (bt176.1, bt176.2.1, (t188.set (bt194.1 : Int).toNat (wrap64 (bt197.1 - 1))), bt197.2.1, bt197.2.2)) else (none)) else (none)))) else (if bt191.1 = 1 then (if t188.length < 17592186044416 then (some (bt176.1, bt176.2.1, (t188 ++ [0]), bt191.2.1, bt191.2.2)) else (none)) else (if bt191.1 = 2 then (spec_l1Cur_coloured.l0 k bt176.1 bt176.2.1 t188 (t188.length : Int) 0 s0_0 bt191.2.1 bt191.2.2) else (some (bt176.1, bt176.2.1, t188, bt191.2.1, bt191.2.2)))))))) else (some (bt176.1, bt176.2.1, (([0] : List Int)), bt176.2.2.1, bt176.2.2.2))))
set_option maxHeartbeats 8000000 in
set_option maxRecDepth 100000 in
theorem spec_l1Cur_coloured.calls (k : Nat) (g : Nat) (s0_0 : List Int) (s0_1 : Int) (s0_2 : Int) (r1 : Int) (r2 : Int) (r3 : List Int) (r4 : Int) (r5 : Int) (w0 w : World) (hI : IsS101 w0 w g s0_0 s0_1 s0_2) (hB : Below w0.heap.size w0 w) (h : spec_l1Cur_coloured.f k s0_0 s0_1 s0_2 = some (r1, r2, r3, r4, r5)) :
    Calls Try.prog 147 #[.pointer (some ⟨g, 0, none⟩)] w fun e w' => ∃ v2_ : Value, e = .returned (.tuple #[.int .i64 r1, .int .i64 r2, v2_]) ∧ Kd.R (Kd.int .i64) 3 w' w.heap.size (fun _ => True) v2_ r3 ∧ IsS101 w0 w' g s0_0 r4 r5 ∧ Below w0.heap.size w0 w' ∧ KeepBut w w' g none := by
  have HI0 := Aside0.mk hI
  have HK := Aside0.mk (KeepBut.refl w g none)
  have HL := Aside0.mk hB.size
  clear hI
  have HW0 := Aside0.mk hB.size
  have HB := Aside0.mk hB
  clear hB
  have H : ((spec_l1Cur_sets.f s0_0 s0_1 s0_2 6).bind fun bt176 => ((spec_knGiven.f bt176.1 bt176.2.1).bind fun t180 => (if t180 = true then ((spec_ColoursOf.f k bt176.1 bt176.2.1).bind fun bt184 => ((spec_l1Own.f bt184.1).bind fun t188 => ((spec_l1Cur_pick.f s0_0 bt176.2.2.1 bt176.2.2.2 6).bind fun bt191 => (if bt191.1 = 0 then ((spec_l1Cur_pick.f s0_0 bt191.2.1 bt191.2.2 (t188.length : Int)).bind fun bt194 => ((spec_l1Cur_pick.f s0_0 bt194.2.1 bt194.2.2 4).bind fun bt197 => (if 0 ≤ bt194.1 then (if bt194.1 < (t188.length : Int) then (some (bt176.1, bt176.2.1, (t188.set (bt194.1 : Int).toNat (wrap64 (bt197.1 - 1))), bt197.2.1, bt197.2.2)) else (none)) else (none)))) else (if bt191.1 = 1 then (if t188.length < 17592186044416 then (some (bt176.1, bt176.2.1, (t188 ++ [0]), bt191.2.1, bt191.2.2)) else (none)) else (if bt191.1 = 2 then (spec_l1Cur_coloured.l0 k bt176.1 bt176.2.1 t188 (t188.length : Int) 0 s0_0 bt191.2.1 bt191.2.2) else (some (bt176.1, bt176.2.1, t188, bt191.2.1, bt191.2.2)))))))) else (some (bt176.1, bt176.2.1, (([0] : List Int)), bt176.2.2.1, bt176.2.2.2))))) = some (r1, r2, r3, r4, r5) := h
  clear h
  replace H := Option.bind_eq_some_iff.mp H
  obtain ⟨⟨t176, t177, t178, t179⟩, A20, H⟩ := H
  replace H : ((spec_knGiven.f t176 t177).bind fun t180 => (if t180 = true then ((spec_ColoursOf.f k t176 t177).bind fun bt184 => ((spec_l1Own.f bt184.1).bind fun t188 => ((spec_l1Cur_pick.f s0_0 t178 t179 6).bind fun bt191 => (if bt191.1 = 0 then ((spec_l1Cur_pick.f s0_0 bt191.2.1 bt191.2.2 (t188.length : Int)).bind fun bt194 => ((spec_l1Cur_pick.f s0_0 bt194.2.1 bt194.2.2 4).bind fun bt197 => (if 0 ≤ bt194.1 then (if bt194.1 < (t188.length : Int) then (some (t176, t177, (t188.set (bt194.1 : Int).toNat (wrap64 (bt197.1 - 1))), bt197.2.1, bt197.2.2)) else (none)) else (none)))) else (if bt191.1 = 1 then (if t188.length < 17592186044416 then (some (t176, t177, (t188 ++ [0]), bt191.2.1, bt191.2.2)) else (none)) else (if bt191.1 = 2 then (spec_l1Cur_coloured.l0 k t176 t177 t188 (t188.length : Int) 0 s0_0 bt191.2.1 bt191.2.2) else (some (t176, t177, t188, bt191.2.1, bt191.2.2)))))))) else (some (t176, t177, (([0] : List Int)), t178, t179)))) = some (r1, r2, r3, r4, r5) := H
  have A2 := Aside0.mk A20
  clear A20
  replace H := Option.bind_eq_some_iff.mp H
  obtain ⟨t180, A30, H⟩ := H
  replace H : (if t180 = true then ((spec_ColoursOf.f k t176 t177).bind fun bt184 => ((spec_l1Own.f bt184.1).bind fun t188 => ((spec_l1Cur_pick.f s0_0 t178 t179 6).bind fun bt191 => (if bt191.1 = 0 then ((spec_l1Cur_pick.f s0_0 bt191.2.1 bt191.2.2 (t188.length : Int)).bind fun bt194 => ((spec_l1Cur_pick.f s0_0 bt194.2.1 bt194.2.2 4).bind fun bt197 => (if 0 ≤ bt194.1 then (if bt194.1 < (t188.length : Int) then (some (t176, t177, (t188.set (bt194.1 : Int).toNat (wrap64 (bt197.1 - 1))), bt197.2.1, bt197.2.2)) else (none)) else (none)))) else (if bt191.1 = 1 then (if t188.length < 17592186044416 then (some (t176, t177, (t188 ++ [0]), bt191.2.1, bt191.2.2)) else (none)) else (if bt191.1 = 2 then (spec_l1Cur_coloured.l0 k t176 t177 t188 (t188.length : Int) 0 s0_0 bt191.2.1 bt191.2.2) else (some (t176, t177, t188, bt191.2.1, bt191.2.2)))))))) else (some (t176, t177, (([0] : List Int)), t178, t179))) = some (r1, r2, r3, r4, r5) := H
  have A3 := Aside0.mk A30
  clear A30
  by_cases c4 : t180 = true
  · subst c4
    have H1 : ((spec_ColoursOf.f k t176 t177).bind fun bt184 => ((spec_l1Own.f bt184.1).bind fun t188 => ((spec_l1Cur_pick.f s0_0 t178 t179 6).bind fun bt191 => (if bt191.1 = 0 then ((spec_l1Cur_pick.f s0_0 bt191.2.1 bt191.2.2 (t188.length : Int)).bind fun bt194 => ((spec_l1Cur_pick.f s0_0 bt194.2.1 bt194.2.2 4).bind fun bt197 => (if 0 ≤ bt194.1 then (if bt194.1 < (t188.length : Int) then (some (t176, t177, (t188.set (bt194.1 : Int).toNat (wrap64 (bt197.1 - 1))), bt197.2.1, bt197.2.2)) else (none)) else (none)))) else (if bt191.1 = 1 then (if t188.length < 17592186044416 then (some (t176, t177, (t188 ++ [0]), bt191.2.1, bt191.2.2)) else (none)) else (if bt191.1 = 2 then (spec_l1Cur_coloured.l0 k t176 t177 t188 (t188.length : Int) 0 s0_0 bt191.2.1 bt191.2.2) else (some (t176, t177, t188, bt191.2.1, bt191.2.2)))))))) = some (r1, r2, r3, r4, r5) := by rw [if_pos rfl] at H; exact H
    clear H
    have H := H1
    clear H1
    replace H := Option.bind_eq_some_iff.mp H
    obtain ⟨⟨t184, t185⟩, A50, H⟩ := H
    replace H : ((spec_l1Own.f t184).bind fun t188 => ((spec_l1Cur_pick.f s0_0 t178 t179 6).bind fun bt191 => (if bt191.1 = 0 then ((spec_l1Cur_pick.f s0_0 bt191.2.1 bt191.2.2 (t188.length : Int)).bind fun bt194 => ((spec_l1Cur_pick.f s0_0 bt194.2.1 bt194.2.2 4).bind fun bt197 => (if 0 ≤ bt194.1 then (if bt194.1 < (t188.length : Int) then (some (t176, t177, (t188.set (bt194.1 : Int).toNat (wrap64 (bt197.1 - 1))), bt197.2.1, bt197.2.2)) else (none)) else (none)))) else (if bt191.1 = 1 then (if t188.length < 17592186044416 then (some (t176, t177, (t188 ++ [0]), bt191.2.1, bt191.2.2)) else (none)) else (if bt191.1 = 2 then (spec_l1Cur_coloured.l0 k t176 t177 t188 (t188.length : Int) 0 s0_0 bt191.2.1 bt191.2.2) else (some (t176, t177, t188, bt191.2.1, bt191.2.2))))))) = some (r1, r2, r3, r4, r5) := H
    have A5 := Aside0.mk A50
    clear A50
    replace H := Option.bind_eq_some_iff.mp H
    obtain ⟨t188, A60, H⟩ := H
    replace H : ((spec_l1Cur_pick.f s0_0 t178 t179 6).bind fun bt191 => (if bt191.1 = 0 then ((spec_l1Cur_pick.f s0_0 bt191.2.1 bt191.2.2 (t188.length : Int)).bind fun bt194 => ((spec_l1Cur_pick.f s0_0 bt194.2.1 bt194.2.2 4).bind fun bt197 => (if 0 ≤ bt194.1 then (if bt194.1 < (t188.length : Int) then (some (t176, t177, (t188.set (bt194.1 : Int).toNat (wrap64 (bt197.1 - 1))), bt197.2.1, bt197.2.2)) else (none)) else (none)))) else (if bt191.1 = 1 then (if t188.length < 17592186044416 then (some (t176, t177, (t188 ++ [0]), bt191.2.1, bt191.2.2)) else (none)) else (if bt191.1 = 2 then (spec_l1Cur_coloured.l0 k t176 t177 t188 (t188.length : Int) 0 s0_0 bt191.2.1 bt191.2.2) else (some (t176, t177, t188, bt191.2.1, bt191.2.2)))))) = some (r1, r2, r3, r4, r5) := H
    have A6 := Aside0.mk A60
    clear A60
    replace H := Option.bind_eq_some_iff.mp H
    obtain ⟨⟨t191, t192, t193⟩, A70, H⟩ := H
    replace H : (if t191 = 0 then ((spec_l1Cur_pick.f s0_0 t192 t193 (t188.length : Int)).bind fun bt194 => ((spec_l1Cur_pick.f s0_0 bt194.2.1 bt194.2.2 4).bind fun bt197 => (if 0 ≤ bt194.1 then (if bt194.1 < (t188.length : Int) then (some (t176, t177, (t188.set (bt194.1 : Int).toNat (wrap64 (bt197.1 - 1))), bt197.2.1, bt197.2.2)) else (none)) else (none)))) else (if t191 = 1 then (if t188.length < 17592186044416 then (some (t176, t177, (t188 ++ [0]), t192, t193)) else (none)) else (if t191 = 2 then (spec_l1Cur_coloured.l0 k t176 t177 t188 (t188.length : Int) 0 s0_0 t192 t193) else (some (t176, t177, t188, t192, t193))))) = some (r1, r2, r3, r4, r5) := H
    have A7 := Aside0.mk A70
    clear A70
    by_cases c8 : t191 = 0
    · rw [if_pos c8] at H
      have c8b0 : (t191 == 0) = true := beq_iff_eq.mpr c8
      have c8b1 : (t191 != 0) = false := bne_eq_false_iff_eq.mpr c8
      clear c8
      replace H := Option.bind_eq_some_iff.mp H
      obtain ⟨⟨t194, t195, t196⟩, A90, H⟩ := H
      replace H : ((spec_l1Cur_pick.f s0_0 t195 t196 4).bind fun bt197 => (if 0 ≤ t194 then (if t194 < (t188.length : Int) then (some (t176, t177, (t188.set (t194 : Int).toNat (wrap64 (bt197.1 - 1))), bt197.2.1, bt197.2.2)) else (none)) else (none))) = some (r1, r2, r3, r4, r5) := H
      have A9 := Aside0.mk A90
      clear A90
      replace H := Option.bind_eq_some_iff.mp H
      obtain ⟨⟨t197, t198, t199⟩, A100, H⟩ := H
      replace H : (if 0 ≤ t194 then (if t194 < (t188.length : Int) then (some (t176, t177, (t188.set (t194 : Int).toNat (wrap64 (t197 - 1))), t198, t199)) else (none)) else (none)) = some (r1, r2, r3, r4, r5) := H
      have A10 := Aside0.mk A100
      clear A100
      by_cases c11 : 0 ≤ t194
      · rw [if_pos c11] at H
        have c11b0 : decide (0 ≤ t194) = true := decide_eq_true c11
        clear c11
        by_cases c12 : t194 < (t188.length : Int)
        · rw [if_pos c12] at H
          have c12b0 : decide (t194 < (t188.length : Int)) = true := decide_eq_true c12
          clear c12
          obtain ⟨y200, hy200⟩ : ∃ y_ : List Int, y_ = (t188.set (t194 : Int).toNat (wrap64 (t197 - 1))) := ⟨_, rfl⟩
          replace H : (some (t176, t177, y200, t198, t199)) = some (r1, r2, r3, r4, r5) := by first | (rw [hy200]; with_reducible exact H) | (have H2_ := (Option.bind_some _ _).symm.trans H; rw [hy200]; with_reducible exact H2_) | (have H2_ := (Option.bind_some _ _).symm.trans H; with_reducible exact H2_) | with_reducible exact H | (rw [hy200]; exact H) | exact H
          have Ny200 := Aside0.mk hy200
          clear hy200
          simp only [Option.some.injEq, Prod.mk.injEq] at H
          obtain ⟨rfl, rfl, rfl, rfl, rfl⟩ := H
          go_enter Try.func147, Try.ntmps147
          go_wp2_with (first | ((with_reducible refine gate_callee (f := 175) rfl ?_); refine goesL_ (some 12) rfl rfl Try.func175 (by kernel_rfl) rfl #[.pointer (some ⟨g, 0, none⟩), .int .i64 6] rfl (by (try simp only [List.map_toArray, List.map_cons, List.map_nil]); first | done | rfl | (simp only [List.length_drop, List.length_take]; rfl)) ?_; (with_reducible refine (spec_l1Cur_sets.calls g s0_0 s0_1 s0_2 6 t176 t177 t178 t179 w0 _ ?side1 ?side2 A2.out).mono ?_); (case side1 => repeat (first | (with_reducible first | exact HI0.out | apply IsS101.alloc | apply IsS101.drewN | apply IsS101.drew | apply IsS101.set_1 | apply IsS101.set_2) | exact HI0.out)); (case side2 => repeat (first | (with_reducible first | exact HB.out | apply below_alloc | apply pw_below_drewN | apply below_drew1 | refine below_set ?_ (IsS101.ge HI0.out)) | exact HB.out)); rintro e w14 ⟨rfl, hi, hb, hk⟩; refine ⟨_, rfl, ?_⟩; have n0_ := Aside0.mk (KeepBut.trans (by repeat (first | (with_reducible first | exact HK.out | apply KeepBut.set_ | apply keep_drewN | apply keep_drew | apply keep_alloc) | exact HK.out)) hk (.inl rfl)); have n1_ := Aside0.mk (hb); have n2_ := Aside0.mk (hi); clear HK; clear HB; clear HI0; have HK := n0_; have HB := n1_; have HI0 := n2_; clear n0_ n1_ n2_; (try clear hb); (try clear hb2); (try clear hk); (try clear hi)) | ((with_reducible refine gate_callee (f := 143) rfl ?_); refine goesL_ (some 17) rfl rfl Try.func143 (by kernel_rfl) rfl #[.int .i64 t176, .int .i64 t177] rfl (by (try simp only [List.map_toArray, List.map_cons, List.map_nil]); first | done | rfl | (simp only [List.length_drop, List.length_take]; rfl)) ?_; (with_reducible refine (spec_knGiven.calls t176 t177 true _ A3.out).mono ?_); rintro e w' ⟨rfl, ⟨nd, rfl⟩⟩; refine ⟨_, rfl, ?_⟩; (try (rw [drewN_self w14]; generalize hq_ : World.drewN w14 _ = w14; have n0_ : Aside0 (IsS101 w0 w14 g s0_0 t178 t179) := ⟨by rw [← hq_]; exact (by repeat (first | (with_reducible first | exact HI0.out | apply IsS101.alloc | apply IsS101.drewN | apply IsS101.drew | apply IsS101.set_1 | apply IsS101.set_2) | exact HI0.out))⟩; have n1_ : Aside0 (KeepBut w w14 g none) := ⟨by rw [← hq_]; exact (by repeat (first | (with_reducible first | exact HK.out | apply KeepBut.set_ | apply keep_drewN | apply keep_drew | apply keep_alloc) | exact HK.out))⟩; have n2_ : Aside0 (Below w0.heap.size w0 w14) := ⟨by rw [← hq_]; exact (by repeat (first | (with_reducible first | exact HB.out | apply below_alloc | apply pw_below_drewN | apply below_drew1 | refine below_set ?_ (IsS101.ge HI0.out)) | exact HB.out))⟩; clear HI0 HK HB hq_; have HI0 := n0_; have HK := n1_; have HB := n2_; clear n0_ n1_ n2_))) | ((with_reducible refine gate_callee (f := 285) rfl ?_); refine goesL_ (some 25) rfl rfl Try.func285 (by kernel_rfl) rfl #[.int .i64 t176, .int .i64 t177] rfl (by (try simp only [List.map_toArray, List.map_cons, List.map_nil]); first | done | rfl | (simp only [List.length_drop, List.length_take]; rfl)) ?_; (with_reducible refine (spec_ColoursOf.calls k t176 t177 t184 t185 _ A5.out).mono ?_); rintro e w15 ⟨v186, rfl, ho0, hb⟩; refine ⟨_, rfl, ?_⟩; have n0_ := Aside0.mk (Kd.R_lower ho0 (keep_size (w := w) (g := g) (row := none) (by repeat (first | (with_reducible first | exact HK.out | apply KeepBut.set_ | apply keep_drewN | apply keep_drew | apply keep_alloc) | exact HK.out)))); have n1_ := Aside0.mk (IsS101.below (by repeat (first | (with_reducible first | exact HI0.out | apply IsS101.alloc | apply IsS101.drewN | apply IsS101.drew | apply IsS101.set_1 | apply IsS101.set_2) | exact HI0.out)) hb); have n2_ := Aside0.mk (KeepBut.trans (by repeat (first | (with_reducible first | exact HK.out | apply KeepBut.set_ | apply keep_drewN | apply keep_drew | apply keep_alloc) | exact HK.out)) (KeepBut.of_below hb g none) (.inl rfl)); have n3_ := Aside0.mk (below_step (by repeat (first | (with_reducible first | exact HB.out | apply below_alloc | apply pw_below_drewN | apply below_drew1 | refine below_set ?_ (IsS101.ge HI0.out)) | exact HB.out)) hb); clear HI0; clear HK; clear HB; have HO187 := n0_; have HI0 := n1_; have HK := n2_; have HB := n3_; clear n0_ n1_ n2_ n3_; (try clear hb); (try clear hb2); (try clear hk); (try clear hi); (try clear ho0); obtain ⟨Ao16, co16, eo16⟩ := Kd.R_slice HO187.out; subst eo16) | ((with_reducible refine gate_callee (f := 286) rfl ?_); refine goesL_ (some 29) rfl rfl Try.func286 (by kernel_rfl) rfl #[.slice Ao16 t184.length co16] rfl (by (try simp only [List.map_toArray, List.map_cons, List.map_nil]); first | done | rfl | (simp only [List.length_drop, List.length_take]; rfl)) ?_; (with_reducible refine (spec_l1Own.calls _ _ t184 t188 _ ?side1 ?side2 A6.out).mono ?_); (case side1 => repeat (first | exact (Kd.R_reads' HO187.out).2.2 | (with_reducible refine Kd.C_alloc ?_ _) | (with_reducible refine Kd.C_drewN ?_ _) | (with_reducible refine Kd.C_drew ?_))); (case side2 => exact (Kd.R_reads' HO187.out).2.1); rintro e w17 ⟨v189, rfl, ho0, hb⟩; refine ⟨_, rfl, ?_⟩; have n0_ := Aside0.mk (Kd.R_elder' (by (with_reducible repeat (first | apply Kd.R_alloc | apply Kd.R_drewN | apply Kd.R_drew)); exact HO187.out) (Kd.R_base ho0) hb); have n1_ := Aside0.mk (Kd.R_lower (Kd.R_new' ho0 (Kd.R_lt (by (with_reducible repeat (first | apply Kd.R_alloc | apply Kd.R_drewN | apply Kd.R_drew)); exact HO187.out))) (keep_size (w := w) (g := g) (row := none) (by repeat (first | (with_reducible first | exact HK.out | apply KeepBut.set_ | apply keep_drewN | apply keep_drew | apply keep_alloc) | exact HK.out)))); have n2_ := Aside0.mk (IsS101.below (by repeat (first | (with_reducible first | exact HI0.out | apply IsS101.alloc | apply IsS101.drewN | apply IsS101.drew | apply IsS101.set_1 | apply IsS101.set_2) | exact HI0.out)) hb); have n3_ := Aside0.mk (KeepBut.trans (by repeat (first | (with_reducible first | exact HK.out | apply KeepBut.set_ | apply keep_drewN | apply keep_drew | apply keep_alloc) | exact HK.out)) (KeepBut.of_below hb g none) (.inl rfl)); have n4_ := Aside0.mk (below_step (by repeat (first | (with_reducible first | exact HB.out | apply below_alloc | apply pw_below_drewN | apply below_drew1 | refine below_set ?_ (IsS101.ge HI0.out)) | exact HB.out)) hb); clear HO187; clear HI0; clear HK; clear HB; have HO187 := n0_; have HO190 := n1_; have HI0 := n2_; have HK := n3_; have HB := n4_; clear n0_ n1_ n2_ n3_ n4_; (try clear hb); (try clear hb2); (try clear hk); (try clear hi); (try clear ho0)) | ((with_reducible refine gate_callee (f := 177) rfl ?_); refine goesL_ (some 31) rfl rfl Try.func177 (by kernel_rfl) rfl #[.pointer (some ⟨g, 0, none⟩), .int .i64 6] rfl (by (try simp only [List.map_toArray, List.map_cons, List.map_nil]); first | done | rfl | (simp only [List.length_drop, List.length_take]; rfl)) ?_; (with_reducible refine (spec_l1Cur_pick.calls g s0_0 t178 t179 6 t191 t192 t193 w0 _ ?side1 ?side2 A7.out).mono ?_); (case side1 => repeat (first | (with_reducible first | exact HI0.out | apply IsS101.alloc | apply IsS101.drewN | apply IsS101.drew | apply IsS101.set_1 | apply IsS101.set_2) | exact HI0.out)); (case side2 => repeat (first | (with_reducible first | exact HB.out | apply below_alloc | apply pw_below_drewN | apply below_drew1 | refine below_set ?_ (IsS101.ge HI0.out)) | exact HB.out)); rintro e w18 ⟨rfl, hi, hb, hk⟩; refine ⟨_, rfl, ?_⟩; have n0_ := Aside0.mk (Kd.R_mono (Kd.R_keep (IsS101.apart (show IsS101 w0 _ g s0_0 t178 t179 from by repeat (first | (with_reducible first | exact HI0.out | apply IsS101.alloc | apply IsS101.drewN | apply IsS101.drew | apply IsS101.set_1 | apply IsS101.set_2) | exact HI0.out)) (by (with_reducible repeat (first | apply Kd.R_alloc | apply Kd.R_drewN | apply Kd.R_drew)); exact HO187.out) (by decide)) hk (fun _ h => h.2)) (fun _ h => h.1)); have n1_ := Aside0.mk (Kd.R_mono (Kd.R_keep (IsS101.apart (show IsS101 w0 _ g s0_0 t178 t179 from by repeat (first | (with_reducible first | exact HI0.out | apply IsS101.alloc | apply IsS101.drewN | apply IsS101.drew | apply IsS101.set_1 | apply IsS101.set_2) | exact HI0.out)) (by (with_reducible repeat (first | apply Kd.R_alloc | apply Kd.R_drewN | apply Kd.R_drew)); exact HO190.out) (by decide)) hk (fun _ h => h.2)) (fun _ h => h.1)); have n2_ := Aside0.mk (KeepBut.trans (by repeat (first | (with_reducible first | exact HK.out | apply KeepBut.set_ | apply keep_drewN | apply keep_drew | apply keep_alloc) | exact HK.out)) hk (.inl rfl)); have n3_ := Aside0.mk (hb); have n4_ := Aside0.mk (hi); clear HO187; clear HO190; clear HK; clear HB; clear HI0; have HO187 := n0_; have HO190 := n1_; have HK := n2_; have HB := n3_; have HI0 := n4_; clear n0_ n1_ n2_ n3_ n4_; (try clear hb); (try clear hb2); (try clear hk); (try clear hi); obtain ⟨Ao19, co19, eo19⟩ := Kd.R_slice HO190.out; subst eo19) | ((with_reducible refine gate_callee (f := 177) rfl ?_); refine goesL_ (some 38) rfl rfl Try.func177 (by kernel_rfl) rfl #[.pointer (some ⟨g, 0, none⟩), .int .i64 (t188.length : Int)] rfl (by (try simp only [List.map_toArray, List.map_cons, List.map_nil]); first | done | rfl | (simp only [List.length_drop, List.length_take]; rfl)) ?_; (with_reducible refine (spec_l1Cur_pick.calls g s0_0 t192 t193 (t188.length : Int) t194 t195 t196 w0 _ ?side1 ?side2 A9.out).mono ?_); (case side1 => repeat (first | (with_reducible first | exact HI0.out | apply IsS101.alloc | apply IsS101.drewN | apply IsS101.drew | apply IsS101.set_1 | apply IsS101.set_2) | exact HI0.out)); (case side2 => repeat (first | (with_reducible first | exact HB.out | apply below_alloc | apply pw_below_drewN | apply below_drew1 | refine below_set ?_ (IsS101.ge HI0.out)) | exact HB.out)); rintro e w20 ⟨rfl, hi, hb, hk⟩; refine ⟨_, rfl, ?_⟩; have n0_ := Aside0.mk (Kd.R_mono (Kd.R_keep (IsS101.apart (show IsS101 w0 _ g s0_0 t192 t193 from by repeat (first | (with_reducible first | exact HI0.out | apply IsS101.alloc | apply IsS101.drewN | apply IsS101.drew | apply IsS101.set_1 | apply IsS101.set_2) | exact HI0.out)) (by (with_reducible repeat (first | apply Kd.R_alloc | apply Kd.R_drewN | apply Kd.R_drew)); exact HO187.out) (by decide)) hk (fun _ h => h.2)) (fun _ h => h.1)); have n1_ := Aside0.mk (Kd.R_mono (Kd.R_keep (IsS101.apart (show IsS101 w0 _ g s0_0 t192 t193 from by repeat (first | (with_reducible first | exact HI0.out | apply IsS101.alloc | apply IsS101.drewN | apply IsS101.drew | apply IsS101.set_1 | apply IsS101.set_2) | exact HI0.out)) (by (with_reducible repeat (first | apply Kd.R_alloc | apply Kd.R_drewN | apply Kd.R_drew)); exact HO190.out) (by decide)) hk (fun _ h => h.2)) (fun _ h => h.1)); have n2_ := Aside0.mk (KeepBut.trans (by repeat (first | (with_reducible first | exact HK.out | apply KeepBut.set_ | apply keep_drewN | apply keep_drew | apply keep_alloc) | exact HK.out)) hk (.inl rfl)); have n3_ := Aside0.mk (hb); have n4_ := Aside0.mk (hi); clear HO187; clear HO190; clear HK; clear HB; clear HI0; have HO187 := n0_; have HO190 := n1_; have HK := n2_; have HB := n3_; have HI0 := n4_; clear n0_ n1_ n2_ n3_ n4_; (try clear hb); (try clear hb2); (try clear hk); (try clear hi)) | ((with_reducible refine gate_callee (f := 177) rfl ?_); refine goesL_ (some 40) rfl rfl Try.func177 (by kernel_rfl) rfl #[.pointer (some ⟨g, 0, none⟩), .int .i64 4] rfl (by (try simp only [List.map_toArray, List.map_cons, List.map_nil]); first | done | rfl | (simp only [List.length_drop, List.length_take]; rfl)) ?_; (with_reducible refine (spec_l1Cur_pick.calls g s0_0 t195 t196 4 t197 t198 t199 w0 _ ?side1 ?side2 A10.out).mono ?_); (case side1 => repeat (first | (with_reducible first | exact HI0.out | apply IsS101.alloc | apply IsS101.drewN | apply IsS101.drew | apply IsS101.set_1 | apply IsS101.set_2) | exact HI0.out)); (case side2 => repeat (first | (with_reducible first | exact HB.out | apply below_alloc | apply pw_below_drewN | apply below_drew1 | refine below_set ?_ (IsS101.ge HI0.out)) | exact HB.out)); rintro e w21 ⟨rfl, hi, hb, hk⟩; refine ⟨_, rfl, ?_⟩; have n0_ := Aside0.mk (Kd.R_mono (Kd.R_keep (IsS101.apart (show IsS101 w0 _ g s0_0 t195 t196 from by repeat (first | (with_reducible first | exact HI0.out | apply IsS101.alloc | apply IsS101.drewN | apply IsS101.drew | apply IsS101.set_1 | apply IsS101.set_2) | exact HI0.out)) (by (with_reducible repeat (first | apply Kd.R_alloc | apply Kd.R_drewN | apply Kd.R_drew)); exact HO187.out) (by decide)) hk (fun _ h => h.2)) (fun _ h => h.1)); have n1_ := Aside0.mk (Kd.R_mono (Kd.R_keep (IsS101.apart (show IsS101 w0 _ g s0_0 t195 t196 from by repeat (first | (with_reducible first | exact HI0.out | apply IsS101.alloc | apply IsS101.drewN | apply IsS101.drew | apply IsS101.set_1 | apply IsS101.set_2) | exact HI0.out)) (by (with_reducible repeat (first | apply Kd.R_alloc | apply Kd.R_drewN | apply Kd.R_drew)); exact HO190.out) (by decide)) hk (fun _ h => h.2)) (fun _ h => h.1)); have n2_ := Aside0.mk (KeepBut.trans (by repeat (first | (with_reducible first | exact HK.out | apply KeepBut.set_ | apply keep_drewN | apply keep_drew | apply keep_alloc) | exact HK.out)) hk (.inl rfl)); have n3_ := Aside0.mk (hb); have n4_ := Aside0.mk (hi); clear HO187; clear HO190; clear HK; clear HB; clear HI0; have HO187 := n0_; have HO190 := n1_; have HK := n2_; have HB := n3_; have HI0 := n4_; clear n0_ n1_ n2_ n3_ n4_; (try clear hb); (try clear hb2); (try clear hk); (try clear hi); have p13 : 0 ≤ (t194 : Int) := of_decide_eq_true (by first | (with_reducible assumption) | assumption); have q13 : (t194 : Int) < ((t188.length : Int) : Int) := of_decide_eq_true (by first | (with_reducible assumption) | assumption); obtain ⟨go13, co13, eo13, gb13, gl13, cl13, HG13⟩ := Kd.R_form HO190.out (by omega); (first | cases eo13 | (injection eo13 with ea_ en_ ec_; (first | subst ea_ | (injection ea_ with ea_; subst ea_)); subst ec_; clear en_)); have GB13 := Aside0.mk gb13; have GG13 := Aside0.mk HG13; clear gb13 gl13 HG13; obtain ⟨hx13_0, hf13_0⟩ := Kd.R_celln 0 HO190.out (t194 : Int) p13 q13; replace p13 := eq_true p13; replace q13 := eq_true q13; have n_ := Aside0.mk (Kd.R_mono (ok' := (fun k_ => some k_ ≠ (.slice Ao16 t184.length co16 : Value).ownBlock)) HO190.out (fun k_ hk => hk.2)); clear HO190; have HO190 := n_; clear n_; obtain ⟨hy22_, hz22_⟩ := Kd.R_celln 0 HO190.out (t194 : Int) (of_decide_eq_true (by first | (with_reducible assumption) | assumption)) (of_decide_eq_true (by first | (with_reducible assumption) | assumption)); have HP22 := Kd.R_putg HO190.out (t194 : Int) (wrap64 (t197 - 1))) | ((with_reducible refine gate_store (t := 3) (p := 42) rfl ?_); refine store_event (t := 3) (p := 42) (v := ?vo_w23) (w1 := (w21.setCell ⟨go13, (t194 : Int).toNat, none⟩ (.int .i64 (wrap64 (t197 - 1))))) ?hg ?ho ?hn ?hr ?_; (case ho => rfl); (case hg => rfl); (case hn => rfl); (case hr => first | (go_simp; done) | (go_simp; rfl)); intro w23 hw; have hg : w21.grownBy w23 (some go13) := (by rw [hw]; exact HP22.2); have hp_ : Kd.R (Kd.int .i64) 3 w23 w.heap.size (fun k_ => some k_ ≠ (.slice Ao16 t184.length co16 : Value).ownBlock) (.slice (some ⟨go13, 0, none⟩) t188.length co19) y200 := (by rw [hw, Ny200.out]; exact HP22.1); clear HP22; have n0_ := Aside0.mk (IsS101.grown (by repeat (first | (with_reducible first | exact HI0.out | apply IsS101.alloc | apply IsS101.drewN | apply IsS101.drew | apply IsS101.set_1 | apply IsS101.set_2) | exact HI0.out)) hg (IsS101.own_ne HI0.out HO190.out (by decide))); have n1_ := Aside0.mk (Kd.R_after (v := (.slice (some ⟨go13, 0, none⟩) t188.length co19)) (v1 := (.slice (some ⟨go13, 0, none⟩) t188.length co19)) (ok := (fun _ => True)) (by (with_reducible repeat (first | apply Kd.R_alloc | apply Kd.R_drewN | apply Kd.R_drew)); exact HO187.out) hg (.inl rfl)); have n2_ := Aside0.mk (hp_); have n3_ := Aside0.mk ((by rw [hw]; exact below_set (HB.out) (Nat.le_trans HL.out GB13.out) : Below w0.heap.size w0 w23)); have n4_ := Aside0.mk (KeepBut.trans (by repeat (first | (with_reducible first | exact HK.out | apply KeepBut.set_ | apply keep_drewN | apply keep_drew | apply keep_alloc) | exact HK.out)) (KeepBut.of_grown hg g) (Kd.R_base2 HO190.out)); clear HI0; clear HO187; clear HO190; clear HB; clear HK; have HI0 := n0_; have HO187 := n1_; have HO190 := n2_; have HB := n3_; have HK := n4_; clear n0_ n1_ n2_ n3_ n4_; clear hg hw hp_))
          go_ret3
          exact ⟨_, by first | rfl | (simp [errW_none, errW_some] <;> rfl) | (simp [*, errW_none, errW_some] <;> rfl), by (with_reducible repeat (first | apply Kd.R_alloc | apply Kd.R_drewN | apply Kd.R_drew)); exact Kd.R_mono HO190.out (fun _ hk => trivial), by repeat (first | (with_reducible first | exact HI0.out | apply IsS101.alloc | apply IsS101.drewN | apply IsS101.drew | apply IsS101.set_1 | apply IsS101.set_2) | exact HI0.out), by repeat (first | (with_reducible first | exact HB.out | apply below_alloc | apply pw_below_drewN | apply below_drew1 | refine below_set ?_ (IsS101.ge HI0.out)) | exact HB.out), by repeat (first | (with_reducible first | exact HK.out | apply KeepBut.set_ | apply keep_drewN | apply keep_drew | apply keep_alloc) | exact HK.out)⟩
        · rw [if_neg c12] at H
          exact absurd H (by simp)
      · rw [if_neg c11] at H
        exact absurd H (by simp)
    · rw [if_neg c8] at H
      have c8b0 : (t191 == 0) = false := beq_eq_false_iff_ne.mpr c8
      have c8b1 : (t191 != 0) = true := bne_iff_ne.mpr c8
      by_cases c24 : t191 = 1
      · rw [if_pos c24] at H
        have c24b0 : (t191 == 1) = true := beq_iff_eq.mpr c24
        have c24b1 : (t191 != 1) = false := bne_eq_false_iff_eq.mpr c24
        clear c24
        by_cases c25 : t188.length < 17592186044416
        · rw [if_pos c25] at H
          have LMc25 := Aside0.mk c25
          clear c25
          obtain ⟨y201, hy201⟩ : ∃ y_ : List Int, y_ = (t188 ++ [0]) := ⟨_, rfl⟩
          replace H : (some (t176, t177, y201, t192, t193)) = some (r1, r2, r3, r4, r5) := by first | (rw [hy201]; with_reducible exact H) | (have H2_ := (Option.bind_some _ _).symm.trans H; rw [hy201]; with_reducible exact H2_) | (have H2_ := (Option.bind_some _ _).symm.trans H; with_reducible exact H2_) | with_reducible exact H | (rw [hy201]; exact H) | exact H
          have Ny201 := Aside0.mk hy201
          clear hy201
          simp only [Option.some.injEq, Prod.mk.injEq] at H
          obtain ⟨rfl, rfl, rfl, rfl, rfl⟩ := H
          go_enter Try.func147, Try.ntmps147
          go_wp2_with (first | ((with_reducible refine gate_callee (f := 175) rfl ?_); refine goesL_ (some 12) rfl rfl Try.func175 (by kernel_rfl) rfl #[.pointer (some ⟨g, 0, none⟩), .int .i64 6] rfl (by (try simp only [List.map_toArray, List.map_cons, List.map_nil]); first | done | rfl | (simp only [List.length_drop, List.length_take]; rfl)) ?_; (with_reducible refine (spec_l1Cur_sets.calls g s0_0 s0_1 s0_2 6 t176 t177 t178 t179 w0 _ ?side1 ?side2 A2.out).mono ?_); (case side1 => repeat (first | (with_reducible first | exact HI0.out | apply IsS101.alloc | apply IsS101.drewN | apply IsS101.drew | apply IsS101.set_1 | apply IsS101.set_2) | exact HI0.out)); (case side2 => repeat (first | (with_reducible first | exact HB.out | apply below_alloc | apply pw_below_drewN | apply below_drew1 | refine below_set ?_ (IsS101.ge HI0.out)) | exact HB.out)); rintro e w26 ⟨rfl, hi, hb, hk⟩; refine ⟨_, rfl, ?_⟩; have n0_ := Aside0.mk (KeepBut.trans (by repeat (first | (with_reducible first | exact HK.out | apply KeepBut.set_ | apply keep_drewN | apply keep_drew | apply keep_alloc) | exact HK.out)) hk (.inl rfl)); have n1_ := Aside0.mk (hb); have n2_ := Aside0.mk (hi); clear HK; clear HB; clear HI0; have HK := n0_; have HB := n1_; have HI0 := n2_; clear n0_ n1_ n2_; (try clear hb); (try clear hb2); (try clear hk); (try clear hi)) | ((with_reducible refine gate_callee (f := 143) rfl ?_); refine goesL_ (some 17) rfl rfl Try.func143 (by kernel_rfl) rfl #[.int .i64 t176, .int .i64 t177] rfl (by (try simp only [List.map_toArray, List.map_cons, List.map_nil]); first | done | rfl | (simp only [List.length_drop, List.length_take]; rfl)) ?_; (with_reducible refine (spec_knGiven.calls t176 t177 true _ A3.out).mono ?_); rintro e w' ⟨rfl, ⟨nd, rfl⟩⟩; refine ⟨_, rfl, ?_⟩) | ((with_reducible refine gate_callee (f := 285) rfl ?_); refine goesL_ (some 25) rfl rfl Try.func285 (by kernel_rfl) rfl #[.int .i64 t176, .int .i64 t177] rfl (by (try simp only [List.map_toArray, List.map_cons, List.map_nil]); first | done | rfl | (simp only [List.length_drop, List.length_take]; rfl)) ?_; (with_reducible refine (spec_ColoursOf.calls k t176 t177 t184 t185 _ A5.out).mono ?_); rintro e w27 ⟨v186, rfl, ho0, hb⟩; refine ⟨_, rfl, ?_⟩; have n0_ := Aside0.mk (Kd.R_lower ho0 (keep_size (w := w) (g := g) (row := none) (by repeat (first | (with_reducible first | exact HK.out | apply KeepBut.set_ | apply keep_drewN | apply keep_drew | apply keep_alloc) | exact HK.out)))); have n1_ := Aside0.mk (IsS101.below (by repeat (first | (with_reducible first | exact HI0.out | apply IsS101.alloc | apply IsS101.drewN | apply IsS101.drew | apply IsS101.set_1 | apply IsS101.set_2) | exact HI0.out)) hb); have n2_ := Aside0.mk (KeepBut.trans (by repeat (first | (with_reducible first | exact HK.out | apply KeepBut.set_ | apply keep_drewN | apply keep_drew | apply keep_alloc) | exact HK.out)) (KeepBut.of_below hb g none) (.inl rfl)); have n3_ := Aside0.mk (below_step (by repeat (first | (with_reducible first | exact HB.out | apply below_alloc | apply pw_below_drewN | apply below_drew1 | refine below_set ?_ (IsS101.ge HI0.out)) | exact HB.out)) hb); clear HI0; clear HK; clear HB; have HO187 := n0_; have HI0 := n1_; have HK := n2_; have HB := n3_; clear n0_ n1_ n2_ n3_; (try clear hb); (try clear hb2); (try clear hk); (try clear hi); (try clear ho0); obtain ⟨Ao28, co28, eo28⟩ := Kd.R_slice HO187.out; subst eo28) | ((with_reducible refine gate_callee (f := 286) rfl ?_); refine goesL_ (some 29) rfl rfl Try.func286 (by kernel_rfl) rfl #[.slice Ao28 t184.length co28] rfl (by (try simp only [List.map_toArray, List.map_cons, List.map_nil]); first | done | rfl | (simp only [List.length_drop, List.length_take]; rfl)) ?_; (with_reducible refine (spec_l1Own.calls _ _ t184 t188 _ ?side1 ?side2 A6.out).mono ?_); (case side1 => repeat (first | exact (Kd.R_reads' HO187.out).2.2 | (with_reducible refine Kd.C_alloc ?_ _) | (with_reducible refine Kd.C_drewN ?_ _) | (with_reducible refine Kd.C_drew ?_))); (case side2 => exact (Kd.R_reads' HO187.out).2.1); rintro e w29 ⟨v189, rfl, ho0, hb⟩; refine ⟨_, rfl, ?_⟩; have n0_ := Aside0.mk (Kd.R_elder' (by (with_reducible repeat (first | apply Kd.R_alloc | apply Kd.R_drewN | apply Kd.R_drew)); exact HO187.out) (Kd.R_base ho0) hb); have n1_ := Aside0.mk (Kd.R_lower (Kd.R_new' ho0 (Kd.R_lt (by (with_reducible repeat (first | apply Kd.R_alloc | apply Kd.R_drewN | apply Kd.R_drew)); exact HO187.out))) (keep_size (w := w) (g := g) (row := none) (by repeat (first | (with_reducible first | exact HK.out | apply KeepBut.set_ | apply keep_drewN | apply keep_drew | apply keep_alloc) | exact HK.out)))); have n2_ := Aside0.mk (IsS101.below (by repeat (first | (with_reducible first | exact HI0.out | apply IsS101.alloc | apply IsS101.drewN | apply IsS101.drew | apply IsS101.set_1 | apply IsS101.set_2) | exact HI0.out)) hb); have n3_ := Aside0.mk (KeepBut.trans (by repeat (first | (with_reducible first | exact HK.out | apply KeepBut.set_ | apply keep_drewN | apply keep_drew | apply keep_alloc) | exact HK.out)) (KeepBut.of_below hb g none) (.inl rfl)); have n4_ := Aside0.mk (below_step (by repeat (first | (with_reducible first | exact HB.out | apply below_alloc | apply pw_below_drewN | apply below_drew1 | refine below_set ?_ (IsS101.ge HI0.out)) | exact HB.out)) hb); clear HO187; clear HI0; clear HK; clear HB; have HO187 := n0_; have HO190 := n1_; have HI0 := n2_; have HK := n3_; have HB := n4_; clear n0_ n1_ n2_ n3_ n4_; (try clear hb); (try clear hb2); (try clear hk); (try clear hi); (try clear ho0)) | ((with_reducible refine gate_callee (f := 177) rfl ?_); refine goesL_ (some 31) rfl rfl Try.func177 (by kernel_rfl) rfl #[.pointer (some ⟨g, 0, none⟩), .int .i64 6] rfl (by (try simp only [List.map_toArray, List.map_cons, List.map_nil]); first | done | rfl | (simp only [List.length_drop, List.length_take]; rfl)) ?_; (with_reducible refine (spec_l1Cur_pick.calls g s0_0 t178 t179 6 t191 t192 t193 w0 _ ?side1 ?side2 A7.out).mono ?_); (case side1 => repeat (first | (with_reducible first | exact HI0.out | apply IsS101.alloc | apply IsS101.drewN | apply IsS101.drew | apply IsS101.set_1 | apply IsS101.set_2) | exact HI0.out)); (case side2 => repeat (first | (with_reducible first | exact HB.out | apply below_alloc | apply pw_below_drewN | apply below_drew1 | refine below_set ?_ (IsS101.ge HI0.out)) | exact HB.out)); rintro e w30 ⟨rfl, hi, hb, hk⟩; refine ⟨_, rfl, ?_⟩; have n0_ := Aside0.mk (Kd.R_mono (Kd.R_keep (IsS101.apart (show IsS101 w0 _ g s0_0 t178 t179 from by repeat (first | (with_reducible first | exact HI0.out | apply IsS101.alloc | apply IsS101.drewN | apply IsS101.drew | apply IsS101.set_1 | apply IsS101.set_2) | exact HI0.out)) (by (with_reducible repeat (first | apply Kd.R_alloc | apply Kd.R_drewN | apply Kd.R_drew)); exact HO187.out) (by decide)) hk (fun _ h => h.2)) (fun _ h => h.1)); have n1_ := Aside0.mk (Kd.R_mono (Kd.R_keep (IsS101.apart (show IsS101 w0 _ g s0_0 t178 t179 from by repeat (first | (with_reducible first | exact HI0.out | apply IsS101.alloc | apply IsS101.drewN | apply IsS101.drew | apply IsS101.set_1 | apply IsS101.set_2) | exact HI0.out)) (by (with_reducible repeat (first | apply Kd.R_alloc | apply Kd.R_drewN | apply Kd.R_drew)); exact HO190.out) (by decide)) hk (fun _ h => h.2)) (fun _ h => h.1)); have n2_ := Aside0.mk (KeepBut.trans (by repeat (first | (with_reducible first | exact HK.out | apply KeepBut.set_ | apply keep_drewN | apply keep_drew | apply keep_alloc) | exact HK.out)) hk (.inl rfl)); have n3_ := Aside0.mk (hb); have n4_ := Aside0.mk (hi); clear HO187; clear HO190; clear HK; clear HB; clear HI0; have HO187 := n0_; have HO190 := n1_; have HK := n2_; have HB := n3_; have HI0 := n4_; clear n0_ n1_ n2_ n3_ n4_; (try clear hb); (try clear hb2); (try clear hk); (try clear hi)) | ((with_reducible refine gate_builtin (b := .append) (xs := #[.tmp 45, .tmp 46]) rfl ?_); at_builtin; refine Kd.R_append (Kd.int .i64) w.heap.size rfl (.tmp 45) (.tmp 46) 22 3 (.int .i64 0) 8 rfl Try.underlying22 info3 rfl (by decide) (by omega) v189 t188 0 [.int .i64 0] (fun k_ => some k_ ≠ (.slice Ao28 t184.length co28 : Value).ownBlock) (fun _ => False) rfl rfl ?aP (fun _ hk => hk.elim) ?aF ?aO (Below.refl _ _) ?aS ?aL ?_; (case aP => exact rfl); (case aF => exact (fun k_ hk => Kd.fresh' (Kd.R_lt (by (with_reducible repeat (first | apply Kd.R_alloc | apply Kd.R_drewN | apply Kd.R_drew)); exact HO187.out)) k_ hk)); (case aO => exact (by (with_reducible repeat (first | apply Kd.R_alloc | apply Kd.R_drewN | apply Kd.R_drew)); exact Kd.R_mono HO190.out (fun _ hk => hk.2))); (case aS => exact (keep_size (w := w) (g := g) (row := none) (by repeat (first | (with_reducible first | exact HK.out | apply KeepBut.set_ | apply keep_drewN | apply keep_drew | apply keep_alloc) | exact HK.out)))); (case aL => have := LMc25.out; omega); intro v202 w31 ho hb hg hat; rw [← Ny201.out] at ho; have n0_ := Aside0.mk (IsS101.grown (by repeat (first | (with_reducible first | exact HI0.out | apply IsS101.alloc | apply IsS101.drewN | apply IsS101.drew | apply IsS101.set_1 | apply IsS101.set_2) | exact HI0.out)) hg (IsS101.own_ne HI0.out HO190.out (by decide))); have n1_ := Aside0.mk (Kd.R_after (ok := (fun _ => True)) (by (with_reducible repeat (first | apply Kd.R_alloc | apply Kd.R_drewN | apply Kd.R_drew)); exact HO187.out) hg hat); have n2_ := Aside0.mk (below_weaken (by repeat (first | (with_reducible first | exact HB.out | apply below_alloc | apply pw_below_drewN | apply below_drew1 | refine below_set ?_ (IsS101.ge HI0.out)) | exact HB.out)) HL.out hb); have n3_ := Aside0.mk (KeepBut.trans (by repeat (first | (with_reducible first | exact HK.out | apply KeepBut.set_ | apply keep_drewN | apply keep_drew | apply keep_alloc) | exact HK.out)) (KeepBut.of_grown hg g) (Kd.R_base2 HO190.out)); have n4_ := Aside0.mk (ho); clear HI0; clear HO187; clear HB; clear HK; clear HO190; have HI0 := n0_; have HO187 := n1_; have HB := n2_; have HK := n3_; have HO203 := n4_; clear n0_ n1_ n2_ n3_ n4_; clear ho hb hg hat))
          go_ret3
          exact ⟨_, by first | rfl | (simp [errW_none, errW_some] <;> rfl) | (simp [*, errW_none, errW_some] <;> rfl), by (with_reducible repeat (first | apply Kd.R_alloc | apply Kd.R_drewN | apply Kd.R_drew)); exact Kd.R_mono HO203.out (fun _ hk => trivial), by repeat (first | (with_reducible first | exact HI0.out | apply IsS101.alloc | apply IsS101.drewN | apply IsS101.drew | apply IsS101.set_1 | apply IsS101.set_2) | exact HI0.out), by repeat (first | (with_reducible first | exact HB.out | apply below_alloc | apply pw_below_drewN | apply below_drew1 | refine below_set ?_ (IsS101.ge HI0.out)) | exact HB.out), by repeat (first | (with_reducible first | exact HK.out | apply KeepBut.set_ | apply keep_drewN | apply keep_drew | apply keep_alloc) | exact HK.out)⟩
        · rw [if_neg c25] at H
          exact absurd H (by simp)
      · rw [if_neg c24] at H
        have c24b0 : (t191 == 1) = false := beq_eq_false_iff_ne.mpr c24
        have c24b1 : (t191 != 1) = true := bne_iff_ne.mpr c24
        by_cases c32 : t191 = 2
        · rw [if_pos c32] at H
          have c32b0 : (t191 == 2) = true := beq_iff_eq.mpr c32
          have c32b1 : (t191 != 2) = false := bne_eq_false_iff_eq.mpr c32
          clear c32
          have H' := Aside0.mk H
          clear H
          go_enter Try.func147, Try.ntmps147
          go_wp2_with (first | ((with_reducible refine gate_callee (f := 175) rfl ?_); refine goesL_ (some 12) rfl rfl Try.func175 (by kernel_rfl) rfl #[.pointer (some ⟨g, 0, none⟩), .int .i64 6] rfl (by (try simp only [List.map_toArray, List.map_cons, List.map_nil]); first | done | rfl | (simp only [List.length_drop, List.length_take]; rfl)) ?_; (with_reducible refine (spec_l1Cur_sets.calls g s0_0 s0_1 s0_2 6 t176 t177 t178 t179 w0 _ ?side1 ?side2 A2.out).mono ?_); (case side1 => repeat (first | (with_reducible first | exact HI0.out | apply IsS101.alloc | apply IsS101.drewN | apply IsS101.drew | apply IsS101.set_1 | apply IsS101.set_2) | exact HI0.out)); (case side2 => repeat (first | (with_reducible first | exact HB.out | apply below_alloc | apply pw_below_drewN | apply below_drew1 | refine below_set ?_ (IsS101.ge HI0.out)) | exact HB.out)); rintro e w33 ⟨rfl, hi, hb, hk⟩; refine ⟨_, rfl, ?_⟩; have n0_ := Aside0.mk (KeepBut.trans (by repeat (first | (with_reducible first | exact HK.out | apply KeepBut.set_ | apply keep_drewN | apply keep_drew | apply keep_alloc) | exact HK.out)) hk (.inl rfl)); have n1_ := Aside0.mk (hb); have n2_ := Aside0.mk (hi); clear HK; clear HB; clear HI0; have HK := n0_; have HB := n1_; have HI0 := n2_; clear n0_ n1_ n2_; (try clear hb); (try clear hb2); (try clear hk); (try clear hi)) | ((with_reducible refine gate_callee (f := 143) rfl ?_); refine goesL_ (some 17) rfl rfl Try.func143 (by kernel_rfl) rfl #[.int .i64 t176, .int .i64 t177] rfl (by (try simp only [List.map_toArray, List.map_cons, List.map_nil]); first | done | rfl | (simp only [List.length_drop, List.length_take]; rfl)) ?_; (with_reducible refine (spec_knGiven.calls t176 t177 true _ A3.out).mono ?_); rintro e w' ⟨rfl, ⟨nd, rfl⟩⟩; refine ⟨_, rfl, ?_⟩) | ((with_reducible refine gate_callee (f := 285) rfl ?_); refine goesL_ (some 25) rfl rfl Try.func285 (by kernel_rfl) rfl #[.int .i64 t176, .int .i64 t177] rfl (by (try simp only [List.map_toArray, List.map_cons, List.map_nil]); first | done | rfl | (simp only [List.length_drop, List.length_take]; rfl)) ?_; (with_reducible refine (spec_ColoursOf.calls k t176 t177 t184 t185 _ A5.out).mono ?_); rintro e w34 ⟨v186, rfl, ho0, hb⟩; refine ⟨_, rfl, ?_⟩; have n0_ := Aside0.mk (Kd.R_lower ho0 (keep_size (w := w) (g := g) (row := none) (by repeat (first | (with_reducible first | exact HK.out | apply KeepBut.set_ | apply keep_drewN | apply keep_drew | apply keep_alloc) | exact HK.out)))); have n1_ := Aside0.mk (IsS101.below (by repeat (first | (with_reducible first | exact HI0.out | apply IsS101.alloc | apply IsS101.drewN | apply IsS101.drew | apply IsS101.set_1 | apply IsS101.set_2) | exact HI0.out)) hb); have n2_ := Aside0.mk (KeepBut.trans (by repeat (first | (with_reducible first | exact HK.out | apply KeepBut.set_ | apply keep_drewN | apply keep_drew | apply keep_alloc) | exact HK.out)) (KeepBut.of_below hb g none) (.inl rfl)); have n3_ := Aside0.mk (below_step (by repeat (first | (with_reducible first | exact HB.out | apply below_alloc | apply pw_below_drewN | apply below_drew1 | refine below_set ?_ (IsS101.ge HI0.out)) | exact HB.out)) hb); clear HI0; clear HK; clear HB; have HO187 := n0_; have HI0 := n1_; have HK := n2_; have HB := n3_; clear n0_ n1_ n2_ n3_; (try clear hb); (try clear hb2); (try clear hk); (try clear hi); (try clear ho0); obtain ⟨Ao35, co35, eo35⟩ := Kd.R_slice HO187.out; subst eo35) | ((with_reducible refine gate_callee (f := 286) rfl ?_); refine goesL_ (some 29) rfl rfl Try.func286 (by kernel_rfl) rfl #[.slice Ao35 t184.length co35] rfl (by (try simp only [List.map_toArray, List.map_cons, List.map_nil]); first | done | rfl | (simp only [List.length_drop, List.length_take]; rfl)) ?_; (with_reducible refine (spec_l1Own.calls _ _ t184 t188 _ ?side1 ?side2 A6.out).mono ?_); (case side1 => repeat (first | exact (Kd.R_reads' HO187.out).2.2 | (with_reducible refine Kd.C_alloc ?_ _) | (with_reducible refine Kd.C_drewN ?_ _) | (with_reducible refine Kd.C_drew ?_))); (case side2 => exact (Kd.R_reads' HO187.out).2.1); rintro e w36 ⟨v189, rfl, ho0, hb⟩; refine ⟨_, rfl, ?_⟩; have n0_ := Aside0.mk (Kd.R_elder' (by (with_reducible repeat (first | apply Kd.R_alloc | apply Kd.R_drewN | apply Kd.R_drew)); exact HO187.out) (Kd.R_base ho0) hb); have n1_ := Aside0.mk (Kd.R_lower (Kd.R_new' ho0 (Kd.R_lt (by (with_reducible repeat (first | apply Kd.R_alloc | apply Kd.R_drewN | apply Kd.R_drew)); exact HO187.out))) (keep_size (w := w) (g := g) (row := none) (by repeat (first | (with_reducible first | exact HK.out | apply KeepBut.set_ | apply keep_drewN | apply keep_drew | apply keep_alloc) | exact HK.out)))); have n2_ := Aside0.mk (IsS101.below (by repeat (first | (with_reducible first | exact HI0.out | apply IsS101.alloc | apply IsS101.drewN | apply IsS101.drew | apply IsS101.set_1 | apply IsS101.set_2) | exact HI0.out)) hb); have n3_ := Aside0.mk (KeepBut.trans (by repeat (first | (with_reducible first | exact HK.out | apply KeepBut.set_ | apply keep_drewN | apply keep_drew | apply keep_alloc) | exact HK.out)) (KeepBut.of_below hb g none) (.inl rfl)); have n4_ := Aside0.mk (below_step (by repeat (first | (with_reducible first | exact HB.out | apply below_alloc | apply pw_below_drewN | apply below_drew1 | refine below_set ?_ (IsS101.ge HI0.out)) | exact HB.out)) hb); clear HO187; clear HI0; clear HK; clear HB; have HO187 := n0_; have HO190 := n1_; have HI0 := n2_; have HK := n3_; have HB := n4_; clear n0_ n1_ n2_ n3_ n4_; (try clear hb); (try clear hb2); (try clear hk); (try clear hi); (try clear ho0)) | ((with_reducible refine gate_callee (f := 177) rfl ?_); refine goesL_ (some 31) rfl rfl Try.func177 (by kernel_rfl) rfl #[.pointer (some ⟨g, 0, none⟩), .int .i64 6] rfl (by (try simp only [List.map_toArray, List.map_cons, List.map_nil]); first | done | rfl | (simp only [List.length_drop, List.length_take]; rfl)) ?_; (with_reducible refine (spec_l1Cur_pick.calls g s0_0 t178 t179 6 t191 t192 t193 w0 _ ?side1 ?side2 A7.out).mono ?_); (case side1 => repeat (first | (with_reducible first | exact HI0.out | apply IsS101.alloc | apply IsS101.drewN | apply IsS101.drew | apply IsS101.set_1 | apply IsS101.set_2) | exact HI0.out)); (case side2 => repeat (first | (with_reducible first | exact HB.out | apply below_alloc | apply pw_below_drewN | apply below_drew1 | refine below_set ?_ (IsS101.ge HI0.out)) | exact HB.out)); rintro e w37 ⟨rfl, hi, hb, hk⟩; refine ⟨_, rfl, ?_⟩; have n0_ := Aside0.mk (Kd.R_mono (Kd.R_keep (IsS101.apart (show IsS101 w0 _ g s0_0 t178 t179 from by repeat (first | (with_reducible first | exact HI0.out | apply IsS101.alloc | apply IsS101.drewN | apply IsS101.drew | apply IsS101.set_1 | apply IsS101.set_2) | exact HI0.out)) (by (with_reducible repeat (first | apply Kd.R_alloc | apply Kd.R_drewN | apply Kd.R_drew)); exact HO187.out) (by decide)) hk (fun _ h => h.2)) (fun _ h => h.1)); have n1_ := Aside0.mk (Kd.R_mono (Kd.R_keep (IsS101.apart (show IsS101 w0 _ g s0_0 t178 t179 from by repeat (first | (with_reducible first | exact HI0.out | apply IsS101.alloc | apply IsS101.drewN | apply IsS101.drew | apply IsS101.set_1 | apply IsS101.set_2) | exact HI0.out)) (by (with_reducible repeat (first | apply Kd.R_alloc | apply Kd.R_drewN | apply Kd.R_drew)); exact HO190.out) (by decide)) hk (fun _ h => h.2)) (fun _ h => h.1)); have n2_ := Aside0.mk (KeepBut.trans (by repeat (first | (with_reducible first | exact HK.out | apply KeepBut.set_ | apply keep_drewN | apply keep_drew | apply keep_alloc) | exact HK.out)) hk (.inl rfl)); have n3_ := Aside0.mk (hb); have n4_ := Aside0.mk (hi); clear HO187; clear HO190; clear HK; clear HB; clear HI0; have HO187 := n0_; have HO190 := n1_; have HK := n2_; have HB := n3_; have HI0 := n4_; clear n0_ n1_ n2_ n3_ n4_; (try clear hb); (try clear hb2); (try clear hk); (try clear hi); obtain ⟨Ao38, co38, eo38⟩ := Kd.R_slice HO190.out; subst eo38))
          go_loopg [52] k (fun kq v52 w' => ∃ (x7_1 : List Int) (x52_1 : Int) (x1001_1 : Int) (x1002_1 : Int), v52 = .int .i64 x52_1 ∧ Aside0 (spec_l1Cur_coloured.l0 kq t176 t177 x7_1 (t188.length : Int) x52_1 s0_0 x1001_1 x1002_1 = some (r1, r2, r3, r4, r5)) ∧ Aside0 (kq ≤ k) ∧ Aside0 (Kd.R (Kd.int .i64) 3 w' w.heap.size (fun _ => True) (.slice Ao38 t188.length co38) x7_1) ∧ Aside0 (IsS101 w0 w' g s0_0 x1001_1 x1002_1) ∧ Aside0 (KeepBut w w' g none) ∧ Aside0 (Below w0.heap.size w0 w'))
          case atStart => exact ⟨(t188), (0), (t192), (t193), (by first | rfl | (simp; done) | (simp [*]; done) | (simp; decide) | (simp; unfold wrap64; omega)), H', ⟨Nat.le_refl _⟩, ⟨by (with_reducible repeat (first | apply Kd.R_alloc | apply Kd.R_drewN | apply Kd.R_drew)); exact Kd.R_mono HO190.out (fun _ hk => trivial)⟩, ⟨by repeat (first | (with_reducible first | exact HI0.out | apply IsS101.alloc | apply IsS101.drewN | apply IsS101.drew | apply IsS101.set_1 | apply IsS101.set_2) | exact HI0.out)⟩, ⟨by repeat (first | (with_reducible first | exact HK.out | apply KeepBut.set_ | apply keep_drewN | apply keep_drew | apply keep_alloc) | exact HK.out)⟩, ⟨by repeat (first | (with_reducible first | exact HB.out | apply below_alloc | apply pw_below_drewN | apply below_drew1 | refine below_set ?_ (IsS101.ge HI0.out)) | exact HB.out)⟩⟩
          case round =>
            clear H'
            try clear c1
            try clear p1
            try clear q1
            try clear hx1
            try clear hf1
            try clear c2
            try clear p2
            try clear c3
            try clear c4
            try clear p6
            try clear c8
            try clear c8b0
            try clear c8b1
            try clear c11
            try clear c11b0
            try clear c12
            try clear c12b0
            try clear p13
            try clear q13
            try clear hx13
            try clear hf13
            try clear c14
            try clear c17
            try clear c24
            try clear c24b0
            try clear c24b1
            try clear c25
            try clear c28
            try clear c32
            try clear c32b0
            try clear c32b1
            try clear hx13_0
            try clear p13
            try clear q13
            obtain ⟨x7_1, x52_1, x1001_1, x1002_1, rfl, HA, HK1, HO_7, HI0, HK, HB⟩ := hrel
            have hl7_1 := (Kd.R_reads' HO_7.out).1
            rw [hl7_1] at HO_7
            (try simp only [hl7_1])
            cases gk with
            | zero => exact absurd HA.out (by simp [spec_l1Cur_coloured.l0])
            | succ k1 =>
              have H := HA.out
              clear HA
              simp only [spec_l1Cur_coloured.l0] at H
              by_cases c39 : x52_1 < (t188.length : Int)
              · rw [if_pos c39] at H
                have c39b0 : decide (x52_1 < (t188.length : Int)) = true := decide_eq_true c39
                clear c39
                replace H := Option.bind_eq_some_iff.mp H
                obtain ⟨⟨t204, t205, t206⟩, A400, H⟩ := H
                replace H : (if 0 ≤ x52_1 then (if x52_1 < (x7_1.length : Int) then (spec_l1Cur_coloured.l0 k1 t176 t177 (x7_1.set (x52_1 : Int).toNat t204) (t188.length : Int) (wrap64 (x52_1 + 1)) s0_0 t205 t206) else (none)) else (none)) = some (r1, r2, r3, r4, r5) := H
                have A40 := Aside0.mk A400
                clear A400
                by_cases c41 : 0 ≤ x52_1
                · rw [if_pos c41] at H
                  have c41b0 : decide (0 ≤ x52_1) = true := decide_eq_true c41
                  clear c41
                  by_cases c42 : x52_1 < (x7_1.length : Int)
                  · rw [if_pos c42] at H
                    have c42b0 : decide (x52_1 < (x7_1.length : Int)) = true := decide_eq_true c42
                    clear c42
                    obtain ⟨y207, hy207⟩ : ∃ y_ : List Int, y_ = (x7_1.set (x52_1 : Int).toNat t204) := ⟨_, rfl⟩
                    replace H : (spec_l1Cur_coloured.l0 k1 t176 t177 y207 (t188.length : Int) (wrap64 (x52_1 + 1)) s0_0 t205 t206) = some (r1, r2, r3, r4, r5) := by first | (rw [hy207]; with_reducible exact H) | (have H2_ := (Option.bind_some _ _).symm.trans H; rw [hy207]; with_reducible exact H2_) | (have H2_ := (Option.bind_some _ _).symm.trans H; with_reducible exact H2_) | with_reducible exact H | (rw [hy207]; exact H) | exact H
                    have Ny207 := Aside0.mk hy207
                    clear hy207
                    have H' := Aside0.mk H
                    clear H
                    go_wp2_with (first | ((with_reducible refine gate_callee (f := 177) rfl ?_); refine goesL_ (some 58) rfl rfl Try.func177 (by kernel_rfl) rfl #[.pointer (some ⟨g, 0, none⟩), .int .i64 3] rfl (by (try simp only [List.map_toArray, List.map_cons, List.map_nil]); first | done | rfl | (simp only [List.length_drop, List.length_take]; rfl)) ?_; (with_reducible refine (spec_l1Cur_pick.calls g s0_0 x1001_1 x1002_1 3 t204 t205 t206 w0 _ ?side1 ?side2 A40.out).mono ?_); (case side1 => repeat (first | (with_reducible first | exact HI0.out | apply IsS101.alloc | apply IsS101.drewN | apply IsS101.drew | apply IsS101.set_1 | apply IsS101.set_2) | exact HI0.out)); (case side2 => repeat (first | (with_reducible first | exact HB.out | apply below_alloc | apply pw_below_drewN | apply below_drew1 | refine below_set ?_ (IsS101.ge HI0.out)) | exact HB.out)); rintro e w44 ⟨rfl, hi, hb, hk⟩; refine ⟨_, rfl, ?_⟩; have n0_ := Aside0.mk (Kd.R_mono (Kd.R_keep (IsS101.apart (show IsS101 w0 _ g s0_0 x1001_1 x1002_1 from by repeat (first | (with_reducible first | exact HI0.out | apply IsS101.alloc | apply IsS101.drewN | apply IsS101.drew | apply IsS101.set_1 | apply IsS101.set_2) | exact HI0.out)) (by (with_reducible repeat (first | apply Kd.R_alloc | apply Kd.R_drewN | apply Kd.R_drew)); exact HO_7.out) (by decide)) hk (fun _ h => h.2)) (fun _ h => h.1)); have n1_ := Aside0.mk (KeepBut.trans (by repeat (first | (with_reducible first | exact HK.out | apply KeepBut.set_ | apply keep_drewN | apply keep_drew | apply keep_alloc) | exact HK.out)) hk (.inl rfl)); have n2_ := Aside0.mk (hb); have n3_ := Aside0.mk (hi); clear HO_7; clear HK; clear HB; clear HI0; have HO_7 := n0_; have HK := n1_; have HB := n2_; have HI0 := n3_; clear n0_ n1_ n2_ n3_; (try clear hb); (try clear hb2); (try clear hk); (try clear hi); have p43 : 0 ≤ (x52_1 : Int) := of_decide_eq_true (by first | (with_reducible assumption) | assumption); have q43 : (x52_1 : Int) < ((x7_1.length : Int) : Int) := of_decide_eq_true (by first | (with_reducible assumption) | assumption); obtain ⟨go43, co43, eo43, gb43, gl43, cl43, HG43⟩ := Kd.R_form HO_7.out (by omega); (first | cases eo43 | (injection eo43 with ea_ en_ ec_; (first | subst ea_ | (injection ea_ with ea_; subst ea_)); subst ec_; clear en_)); have GB43 := Aside0.mk gb43; have GG43 := Aside0.mk HG43; clear gb43 gl43 HG43; obtain ⟨hx43_0, hf43_0⟩ := Kd.R_celln 0 HO_7.out (x52_1 : Int) p43 q43; replace p43 := eq_true p43; replace q43 := eq_true q43; obtain ⟨hy45_, hz45_⟩ := Kd.R_celln 0 HO_7.out (x52_1 : Int) (of_decide_eq_true (by first | (with_reducible assumption) | assumption)) (of_decide_eq_true (by first | (with_reducible assumption) | assumption)); have HP45 := Kd.R_putg HO_7.out (x52_1 : Int) t204) | ((with_reducible refine gate_store (t := 3) (p := 59) rfl ?_); refine store_event (t := 3) (p := 59) (v := ?vo_w46) (w1 := (w44.setCell ⟨go43, (x52_1 : Int).toNat, none⟩ (.int .i64 t204))) ?hg ?ho ?hn ?hr ?_; (case ho => rfl); (case hg => rfl); (case hn => rfl); (case hr => first | (go_simp; done) | (go_simp; rfl)); intro w46 hw; have hg : w44.grownBy w46 (some go43) := (by rw [hw]; exact HP45.2); have hp_ : Kd.R (Kd.int .i64) 3 w46 w.heap.size (fun _ => True) (.slice (some ⟨go43, 0, none⟩) x7_1.length co38) y207 := (by rw [hw, Ny207.out]; exact HP45.1); clear HP45; have n0_ := Aside0.mk (hp_); have n1_ := Aside0.mk (IsS101.grown (by repeat (first | (with_reducible first | exact HI0.out | apply IsS101.alloc | apply IsS101.drewN | apply IsS101.drew | apply IsS101.set_1 | apply IsS101.set_2) | exact HI0.out)) hg (IsS101.own_ne HI0.out HO_7.out (by decide))); have n2_ := Aside0.mk ((by rw [hw]; exact below_set (HB.out) (Nat.le_trans HL.out GB43.out) : Below w0.heap.size w0 w46)); have n3_ := Aside0.mk (KeepBut.trans (by repeat (first | (with_reducible first | exact HK.out | apply KeepBut.set_ | apply keep_drewN | apply keep_drew | apply keep_alloc) | exact HK.out)) (KeepBut.of_grown hg g) (Kd.R_base2 HO_7.out)); clear HO_7; clear HI0; clear HB; clear HK; have HO_7 := n0_; have HI0 := n1_; have HB := n2_; have HK := n3_; clear n0_ n1_ n2_ n3_; clear hg hw hp_))
                    (try simp only [← hl7_1])
                    go_roundg k1
                    case measure => have := HK1.out; omega
                    case rel => exact ⟨(y207), (wrap64 (x52_1 + 1)), (t205), (t206), (by first | rfl | (simp; done) | (simp [*]; done) | (simp; decide) | (simp; unfold wrap64; omega)), H', ⟨by have := HK1.out; omega⟩, ⟨by (try simp only [hl7_1]); (with_reducible repeat (first | apply Kd.R_alloc | apply Kd.R_drewN | apply Kd.R_drew)); exact HO_7.out⟩, ⟨by repeat (first | (with_reducible first | exact HI0.out | apply IsS101.alloc | apply IsS101.drewN | apply IsS101.drew | apply IsS101.set_1 | apply IsS101.set_2) | exact HI0.out)⟩, ⟨by repeat (first | (with_reducible first | exact HK.out | apply KeepBut.set_ | apply keep_drewN | apply keep_drew | apply keep_alloc) | exact HK.out)⟩, ⟨by repeat (first | (with_reducible first | exact HB.out | apply below_alloc | apply pw_below_drewN | apply below_drew1 | refine below_set ?_ (IsS101.ge HI0.out)) | exact HB.out)⟩⟩
                  · rw [if_neg c42] at H
                    exact absurd H (by simp)
                · rw [if_neg c41] at H
                  exact absurd H (by simp)
              · rw [if_neg c39] at H
                have c39b0 : decide (x52_1 < (t188.length : Int)) = false := decide_eq_false c39
                (try (have c39b9 := c39b0; rw [hl7_1] at c39b9))
                clear c39
                simp only [Option.some.injEq, Prod.mk.injEq] at H
                obtain ⟨rfl, rfl, rfl, rfl, rfl⟩ := H
                go_wp2
                go_ret3
                exact ⟨_, by first | rfl | (simp [errW_none, errW_some] <;> rfl) | (simp [*, errW_none, errW_some] <;> rfl), by (with_reducible repeat (first | apply Kd.R_alloc | apply Kd.R_drewN | apply Kd.R_drew)); exact HO_7.out, by repeat (first | (with_reducible first | exact HI0.out | apply IsS101.alloc | apply IsS101.drewN | apply IsS101.drew | apply IsS101.set_1 | apply IsS101.set_2) | exact HI0.out), by repeat (first | (with_reducible first | exact HB.out | apply below_alloc | apply pw_below_drewN | apply below_drew1 | refine below_set ?_ (IsS101.ge HI0.out)) | exact HB.out), by repeat (first | (with_reducible first | exact HK.out | apply KeepBut.set_ | apply keep_drewN | apply keep_drew | apply keep_alloc) | exact HK.out)⟩
        · rw [if_neg c32] at H
          have c32b0 : (t191 == 2) = false := beq_eq_false_iff_ne.mpr c32
          have c32b1 : (t191 != 2) = true := bne_iff_ne.mpr c32
          simp only [Option.some.injEq, Prod.mk.injEq] at H
          obtain ⟨rfl, rfl, rfl, rfl, rfl⟩ := H
          go_enter Try.func147, Try.ntmps147
          go_wp2_with (first | ((with_reducible refine gate_callee (f := 175) rfl ?_); refine goesL_ (some 12) rfl rfl Try.func175 (by kernel_rfl) rfl #[.pointer (some ⟨g, 0, none⟩), .int .i64 6] rfl (by (try simp only [List.map_toArray, List.map_cons, List.map_nil]); first | done | rfl | (simp only [List.length_drop, List.length_take]; rfl)) ?_; (with_reducible refine (spec_l1Cur_sets.calls g s0_0 s0_1 s0_2 6 t176 t177 t178 t179 w0 _ ?side1 ?side2 A2.out).mono ?_); (case side1 => repeat (first | (with_reducible first | exact HI0.out | apply IsS101.alloc | apply IsS101.drewN | apply IsS101.drew | apply IsS101.set_1 | apply IsS101.set_2) | exact HI0.out)); (case side2 => repeat (first | (with_reducible first | exact HB.out | apply below_alloc | apply pw_below_drewN | apply below_drew1 | refine below_set ?_ (IsS101.ge HI0.out)) | exact HB.out)); rintro e w47 ⟨rfl, hi, hb, hk⟩; refine ⟨_, rfl, ?_⟩; have n0_ := Aside0.mk (KeepBut.trans (by repeat (first | (with_reducible first | exact HK.out | apply KeepBut.set_ | apply keep_drewN | apply keep_drew | apply keep_alloc) | exact HK.out)) hk (.inl rfl)); have n1_ := Aside0.mk (hb); have n2_ := Aside0.mk (hi); clear HK; clear HB; clear HI0; have HK := n0_; have HB := n1_; have HI0 := n2_; clear n0_ n1_ n2_; (try clear hb); (try clear hb2); (try clear hk); (try clear hi)) | ((with_reducible refine gate_callee (f := 143) rfl ?_); refine goesL_ (some 17) rfl rfl Try.func143 (by kernel_rfl) rfl #[.int .i64 t176, .int .i64 t177] rfl (by (try simp only [List.map_toArray, List.map_cons, List.map_nil]); first | done | rfl | (simp only [List.length_drop, List.length_take]; rfl)) ?_; (with_reducible refine (spec_knGiven.calls t176 t177 true _ A3.out).mono ?_); rintro e w' ⟨rfl, ⟨nd, rfl⟩⟩; refine ⟨_, rfl, ?_⟩) | ((with_reducible refine gate_callee (f := 285) rfl ?_); refine goesL_ (some 25) rfl rfl Try.func285 (by kernel_rfl) rfl #[.int .i64 t176, .int .i64 t177] rfl (by (try simp only [List.map_toArray, List.map_cons, List.map_nil]); first | done | rfl | (simp only [List.length_drop, List.length_take]; rfl)) ?_; (with_reducible refine (spec_ColoursOf.calls k t176 t177 t184 t185 _ A5.out).mono ?_); rintro e w48 ⟨v186, rfl, ho0, hb⟩; refine ⟨_, rfl, ?_⟩; have n0_ := Aside0.mk (Kd.R_lower ho0 (keep_size (w := w) (g := g) (row := none) (by repeat (first | (with_reducible first | exact HK.out | apply KeepBut.set_ | apply keep_drewN | apply keep_drew | apply keep_alloc) | exact HK.out)))); have n1_ := Aside0.mk (IsS101.below (by repeat (first | (with_reducible first | exact HI0.out | apply IsS101.alloc | apply IsS101.drewN | apply IsS101.drew | apply IsS101.set_1 | apply IsS101.set_2) | exact HI0.out)) hb); have n2_ := Aside0.mk (KeepBut.trans (by repeat (first | (with_reducible first | exact HK.out | apply KeepBut.set_ | apply keep_drewN | apply keep_drew | apply keep_alloc) | exact HK.out)) (KeepBut.of_below hb g none) (.inl rfl)); have n3_ := Aside0.mk (below_step (by repeat (first | (with_reducible first | exact HB.out | apply below_alloc | apply pw_below_drewN | apply below_drew1 | refine below_set ?_ (IsS101.ge HI0.out)) | exact HB.out)) hb); clear HI0; clear HK; clear HB; have HO187 := n0_; have HI0 := n1_; have HK := n2_; have HB := n3_; clear n0_ n1_ n2_ n3_; (try clear hb); (try clear hb2); (try clear hk); (try clear hi); (try clear ho0); obtain ⟨Ao49, co49, eo49⟩ := Kd.R_slice HO187.out; subst eo49) | ((with_reducible refine gate_callee (f := 286) rfl ?_); refine goesL_ (some 29) rfl rfl Try.func286 (by kernel_rfl) rfl #[.slice Ao49 t184.length co49] rfl (by (try simp only [List.map_toArray, List.map_cons, List.map_nil]); first | done | rfl | (simp only [List.length_drop, List.length_take]; rfl)) ?_; (with_reducible refine (spec_l1Own.calls _ _ t184 t188 _ ?side1 ?side2 A6.out).mono ?_); (case side1 => repeat (first | exact (Kd.R_reads' HO187.out).2.2 | (with_reducible refine Kd.C_alloc ?_ _) | (with_reducible refine Kd.C_drewN ?_ _) | (with_reducible refine Kd.C_drew ?_))); (case side2 => exact (Kd.R_reads' HO187.out).2.1); rintro e w50 ⟨v189, rfl, ho0, hb⟩; refine ⟨_, rfl, ?_⟩; have n0_ := Aside0.mk (Kd.R_elder' (by (with_reducible repeat (first | apply Kd.R_alloc | apply Kd.R_drewN | apply Kd.R_drew)); exact HO187.out) (Kd.R_base ho0) hb); have n1_ := Aside0.mk (Kd.R_lower (Kd.R_new' ho0 (Kd.R_lt (by (with_reducible repeat (first | apply Kd.R_alloc | apply Kd.R_drewN | apply Kd.R_drew)); exact HO187.out))) (keep_size (w := w) (g := g) (row := none) (by repeat (first | (with_reducible first | exact HK.out | apply KeepBut.set_ | apply keep_drewN | apply keep_drew | apply keep_alloc) | exact HK.out)))); have n2_ := Aside0.mk (IsS101.below (by repeat (first | (with_reducible first | exact HI0.out | apply IsS101.alloc | apply IsS101.drewN | apply IsS101.drew | apply IsS101.set_1 | apply IsS101.set_2) | exact HI0.out)) hb); have n3_ := Aside0.mk (KeepBut.trans (by repeat (first | (with_reducible first | exact HK.out | apply KeepBut.set_ | apply keep_drewN | apply keep_drew | apply keep_alloc) | exact HK.out)) (KeepBut.of_below hb g none) (.inl rfl)); have n4_ := Aside0.mk (below_step (by repeat (first | (with_reducible first | exact HB.out | apply below_alloc | apply pw_below_drewN | apply below_drew1 | refine below_set ?_ (IsS101.ge HI0.out)) | exact HB.out)) hb); clear HO187; clear HI0; clear HK; clear HB; have HO187 := n0_; have HO190 := n1_; have HI0 := n2_; have HK := n3_; have HB := n4_; clear n0_ n1_ n2_ n3_ n4_; (try clear hb); (try clear hb2); (try clear hk); (try clear hi); (try clear ho0)) | ((with_reducible refine gate_callee (f := 177) rfl ?_); refine goesL_ (some 31) rfl rfl Try.func177 (by kernel_rfl) rfl #[.pointer (some ⟨g, 0, none⟩), .int .i64 6] rfl (by (try simp only [List.map_toArray, List.map_cons, List.map_nil]); first | done | rfl | (simp only [List.length_drop, List.length_take]; rfl)) ?_; (with_reducible refine (spec_l1Cur_pick.calls g s0_0 t178 t179 6 t191 t192 t193 w0 _ ?side1 ?side2 A7.out).mono ?_); (case side1 => repeat (first | (with_reducible first | exact HI0.out | apply IsS101.alloc | apply IsS101.drewN | apply IsS101.drew | apply IsS101.set_1 | apply IsS101.set_2) | exact HI0.out)); (case side2 => repeat (first | (with_reducible first | exact HB.out | apply below_alloc | apply pw_below_drewN | apply below_drew1 | refine below_set ?_ (IsS101.ge HI0.out)) | exact HB.out)); rintro e w51 ⟨rfl, hi, hb, hk⟩; refine ⟨_, rfl, ?_⟩; have n0_ := Aside0.mk (Kd.R_mono (Kd.R_keep (IsS101.apart (show IsS101 w0 _ g s0_0 t178 t179 from by repeat (first | (with_reducible first | exact HI0.out | apply IsS101.alloc | apply IsS101.drewN | apply IsS101.drew | apply IsS101.set_1 | apply IsS101.set_2) | exact HI0.out)) (by (with_reducible repeat (first | apply Kd.R_alloc | apply Kd.R_drewN | apply Kd.R_drew)); exact HO187.out) (by decide)) hk (fun _ h => h.2)) (fun _ h => h.1)); have n1_ := Aside0.mk (Kd.R_mono (Kd.R_keep (IsS101.apart (show IsS101 w0 _ g s0_0 t178 t179 from by repeat (first | (with_reducible first | exact HI0.out | apply IsS101.alloc | apply IsS101.drewN | apply IsS101.drew | apply IsS101.set_1 | apply IsS101.set_2) | exact HI0.out)) (by (with_reducible repeat (first | apply Kd.R_alloc | apply Kd.R_drewN | apply Kd.R_drew)); exact HO190.out) (by decide)) hk (fun _ h => h.2)) (fun _ h => h.1)); have n2_ := Aside0.mk (KeepBut.trans (by repeat (first | (with_reducible first | exact HK.out | apply KeepBut.set_ | apply keep_drewN | apply keep_drew | apply keep_alloc) | exact HK.out)) hk (.inl rfl)); have n3_ := Aside0.mk (hb); have n4_ := Aside0.mk (hi); clear HO187; clear HO190; clear HK; clear HB; clear HI0; have HO187 := n0_; have HO190 := n1_; have HK := n2_; have HB := n3_; have HI0 := n4_; clear n0_ n1_ n2_ n3_ n4_; (try clear hb); (try clear hb2); (try clear hk); (try clear hi)))
          go_ret3
          exact ⟨_, by first | rfl | (simp [errW_none, errW_some] <;> rfl) | (simp [*, errW_none, errW_some] <;> rfl), by (with_reducible repeat (first | apply Kd.R_alloc | apply Kd.R_drewN | apply Kd.R_drew)); exact Kd.R_mono HO190.out (fun _ hk => trivial), by repeat (first | (with_reducible first | exact HI0.out | apply IsS101.alloc | apply IsS101.drewN | apply IsS101.drew | apply IsS101.set_1 | apply IsS101.set_2) | exact HI0.out), by repeat (first | (with_reducible first | exact HB.out | apply below_alloc | apply pw_below_drewN | apply below_drew1 | refine below_set ?_ (IsS101.ge HI0.out)) | exact HB.out), by repeat (first | (with_reducible first | exact HK.out | apply KeepBut.set_ | apply keep_drewN | apply keep_drew | apply keep_alloc) | exact HK.out)⟩
  · replace c4 := Bool.eq_false_iff.mpr c4
    subst c4
    have H1 : (some (t176, t177, (([0] : List Int)), t178, t179)) = some (r1, r2, r3, r4, r5) := by rw [if_neg (show ¬ (false = true) by decide)] at H; exact H
    clear H
    have H := H1
    clear H1
    obtain ⟨y181, hy181⟩ : ∃ y_ : List Int, y_ = (([0] : List Int)) := ⟨_, rfl⟩
    replace H : (some (t176, t177, y181, t178, t179)) = some (r1, r2, r3, r4, r5) := by first | (rw [hy181]; with_reducible exact H) | (have H2_ := (Option.bind_some _ _).symm.trans H; rw [hy181]; with_reducible exact H2_) | (have H2_ := (Option.bind_some _ _).symm.trans H; with_reducible exact H2_) | with_reducible exact H | (rw [hy181]; exact H) | exact H
    have Ny181 := Aside0.mk hy181
    clear hy181
    simp only [Option.some.injEq, Prod.mk.injEq] at H
    obtain ⟨rfl, rfl, rfl, rfl, rfl⟩ := H
    go_enter Try.func147, Try.ntmps147
    go_wp2_with (first | ((with_reducible refine gate_callee (f := 175) rfl ?_); refine goesL_ (some 12) rfl rfl Try.func175 (by kernel_rfl) rfl #[.pointer (some ⟨g, 0, none⟩), .int .i64 6] rfl (by (try simp only [List.map_toArray, List.map_cons, List.map_nil]); first | done | rfl | (simp only [List.length_drop, List.length_take]; rfl)) ?_; (with_reducible refine (spec_l1Cur_sets.calls g s0_0 s0_1 s0_2 6 t176 t177 t178 t179 w0 _ ?side1 ?side2 A2.out).mono ?_); (case side1 => repeat (first | (with_reducible first | exact HI0.out | apply IsS101.alloc | apply IsS101.drewN | apply IsS101.drew | apply IsS101.set_1 | apply IsS101.set_2) | exact HI0.out)); (case side2 => repeat (first | (with_reducible first | exact HB.out | apply below_alloc | apply pw_below_drewN | apply below_drew1 | refine below_set ?_ (IsS101.ge HI0.out)) | exact HB.out)); rintro e w52 ⟨rfl, hi, hb, hk⟩; refine ⟨_, rfl, ?_⟩; have n0_ := Aside0.mk (KeepBut.trans (by repeat (first | (with_reducible first | exact HK.out | apply KeepBut.set_ | apply keep_drewN | apply keep_drew | apply keep_alloc) | exact HK.out)) hk (.inl rfl)); have n1_ := Aside0.mk (hb); have n2_ := Aside0.mk (hi); clear HK; clear HB; clear HI0; have HK := n0_; have HB := n1_; have HI0 := n2_; clear n0_ n1_ n2_; (try clear hb); (try clear hb2); (try clear hk); (try clear hi)) | ((with_reducible refine gate_callee (f := 143) rfl ?_); refine goesL_ (some 17) rfl rfl Try.func143 (by kernel_rfl) rfl #[.int .i64 t176, .int .i64 t177] rfl (by (try simp only [List.map_toArray, List.map_cons, List.map_nil]); first | done | rfl | (simp only [List.length_drop, List.length_take]; rfl)) ?_; (with_reducible refine (spec_knGiven.calls t176 t177 false _ A3.out).mono ?_); rintro e w' ⟨rfl, ⟨nd, rfl⟩⟩; refine ⟨_, rfl, ?_⟩) | ((with_reducible refine gate_dst (N := 21) rfl ?_); refine Kd.R_lit (Kd.int .i64) _ 3 ?hg (N := 21) ?hd (xs := ([0] : List Int)) (inner := [.int .i64 0]) (ok := fun _ => True) (okp := fun _ => True) ?hr ?hp (fun _ hk => hk) trivial (Below.refl _ _) (Nat.le_refl _) (by simp) ?_; (case hd => rfl); (case hg => rfl); (case hr => first | (go_simp; done) | (go_simp; rfl)); (case hp => exact (Reps.one (show Kd.M (Kd.int .i64) _ _ _ 0 [.int .i64 0] from rfl) (Reps.none _ _))); intro v182 w53 ho54 hb hg_ hnew_; clear hg_ hnew_; (first | rw [← Ny181.out] at ho54 | (simp only [Int.reduceToNat] at ho54; rw [← Ny181.out] at ho54)); have n0_ := Aside0.mk (Kd.R_lower ho54 (keep_size (w := w) (g := g) (row := none) (by repeat (first | (with_reducible first | exact HK.out | apply KeepBut.set_ | apply keep_drewN | apply keep_drew | apply keep_alloc) | exact HK.out)))); have n1_ := Aside0.mk (IsS101.below (by repeat (first | (with_reducible first | exact HI0.out | apply IsS101.alloc | apply IsS101.drewN | apply IsS101.drew | apply IsS101.set_1 | apply IsS101.set_2) | exact HI0.out)) hb); have n2_ := Aside0.mk (KeepBut.trans (by repeat (first | (with_reducible first | exact HK.out | apply KeepBut.set_ | apply keep_drewN | apply keep_drew | apply keep_alloc) | exact HK.out)) (KeepBut.of_below hb g none) (.inl rfl)); have n3_ := Aside0.mk (below_step (by repeat (first | (with_reducible first | exact HB.out | apply below_alloc | apply pw_below_drewN | apply below_drew1 | refine below_set ?_ (IsS101.ge HI0.out)) | exact HB.out)) hb); clear HI0; clear HK; clear HB; have HO183 := n0_; have HI0 := n1_; have HK := n2_; have HB := n3_; clear n0_ n1_ n2_ n3_; clear hb ho54))
    go_ret3
    exact ⟨_, by first | rfl | (simp [errW_none, errW_some] <;> rfl) | (simp [*, errW_none, errW_some] <;> rfl), by (with_reducible repeat (first | apply Kd.R_alloc | apply Kd.R_drewN | apply Kd.R_drew)); exact HO183.out, by repeat (first | (with_reducible first | exact HI0.out | apply IsS101.alloc | apply IsS101.drewN | apply IsS101.drew | apply IsS101.set_1 | apply IsS101.set_2) | exact HI0.out), by repeat (first | (with_reducible first | exact HB.out | apply below_alloc | apply pw_below_drewN | apply below_drew1 | refine below_set ?_ (IsS101.ge HI0.out)) | exact HB.out), by repeat (first | (with_reducible first | exact HK.out | apply KeepBut.set_ | apply keep_drewN | apply keep_drew | apply keep_alloc) | exact HK.out)⟩
def spec_DrawIsColouring.f (k : Nat) (l0 : List Int) : Option (Int × Int × List Int) := (spec_l1Cur_coloured.f k l0 0 0).bind fun bt209 => (some (bt209.1, bt209.2.1, bt209.2.2.1))
set_option maxHeartbeats 8000000 in
set_option maxRecDepth 100000 in
theorem spec_DrawIsColouring.calls (k : Nat) (A0 : Option Addr) (c0 : Nat) (l0 : List Int) (r1 : Int) (r2 : Int) (r3 : List Int) (w : World) (hr0 : Kd.C (Kd.int .u8) w A0 l0.length l0) (hc0 : l0.length ≤ c0) (h : spec_DrawIsColouring.f k l0 = some (r1, r2, r3)) :
    Calls Try.prog 29 #[.slice A0 l0.length c0] w fun e w' => ∃ v2_ : Value, e = .returned (.tuple #[.int .i64 r1, .int .i64 r2, v2_]) ∧ Kd.R (Kd.int .i64) 3 w' w.heap.size (fun _ => True) v2_ r3 ∧ Below w.heap.size w w' := by
  have hu101 := Try.underlying101
  have HR0 := Aside0.mk hr0
  have HC0 := Aside0.mk hc0
  clear hr0 hc0
  have HB := Aside0.mk (Below.refl w.heap.size w)
  have H : ((spec_l1Cur_coloured.f k l0 0 0).bind fun bt209 => (some (bt209.1, bt209.2.1, bt209.2.2.1))) = some (r1, r2, r3) := h
  clear h
  replace H := Option.bind_eq_some_iff.mp H
  obtain ⟨⟨t209, t210, t211, t214, t215⟩, A20, H⟩ := H
  replace H : (some (t209, t210, t211)) = some (r1, r2, r3) := H
  have A2 := Aside0.mk A20
  clear A20
  simp only [Option.some.injEq, Prod.mk.injEq] at H
  obtain ⟨rfl, rfl, rfl⟩ := H
  go_enter Try.func29, Try.ntmps29
  go_wp2_with (first | ((with_reducible refine gate_dst (N := 8) rfl ?_); refine box_event ?hg (N := 8) ?hd (cs := #[.slice A0 l0.length c0, .int .i64 0, .int .u64 0]) (t := 101) ?hr ?_; (case hd => rfl); (case hg => rfl); (case hr => first | (go_simp; done) | (go_simp; rfl)); intro gb208 hg w3 hbox hb; have n0_ := Aside0.mk (below_step (by repeat (first | (with_reducible first | exact HB.out | apply below_alloc | apply pw_below_drewN | apply below_drew1) | exact HB.out)) hb); have n1_ := Aside0.mk ((⟨_, _, hbox, by rw [hg]; exact ((below_size (by repeat (first | (with_reducible first | exact HB.out | apply below_alloc | apply pw_below_drewN | apply below_drew1) | exact HB.out)))), HR0.out⟩ : IsS101 w w3 gb208 l0 0 0)); clear HB; have HB := n0_; have HI208 := n1_; clear n0_ n1_; clear hb hbox hg) | ((with_reducible refine gate_callee (f := 147) rfl ?_); refine goesL_ (some 10) rfl rfl Try.func147 (by kernel_rfl) rfl #[.pointer (some ⟨gb208, 0, none⟩)] rfl (by (try simp only [List.map_toArray, List.map_cons, List.map_nil]); first | done | rfl | (simp only [List.length_drop, List.length_take]; rfl)) ?_; (with_reducible refine (spec_l1Cur_coloured.calls k gb208 l0 0 0 t209 t210 t211 t214 t215 w _ ?side1 ?side2 A2.out).mono ?_); (case side1 => repeat (first | (with_reducible first | exact HI208.out | apply IsS101.alloc | apply IsS101.drewN | apply IsS101.drew | apply IsS101.set_1 | apply IsS101.set_2) | exact HI208.out)); (case side2 => repeat (first | (with_reducible first | exact HB.out | apply below_alloc | apply pw_below_drewN | apply below_drew1 | refine below_set ?_ (IsS101.ge HI208.out)) | exact HB.out)); rintro e w4 ⟨v212, rfl, ho0, hi, hb, hk⟩; refine ⟨_, rfl, ?_⟩; have n0_ := Aside0.mk (Kd.R_lower ho0 (below_size (by repeat (first | (with_reducible first | exact HB.out | apply below_alloc | apply pw_below_drewN | apply below_drew1 | refine below_set ?_ (IsS101.ge HI208.out)) | exact HB.out)))); have n1_ := Aside0.mk (hb); have n2_ := Aside0.mk (hi); clear HB; clear HI208; have HO213 := n0_; have HB := n1_; have HI208 := n2_; clear n0_ n1_ n2_; (try clear hb); (try clear hb2); (try clear hk); (try clear hi); (try clear ho0)))
  go_ret3
  exact ⟨_, by first | rfl | (simp [errW_none, errW_some] <;> rfl) | (simp [*, errW_none, errW_some] <;> rfl), by (with_reducible repeat (first | apply Kd.R_alloc | apply Kd.R_drewN | apply Kd.R_drew)); exact HO213.out, by repeat (first | (with_reducible first | exact HB.out | apply below_alloc | apply pw_below_drewN | apply below_drew1 | refine below_set ?_ (IsS101.ge HI208.out)) | exact HB.out)⟩
end Go.Proofs.Ytckiebdehlcjoaa.P
namespace Go.Proofs.Ytckiebdehlcjoaa.Own
open Go.RowKit Go.Proofs.YtckiebdehlcjoaaW.PrintWords Go.Proofs.YtckiebdehlcjoaaW.PrintLast Go.Proofs.YtckiebdehlcjoaaW.PrintMore
set_option linter.unusedVariables false
set_option linter.unusedSimpArgs false
/-- the first place from i on at which p holds, or -1 -/
def idxF (p : Int → Bool) : List Int → Int → Int
  | [], _ => -1
  | x :: l, i => if p x = true then i else idxF p l (i + 1)
theorem idxF_any (p : Int → Bool) : ∀ (l : List Int) (i : Int), 0 ≤ i → decide (0 ≤ idxF p l i) = l.any p
  | [], i, _ => by simp [idxF]
  | x :: l, i, h => by
    unfold idxF
    by_cases hp : p x = true
    · simp [hp, h]
    · simp [hp, idxF_any p l (i + 1) (by omega)]
theorem idxF_step (p : Int → Bool) (l : List Int) (i : Nat) (h : i < l.length) : idxF p (l.drop i) i = if p (rd l i) = true then (i : Int) else idxF p (l.drop (i + 1)) ((i + 1 : Nat) : Int) := by
  have e : l.drop i = rd l i :: l.drop (i + 1) := by
    rw [List.drop_eq_getElem_cons h]
    congr 1
    unfold rd
    rw [List.getD_eq_getElem?_getD, Int.toNat_natCast, List.getElem?_eq_getElem h]; rfl
  rw [e]; rfl
theorem rd_mem (l : List Int) (i : Nat) (h : i < l.length) : rd l i ∈ l := by
  unfold rd
  rw [List.getD_eq_getElem?_getD, Int.toNat_natCast, List.getElem?_eq_getElem h]
  exact List.getElem_mem _
set_option maxHeartbeats 2000000 in
theorem IndexFunc_int (g : Nat) (lb : Array Value) (p : Int → Bool) (A : Option Addr) (c : Nat) (l : List Int) (w : World)
    (eg : ∀ args w, (callFunc g args).run Try.prog w = .ok (.enter g args) w)
    (hr : Kd.C (Kd.int .i64) w A l.length l)
    (hp : ∀ (x : Int) (q : Nat), x ∈ l → Calls Try.prog g (#[.int .i64 x] ++ lb) (w.drewN q) fun e w' => e = .returned (.bool (p x)) ∧ ∃ q', w' = (w.drewN q).drewN q') :
    Calls Try.prog 283 #[.slice A l.length c, .func (.func g) #[] lb] w fun e w' => e = .returned (.int .i64 (idxF p l 0)) ∧ ∃ q, w' = w.drewN q := by
  have hbig : l.length ≤ 9223372036854775807 := Kd.C_max hr
  go_enter Try.func283, Try.ntmps283
  go_wp2
  go_loopg [5, 8] l.length (fun gg _ s8 wr => ∃ kk q : Nat, kk ≤ l.length ∧ l.length - kk ≤ gg ∧ s8 = .int .i64 kk ∧ wr = w.drewN q ∧ Aside0 (idxF p (l.drop kk) kk = idxF p l 0))
  case atStart => exact ⟨0, 0, Nat.zero_le _, by omega, rfl, rfl, ⟨rfl⟩⟩
  case round =>
    obtain ⟨kk, q, hkk, hg, rfl, rfl, X⟩ := hrel
    by_cases hlt : kk < l.length
    · have hltz : (kk : Int) < (l.length : Int) := by omega
      obtain ⟨ad, e, hx⟩ := Kd.at_int (Kd.C_drewN hr q) (kk : Int) (by omega) (by omega)
      cases e
      rw [Int.toNat_natCast] at hx
      have hcall := fun q => hp (rd l kk) q (rd_mem l kk hlt)
      clear hp hr
      have st := Aside0.mk (idxF_step p l kk hlt)
      generalize hy : rd l kk = y at hx hcall st
      clear hy
      cases hq : p y with
      | true =>
        rw [hq] at hcall st
        go_wp2_with (go_at_fn g; refine (hcall _).mono ?_; rintro e w' ⟨rfl, q', rfl⟩)
        go_ret
        refine ⟨?_, _, rfl⟩
        rw [← X.out, st.out]; simp
      | false =>
        rw [hq] at hcall st
        go_wp2_with (go_at_fn g; refine (hcall _).mono ?_; rintro e w' ⟨rfl, q', rfl⟩)
        go_roundg (l.length - (kk + 1))
        case measure => omega
        case rel =>
          refine ⟨kk + 1, _, by omega, by omega, by go_num, rfl, ⟨?_⟩⟩
          rw [← X.out, st.out]; simp
    · have hltz : decide ((kk : Int) < (l.length : Int)) = false := decide_eq_false (by omega)
      have hlty : decide (kk < l.length) = false := decide_eq_false hlt
      have X2 : Aside0 (idxF p l 0 = -1) := ⟨by rw [← X.out, show l.drop kk = [] from List.drop_eq_nil_of_le (by omega)]; rfl⟩
      clear X hp
      go_wp2
      go_ret
      refine ⟨?_, q, rfl⟩
      rw [X2.out]; rfl
set_option maxHeartbeats 2000000 in
theorem ContainsFunc_int (g : Nat) (lb : Array Value) (p : Int → Bool) (A : Option Addr) (c : Nat) (l : List Int) (w : World)
    (eg : ∀ args w, (callFunc g args).run Try.prog w = .ok (.enter g args) w)
    (hr : Kd.C (Kd.int .i64) w A l.length l)
    (hp : ∀ (x : Int) (q : Nat), x ∈ l → Calls Try.prog g (#[.int .i64 x] ++ lb) (w.drewN q) fun e w' => e = .returned (.bool (p x)) ∧ ∃ q', w' = (w.drewN q).drewN q') :
    Calls Try.prog 148 #[.slice A l.length c, .func (.func g) #[] lb] w fun e w' => e = .returned (.bool (l.any p)) ∧ ∃ q, w' = w.drewN q := by
  go_enter Try.func148, Try.ntmps148
  have hc := IndexFunc_int g lb p A c l w eg hr hp
  have ha := Aside0.mk (idxF_any p l 0 (Int.le_refl _))
  clear hp hr eg
  generalize idxF p l 0 = r at hc ha
  go_wp2_with (go_at_call 283; refine hc.mono ?_; rintro e w' ⟨rfl, q, rfl⟩)
  go_ret
  exact ⟨by rw [← ha.out]; rfl, q, rfl⟩
end Go.Proofs.Ytckiebdehlcjoaa.Own
namespace Go.Proofs.Ytckiebdehlcjoaa.Own
open Go.RowKit Go.Proofs.YtckiebdehlcjoaaW.PrintWords Go.Proofs.YtckiebdehlcjoaaW.PrintLast Go.Proofs.YtckiebdehlcjoaaW.PrintMore
set_option linter.unusedVariables false
set_option linter.unusedSimpArgs false
theorem idxF_spec (p : Int → Bool) : ∀ (l : List Int) (i : Int), (idxF p l i = -1 ∧ l.filter (fun x => !p x) = l) ∨ ∃ k : Nat, k < l.length ∧ idxF p l i = i + k ∧ (l.take (k + 1)).filter (fun x => !p x) = l.take k
  | [], i => .inl ⟨rfl, rfl⟩
  | x :: l, i => by
    unfold idxF
    cases h : p x with
    | true => exact .inr ⟨0, by simp, by simp, by simp [h]⟩
    | false =>
      rcases idxF_spec p l (i + 1) with ⟨e, f⟩ | ⟨k, hk, e, f⟩
      · exact .inl ⟨by simpa [h] using e, by simp [h, f]⟩
      · refine .inr ⟨k + 1, by simpa using hk, ?_, ?_⟩
        · simp only [Bool.false_eq_true, if_false]; rw [e]; omega
        · rw [List.take_succ_cons, List.filter_cons_of_pos (by simp [h]), f, List.take_succ_cons]
/-- what the row holds in the round j, i elements being kept -/
structure DelInv (q : Int → Bool) (l : List Int) (i j : Nat) (cur : List Int) : Prop where
  len : cur.length = l.length
  lt : i < j
  le : j ≤ l.length
  low : cur.take i = (l.take j).filter q
  high : cur.drop j = l.drop j
theorem take_rd (l : List Int) (j : Nat) (h : j < l.length) : l.take (j + 1) = l.take j ++ [rd l j] := by
  rw [List.take_add_one, List.getElem?_eq_getElem h]
  unfold rd
  rw [List.getD_eq_getElem?_getD, Int.toNat_natCast, List.getElem?_eq_getElem h]; rfl
theorem DelInv.at_ {q : Int → Bool} {l : List Int} {i j : Nat} {cur : List Int} (h : DelInv q l i j cur) (hj : j < l.length) : rd cur j = rd l j := by
  have e : (cur.drop j)[0]? = (l.drop j)[0]? := by rw [h.high]
  rw [List.getElem?_drop, List.getElem?_drop, Nat.add_zero] at e
  unfold rd
  rw [List.getD_eq_getElem?_getD, List.getD_eq_getElem?_getD, Int.toNat_natCast, e]
theorem DelInv.keep {q : Int → Bool} {l : List Int} {i j : Nat} {cur : List Int} (h : DelInv q l i j cur) (hj : j < l.length) (hq : q (rd l j) = true) : DelInv q l (i + 1) (j + 1) (cur.set i (rd l j)) := by
  have h1 := h.lt
  refine ⟨by rw [List.length_set, h.len], by omega, by omega, ?_, ?_⟩
  · rw [take_rd l j hj, List.filter_append, ← h.low]
    rw [take_rd _ i (by rw [List.length_set, h.len]; omega), List.take_set_of_le (Nat.le_refl i)]
    congr 1
    have e : rd (cur.set i (rd l j)) (i : Int) = rd l j := by
      generalize rd l (j : Int) = u
      unfold rd
      rw [List.getD_eq_getElem?_getD, Int.toNat_natCast, List.getElem?_set_self (by rw [h.len]; omega)]; rfl
    rw [e]
    simp [hq]
  · rw [List.drop_set_of_lt (by omega), ← List.drop_drop, h.high, List.drop_drop]
theorem DelInv.skip {q : Int → Bool} {l : List Int} {i j : Nat} {cur : List Int} (h : DelInv q l i j cur) (hj : j < l.length) (hq : q (rd l j) = false) : DelInv q l i (j + 1) cur := by
  have h1 := h.lt
  refine ⟨h.len, by omega, by omega, ?_, ?_⟩
  · rw [take_rd l j hj, List.filter_append, ← h.low]
    simp [hq]
  · rw [← List.drop_drop, h.high, List.drop_drop]
theorem nums_take (k : IntKind) (l : List Int) (n : Nat) : (nums k l).take n = nums k (l.take n) := by simp [nums]
theorem own_cleared {W : World} {base g c i : Nat} {e : TypeId} {vs us : List Value} (h : W.ownsRow base e 1 (.slice (some ⟨g, 0, none⟩) vs.length c) vs.length vs) (hi : i + us.length ≤ vs.length) (hn : 0 < vs.length) :
    (W.setCells g i us).ownsRow base e 1 (.slice (some ⟨g, 0, none⟩) i c) i (vs.take i) ∧ W.grownBy (W.setCells g i us) (some g) := by
  obtain ⟨h1, h2⟩ := h
  rcases h2 with ⟨he, h0⟩ | ⟨g', cap, cur, he, hb, hh, hnc, hcm, hcs, ht⟩
  · omega
  · injection he with ha _ hc
    injection ha with ha
    injection ha with ha
    subst ha; subst hc
    have hsz : i + us.length ≤ cur.size := by rw [hcs]; omega
    obtain ⟨cur', k1, k2, k3⟩ := setCells_row us i W cur hh hsz
    obtain ⟨s1, s2, s3, s4⟩ := setCells_same g us i W
    refine ⟨⟨by rw [List.length_take]; omega, .inr ⟨g, c, cur', rfl, hb, k1, by omega, hcm, by rw [k2, hcs], ?_⟩⟩, s1, s2, s3, Nat.le_of_eq s4.symm, fun k _ hk => setCells_far us i k (fun e => hk (by rw [e]))⟩
    rw [k3, Nat.mul_one, List.append_assoc, List.take_append_of_le_length (by rw [List.length_take, Array.length_toList]; omega), List.take_take, Nat.min_self]
    rw [← ht, Nat.mul_one, List.take_take, Nat.min_eq_left (by omega)]
set_option maxHeartbeats 2000000 in
set_option maxRecDepth 1000000 in
theorem DeleteFunc_int (g : Nat) (lb : Array Value) (p : Int → Bool) (base : Nat) (v : Value) (l : List Int) (w : World)
    (eg : ∀ args w, (callFunc g args).run Try.prog w = .ok (.enter g args) w)
    (HO : w.ownsRow base 3 1 v l.length (nums .i64 l)) (HB : base ≤ w.heap.size)
    (hp : ∀ (x : Int) (W : World), x ∈ l → w.grownBy W v.ownBlock → Calls Try.prog g (#[.int .i64 x] ++ lb) W fun e w' => e = .returned (.bool (p x)) ∧ ∃ q', w' = W.drewN q') :
    Calls Try.prog 140 #[v, .func (.func g) #[] lb] w fun e w' => ∃ v', e = .returned v' ∧ w'.ownsRow base 3 1 v' (l.filter fun x => !p x).length (nums .i64 (l.filter fun x => !p x)) ∧ w.grownBy w' v.ownBlock := by
  obtain ⟨A, c, rfl, hlc, hR⟩ := Kd.R_reads (Kd.R_of_own (enc := Value.int .i64) (h1 := fun _ => rfl) (ok := fun _ => True) (xs := l) HO (fun _ _ => trivial))
  have hIF := IndexFunc_int g lb p A c l w eg hR (fun x q hx => hp x (w.drewN q) hx (grown_of_below (pw_below_drewN (Below.refl _ _) q) _))
  rcases idxF_spec p l 0 with ⟨e1, hf⟩ | ⟨k0, hk0, e1, hf⟩
  · rw [e1] at hIF
    have HO2 := Aside0.mk HO
    clear HO hp hR
    go_enter Try.func140, Try.ntmps140
    go_wp2_with (go_at_call 283; refine hIF.mono ?_; rintro e w' ⟨rfl, q0, rfl⟩)
    go_ret
    rw [hf]
    exact ⟨_, rfl, HO2.out, grown_of_below (pw_below_drewN (Below.refl _ _) q0) _⟩
  · rw [e1] at hIF
    have hlen : 0 < l.length := by omega
    obtain ⟨g0, cap, cur0, he, hg0, hh, hnc, hcm, hcs, ht⟩ : ∃ g cap cur, Value.slice A l.length c = .slice (some ⟨g, 0, none⟩) l.length cap ∧ base ≤ g ∧ w.heap[g]? = some (.cells cur 3 (0, 0)) ∧ l.length ≤ cap ∧ cap ≤ maxLen ∧ cur.size = cap * 1 ∧ cur.toList.take (l.length * 1) = nums .i64 l := by
      rcases HO.2 with ⟨_, h0⟩ | h
      · omega
      · exact h
    injection he with hA _ hc
    subst hA; subst hc
    have hbk : (Value.slice (some (⟨g0, 0, none⟩ : Addr)) l.length c).ownBlock = some g0 := rfl
    rw [hbk] at hp ⊢
    have hbig : l.length ≤ 9223372036854775807 := by have := hcm; simp only [maxLen] at this; omega
    have HP := Aside0.mk hp
    have HO2 := Aside0.mk HO
    clear HO hp hR ht hcs
    go_enter Try.func140, Try.ntmps140
    rw [show (0 : Int) + (k0 : Int) = (k0 : Int) by omega] at hIF
    have hne1 : ((k0 : Int) == -1) = false := beq_eq_false_iff_ne.2 (by omega)
    go_wp2_with (go_at_call 283; refine hIF.mono ?_; rintro e w' ⟨rfl, q0, rfl⟩)
    go_loopg [5, 6, 7] l.length (fun gg s5 s6 _ wr => ∃ (i j : Nat) (cur : List Int), s5 = .int .i64 i ∧ s6 = .int .i64 j ∧ j ≤ l.length ∧ l.length - j ≤ gg ∧ Aside0 (DelInv (fun x => !p x) l i j cur) ∧ Aside0 (wr.ownsRow base 3 1 (.slice (some ⟨g0, 0, none⟩) l.length c) cur.length (nums .i64 cur)) ∧ Aside0 (w.grownBy wr (some g0)))
    case atStart =>
      exact ⟨k0, k0 + 1, l, rfl, by go_num, by omega, by omega, ⟨⟨rfl, by omega, by omega, hf.symm, rfl⟩⟩, ⟨HO2.out⟩, ⟨grown_of_below (pw_below_drewN (Below.refl _ _) q0) _⟩⟩
    case round =>
      obtain ⟨i, j, cur, rfl, rfl, hjd, hgg, I, HW, HG⟩ := hrel
      have hij := I.out.lt
      have hcl := I.out.len
      by_cases hlt : j < l.length
      · have hltz : (j : Int) < (l.length : Int) := by omega
        have HW2 : Aside0 (wr.ownsRow base 3 1 (.slice (some ⟨g0, 0, none⟩) cur.length c) cur.length (encs (Value.int .i64) cur)) := ⟨by have := HW.out; rw [← hcl] at this; exact this⟩
        obtain ⟨cj, _⟩ := own_at_of (d := (0 : Int)) HW2.out (j : Int) (by omega) (by omega)
        obtain ⟨ci, fi⟩ := own_at_of (d := (0 : Int)) HW2.out (i : Int) (by omega) (by omega)
        rw [Int.toNat_natCast] at cj ci fi
        have hrd : rdOf (0 : Int) cur (j : Int) = rd l j := I.out.at_ hlt
        rw [hrd] at cj
        have hcall := HP.out (rd l j) wr (rd_mem l j hlt) HG.out
        have hput := fun q => Aside0.mk (own_store_of (pw_own_drewN HW2.out q) (i : Int) (rd l j))
        have hkeep := Aside0.mk (I.out.keep hlt)
        have hskip := Aside0.mk (I.out.skip hlt)
        generalize hu : rd l j = u at cj hcall hput hkeep hskip
        generalize rdOf (0 : Int) cur (i : Int) = old at ci
        clear hu hrd
        cases hq : p u with
        | false =>
          rw [hq] at hcall
          have hk := Aside0.mk (hkeep.out (by rw [hq]; rfl))
          clear hkeep hskip
          go_wp2_with (go_at_fn g; refine hcall.mono ?_; rintro e w' ⟨rfl, qq, rfl⟩)
          go_roundg (l.length - (j + 1))
          case measure => omega
          case rel =>
            refine ⟨i + 1, j + 1, cur.set i u, by go_num, by go_num, by omega, Nat.le_refl _, hk, ⟨?_⟩, ⟨?_⟩⟩
            · have := (hput qq).out.1
              rw [Int.toNat_natCast] at this
              rw [List.length_set]
              rw [hcl] at this ⊢
              exact this
            · have := (hput qq).out.2
              rw [Int.toNat_natCast] at this
              exact World.grownBy.trans HG.out (World.grownBy.trans (grown_of_below (pw_below_drewN (Below.refl _ _) qq) _) this)
        | true =>
          rw [hq] at hcall
          have hk := Aside0.mk (hskip.out (by rw [hq]; rfl))
          clear hkeep hskip
          go_wp2_with (go_at_fn g; refine hcall.mono ?_; rintro e w' ⟨rfl, qq, rfl⟩)
          go_roundg (l.length - (j + 1))
          case measure => omega
          case rel =>
            exact ⟨i, j + 1, cur, rfl, by go_num, by omega, Nat.le_refl _, hk, ⟨pw_own_drewN HW.out qq⟩, ⟨World.grownBy.trans HG.out (grown_of_below (pw_below_drewN (Below.refl _ _) qq) _)⟩⟩
      · obtain rfl : j = l.length := by omega
        have hltz : ¬ (l.length : Int) < (l.length : Int) := by omega
        have HW2 : Aside0 (wr.ownsRow base 3 1 (.slice (some ⟨g0, 0, none⟩) cur.length c) cur.length (encs (Value.int .i64) cur)) := ⟨by have := HW.out; rw [← hcl] at this; exact this⟩
        have hz : ∀ w, (zeroValue 3).run Try.prog w = .ok (.int .i64 0) w := fun w => by kernel_rfl
        have hclr : ∀ ty, (Builtin.clear_ #[22] ty #[.slice (some ⟨g0, i, none⟩) (l.length - i) (c - i)]).run Try.prog wr = .ok (.tuple #[]) (wr.setCells g0 i (List.replicate (l.length - i) (.int .i64 0))) :=
          fun ty => Lib.run_clear_slice wr _ _ ty _ Try.underlying22 hz rfl rfl g0 i _ _ (by omega)
            (fun t ht => by
              have := (own_at_of (d := (0 : Int)) HW2.out ((i + t : Nat) : Int) (by omega) (by omega)).1
              rw [Int.toNat_natCast] at this
              rw [this]; rfl)
            (fun t ht => by
              have := (own_at_of (d := (0 : Int)) HW2.out ((i + t : Nat) : Int) (by omega) (by omega)).2
              rw [Int.toNat_natCast] at this
              rw [this])
        have hic : i ≤ c := by omega
        have hil : i ≤ l.length := by omega
        clear HP hcl
        go_wp2
        go_ret
        have hr : l.filter (fun x => !p x) = cur.take i := by
          have := I.out.low
          rw [List.take_length] at this
          exact this.symm
        have hl : (cur.take i).length = i := by rw [List.length_take, I.out.len]; omega
        have hc := own_cleared (vs := nums .i64 cur) (us := List.replicate (l.length - i) (Value.int .i64 0)) (i := i) (by rw [nums_length]; exact HW2.out) (by rw [nums_length, List.length_replicate, I.out.len]; omega) (by rw [nums_length, I.out.len]; omega)
        rw [nums_take] at hc
        rw [hr, hl]
        exact ⟨_, rfl, hc.1, World.grownBy.trans HG.out hc.2⟩
end Go.Proofs.Ytckiebdehlcjoaa.Own
namespace Go.Proofs.Ytckiebdehlcjoaa.P
open Go.Proofs.Ytckiebdehlcjoaa.Own
open Go.RowKit Go.Proofs.YtckiebdehlcjoaaW.PrintWords Go.Proofs.YtckiebdehlcjoaaW.PrintLast Go.Proofs.YtckiebdehlcjoaaW.PrintMore
set_option linter.unusedVariables false
set_option linter.unusedSimpArgs false
def meetB (n k s : Int) : Bool := decide (wrap64 (2 * k) ≤ n) && (Go.bits .and .i64 s 1 == 0)
theorem MeetingSets1_calls (n k s : Int) (B C : Nat) (w : World) (hB : w.cell? ⟨B, 0, none⟩ = some (.int .i64 k)) (hC : w.cell? ⟨C, 0, none⟩ = some (.int .i64 n)) :
    Calls Try.prog 142 #[.int .i64 s, .pointer (some ⟨B, 0, none⟩), .pointer (some ⟨C, 0, none⟩)] w fun e w' => e = .returned (.bool (meetB n k s)) ∧ ∃ q, w' = w.drewN q := by
  unfold meetB
  cases h1 : decide (wrap64 (2 * k) ≤ n) <;> cases h2 : (Go.bits .and .i64 s 1 == 0) <;>
  ( go_enter Try.func142, Try.ntmps142
    go_wp2
    go_ret
    exact ⟨rfl, 0, rfl⟩ )
def impl_MeetingSets.f (k : Nat) (a0 a1 : Int) : Option (List Int × Bool) :=
  (impl_areItems.f a0 a1).bind fun t => if t = true then (impl_setsOf.f k a0 a1).bind fun l => some (l.filter (fun s => !meetB a0 a1 s), true) else some ([], false)
theorem impl_MeetingSets.mono : ∀ a0 a1 k, LeO (impl_MeetingSets.f k a0 a1) (impl_MeetingSets.f (k + 1) a0 a1) := by
  intro a0 a1 k
  unfold impl_MeetingSets.f
  repeat' first
      | (with_reducible exact impl_setsOf.mono _ _ _)
      | (with_reducible exact LeO.refl _)
      | (with_reducible refine LeO.ite ?_ ?_)
      | (with_reducible refine LeO.bind ?_ (fun _ => ?_))
set_option maxHeartbeats 2000000 in
theorem impl_MeetingSets.calls (k : Nat) (a0 : Int) (a1 : Int) (r1 : List Int) (r2 : Bool) (w : World) (h : impl_MeetingSets.f k a0 a1 = some (r1, r2)) :
    Calls Try.prog 23 #[.int .i64 a0, .int .i64 a1] w fun e w' => ∃ v0_ : Value, e = .returned (.tuple #[v0_, .bool r2]) ∧ Kd.R (Kd.int .i64) 3 w' w.heap.size (fun _ => True) v0_ r1 ∧ Below w.heap.size w w' := by
  unfold impl_MeetingSets.f at h
  obtain ⟨t, A1, H⟩ := Option.bind_eq_some_iff.mp h
  have A := Aside0.mk A1
  clear A1 h
  cases t with
  | false =>
    rw [if_neg (by decide)] at H
    injection H with H
    injection H with h1 h2
    subst h1; subst h2
    go_enter Try.func23, Try.ntmps23
    go_wp2_with (go_at_call 139; refine (impl_areItems.calls _ _ false _ A.out).mono ?_; rintro e w' ⟨rfl, ⟨q, rfl⟩⟩)
    go_ret2
    exact ⟨_, rfl, Kd.R_nil _ _ _ _ _, by repeat (first | exact Below.refl _ _ | apply below_alloc | apply pw_below_drewN)⟩
  | true =>
    rw [if_pos rfl] at H
    obtain ⟨l, B1, H⟩ := Option.bind_eq_some_iff.mp H
    have B := Aside0.mk B1
    clear B1
    injection H with H
    injection H with h1 h2
    subst h2
    have E := Aside0.mk h1
    clear h1
    have eg := enters_of Try.func142 (by kernel_rfl) rfl
    have hD := Aside0.mk (fun (v : Value) (W : World) (HO : W.ownsRow (w.heap.size + 2) 3 1 v l.length (nums .i64 l)) (HB : w.heap.size + 2 ≤ W.heap.size) (hB : W.cell? ⟨w.heap.size + 1, 0, none⟩ = some (.int .i64 a1)) (hC : W.cell? ⟨w.heap.size, 0, none⟩ = some (.int .i64 a0)) =>
      DeleteFunc_int 142 #[.pointer (some ⟨w.heap.size + 1, 0, none⟩), .pointer (some ⟨w.heap.size, 0, none⟩)] (meetB a0 a1) (w.heap.size + 2) v l W eg HO HB
        (fun x W' _ hg => by
          have hne := own_base HO
          simpa using MeetingSets1_calls a0 a1 x (w.heap.size + 1) w.heap.size W' (hg.cell hB (fun e => by have := hne _ e.symm; simp at this)) (hg.cell hC (fun e => by have := hne _ e.symm; simp at this; omega))))
    clear eg
    go_enter Try.func23, Try.ntmps23
    go_wp2_with (first | (go_at_call 139; refine (impl_areItems.calls _ _ true _ A.out).mono ?_; rintro e w' ⟨rfl, ⟨q, rfl⟩⟩) | (go_at_call 141; refine (impl_setsOf.calls k a0 a1 l _ B.out).mono ?_; rintro e w' ⟨v, rfl, ho, hb⟩) | (go_at_call 140; refine (hD.out v _ (by have := Kd.own_of_R ho; simpa [encs, nums] using this) (by have := hb.size; simpa using this) (pw_cell_below hb (by simp)) (pw_cell_below hb (by simp))).mono ?_; rintro e w2 ⟨v2, rfl, ho2, hg2⟩))
    go_ret2
    refine ⟨_, rfl, ?_, ?_⟩
    · rw [← E.out]
      exact Kd.R_of_own (own_weaken (by simpa [encs, nums] using ho2) (by omega)) (fun _ _ => trivial)
    · have h1 : Below w.heap.size w w' := below_then (by repeat (first | exact Below.refl _ _ | apply below_alloc | apply pw_below_drewN)) (by simp; omega) hb
      exact pw_below_grown h1 _ (by have := hb.size; simp at this; omega) hg2 (fun k hk => by have := own_base (Kd.own_of_R ho) k hk; simp at this; omega)
theorem IsColouring1_calls (c : Int) (w : World) : Calls Try.prog 149 #[.int .i64 c] w fun e w' => e = .returned (.bool (decide (c < 0))) ∧ ∃ q, w' = w.drewN q := by
  go_enter Try.func149, Try.ntmps149
  go_wp2
  go_ret
  exact ⟨rfl, 0, rfl⟩
def impl_IsColouring.f (k : Nat) (a0 a1 : Int) (l2 : List Int) : Option (Bool × Bool) :=
  (impl_areItems.f a0 a1).bind fun t => if t = true then (impl_setsOf.f k a0 a1).bind fun s => (if l2.length = s.length then (if (l2.any fun c => decide (c < 0)) = true then some (false, true) else (impl_firstApart.f k s l2).bind fun r => some (r.isEmpty, true)) else some (false, true)) else some (false, false)
theorem R_notnil {d : Kd Int} {e base : Nat} {ok : Nat → Prop} {w : World} {v : Value} {r : List Int} (h : d.R e w base ok v r) (hn : r = [] → v = .slice none 0 0) : ∃ A n c, v = .slice A n c ∧ A.isNone = r.isEmpty := by
  cases r with
  | nil => exact ⟨none, 0, 0, hn rfl, rfl⟩
  | cons x r =>
    obtain ⟨ad, c, e⟩ := Kd.R_slice1 h (by simp)
    exact ⟨_, _, _, e, rfl⟩
set_option maxHeartbeats 2000000 in
theorem impl_IsColouring.calls (k : Nat) (a0 : Int) (a1 : Int) (A2 : Option Addr) (c2 : Nat) (l2 : List Int) (r1 : Bool) (r2 : Bool) (w : World) (hr2 : Kd.C (Kd.int .i64) w A2 l2.length l2) (hc2 : l2.length ≤ c2) (h : impl_IsColouring.f k a0 a1 l2 = some (r1, r2)) :
    Calls Try.prog 30 #[.int .i64 a0, .int .i64 a1, .slice A2 l2.length c2] w fun e w' => e = .returned (.tuple #[.bool r1, .bool r2]) ∧ Below w.heap.size w w' := by
  unfold impl_IsColouring.f at h
  obtain ⟨t, A1, H⟩ := Option.bind_eq_some_iff.mp h
  have A := Aside0.mk A1
  clear A1 h
  cases t with
  | false =>
    rw [if_neg (by decide)] at H
    injection H with H
    injection H with h1 h2
    subst h1; subst h2
    go_enter Try.func30, Try.ntmps30
    go_wp2_with (go_at_call 139; refine (impl_areItems.calls _ _ false _ A.out).mono ?_; rintro e w' ⟨rfl, ⟨q, rfl⟩⟩)
    go_ret2
    exact ⟨rfl, by repeat (first | exact Below.refl _ _ | apply below_alloc | apply pw_below_drewN)⟩
  | true =>
    rw [if_pos rfl] at H
    obtain ⟨s, B1, H⟩ := Option.bind_eq_some_iff.mp H
    have B := Aside0.mk B1
    clear B1
    have hl2 := Kd.C_max hr2
    by_cases hl : l2.length = s.length
    · rw [if_pos hl] at H
      have hl1 : ((l2.length : Int) == (s.length : Int)) = true := by rw [beq_iff_eq, hl]
      have eg := enters_of Try.func149 (by kernel_rfl) rfl
      have hC := Aside0.mk (fun (W : World) (hr : Kd.C (Kd.int .i64) W A2 l2.length l2) =>
        ContainsFunc_int 149 #[] (fun c => decide (c < 0)) A2 c2 l2 W eg hr (fun x q _ => by simpa using IsColouring1_calls x (W.drewN q)))
      clear eg
      cases hb : (l2.any fun c => decide (c < 0)) with
      | true =>
        rw [hb] at hC
        rw [hb, if_pos rfl] at H
        injection H with H
        injection H with h1 h2
        subst h1; subst h2
        have HR := Aside0.mk hr2
        clear hr2 hl hb
        go_enter Try.func30, Try.ntmps30
        go_wp2_with (first | (go_at_call 139; refine (impl_areItems.calls _ _ true _ A.out).mono ?_; rintro e w' ⟨rfl, ⟨q, rfl⟩⟩) | (go_at_call 141; refine (impl_setsOf.calls k a0 a1 s _ B.out).mono ?_; rintro e w' ⟨v, rfl, ho, hb⟩; obtain ⟨Av, cv, rfl⟩ := Kd.R_slice ho; have HB := Aside0.mk hb; clear hb) | (go_at_call 148; refine (hC.out _ (Kd.C_below (Kd.C_drewN HR.out _) HB.out)).mono ?_; rintro e w2 ⟨rfl, q2, rfl⟩))
        go_ret2
        exact ⟨rfl, by repeat (first | exact below_then (pw_below_drewN (Below.refl _ _) q) (Nat.le_refl _) HB.out | apply pw_below_drewN)⟩
      | false =>
        rw [hb] at hC
        rw [hb, if_neg (by decide)] at H
        obtain ⟨r, D1, H⟩ := Option.bind_eq_some_iff.mp H
        have D := Aside0.mk D1
        clear D1
        injection H with H
        injection H with h1 h2
        subst h1; subst h2
        have HR := Aside0.mk hr2
        clear hr2 hl hb
        have hnil : ∀ (A : Option Addr) (n c : Nat) (W : World), (binOp .eql 22 (.slice A n c) (.slice none 0 0)).run Try.prog W = .ok (.bool A.isNone) W := fun A n c W => Lib.run_eql_slice_nil W _ _ A n c 0 0 Try.underlying22
        go_enter Try.func30, Try.ntmps30
        go_wp2_with (first | (go_at_call 139; refine (impl_areItems.calls _ _ true _ A.out).mono ?_; rintro e w' ⟨rfl, ⟨q, rfl⟩⟩) | (go_at_call 141; refine (impl_setsOf.calls k a0 a1 s _ B.out).mono ?_; rintro e w' ⟨v, rfl, ho, hb⟩; obtain ⟨Av, cv, rfl⟩ := Kd.R_slice ho; have HB := Aside0.mk hb; have HO := Aside0.mk ho; clear hb ho) | (go_at_call 148; refine (hC.out _ (Kd.C_below (Kd.C_drewN HR.out _) HB.out)).mono ?_; rintro e w2 ⟨rfl, q2, rfl⟩) | (go_at_call 150; refine (impl_firstApart.calls k _ _ s _ _ l2 r _ (Kd.C_drewN (Kd.R_reads' HO.out).2.2 _) (Kd.R_reads' HO.out).2.1 (Kd.C_drewN (Kd.C_below (Kd.C_drewN HR.out _) HB.out) _) hc2 D.out).mono ?_; rintro e w3 ⟨v3, rfl, ho3, hb3, hn3⟩; obtain ⟨A3, n3, c3, rfl, he3⟩ := R_notnil ho3 hn3; have HB3 := Aside0.mk hb3; have E3 := Aside0.mk he3; clear hb3 ho3 hn3 he3))
        go_ret2
        rw [← E3.out]
        exact ⟨rfl, below_then (w1 := w'.drewN q2) (pw_below_drewN (below_then (pw_below_drewN (Below.refl _ _) q) (Nat.le_refl _) HB.out) q2) (by have := HB.out.size; exact this) HB3.out⟩
    · rw [if_neg hl] at H
      have hl1 : ((l2.length : Int) == (s.length : Int)) = false := by rw [beq_eq_false_iff_ne]; omega
      injection H with H
      injection H with h1 h2
      subst h1; subst h2
      clear hr2 hl
      go_enter Try.func30, Try.ntmps30
      go_wp2_with (first | (go_at_call 139; refine (impl_areItems.calls _ _ true _ A.out).mono ?_; rintro e w' ⟨rfl, ⟨q, rfl⟩⟩) | (go_at_call 141; refine (impl_setsOf.calls k a0 a1 s _ B.out).mono ?_; rintro e w' ⟨v, rfl, ho, hb⟩; obtain ⟨Av, cv, rfl⟩ := Kd.R_slice ho; have HB := Aside0.mk hb; clear hb))
      go_ret2
      exact ⟨rfl, below_then (pw_below_drewN (Below.refl _ _) q) (Nat.le_refl _) HB.out⟩
end Go.Proofs.Ytckiebdehlcjoaa.P
namespace Go.Proofs.Ytckiebdehlcjoaa.P
open Go.Proofs.Ytckiebdehlcjoaa.Own
open Go.RowKit Go.Proofs.YtckiebdehlcjoaaW.PrintWords Go.Proofs.YtckiebdehlcjoaaW.PrintLast Go.Proofs.YtckiebdehlcjoaaW.PrintMore
attribute [local go_sem] max2_int min2_int max_two min_two max_three min_three max_four min_four   -- for this text's walks alone
set_option linter.unusedVariables false
set_option linter.unusedSimpArgs false
mutual
def laws_FnMeetingSets.j0 : Nat → List Int → List Int → Bool → Int → Bool → Option (Bool)
  | 0, _, _, _, _, _ => none
  | k + 1, x1, x7, x10, x11, x88 => if x88 = true then (none) else (if x10 = true then (if (x7.length : Int) = x11 then (laws_FnMeetingSets.l0 k x1 x7 x7 (x7.length : Int) 0) else (none)) else (some true))
def laws_FnMeetingSets.l0 : Nat → List Int → List Int → List Int → Int → Int → Option (Bool)
  | 0, _, _, _, _, _ => none
  | k + 1, x1, x7, x95, x96, x97 => if x97 < x96 then (if 0 ≤ x97 then (if x97 < (x95.length : Int) then (if x97 ≤ (x7.length : Int) then ((some (x7.take (x97 : Int).toNat : List Int)).bind fun y233 => (laws_FnMeetingSets.l1 k x1 x7 (rd x95 x97) x95 x96 x97 y233 (y233.length : Int) 0)) else (none)) else (none)) else (none)) else ((spec_DrawIsColouring.f k x1).bind fun bt240 => ((impl_IsColouring.f k bt240.1 bt240.2.1 bt240.2.2).bind fun bt245 => ((impl_MostMeeting.f k bt240.1 bt240.2.1).bind fun bt247 => (if bt245.2 = true then (if bt245.1 = true then (laws_FnMeetingSets.j3 k bt240.2.2 bt247.1 (!bt247.2)) else (laws_FnMeetingSets.j3 k bt240.2.2 bt247.1 true)) else (laws_FnMeetingSets.j3 k bt240.2.2 bt247.1 true)))))
def laws_FnMeetingSets.l1 : Nat → List Int → List Int → Int → List Int → Int → Int → List Int → Int → Int → Option (Bool)
  | 0, _, _, _, _, _, _, _, _, _ => none
  | k + 1, x1, x7, x16, x95, x96, x97, x104, x105, x106 => if x106 < x105 then (if 0 ≤ x106 then (if x106 < (x104.length : Int) then ((impl_AreApart.f x16 (rd x104 x106)).bind fun bt238 => (if bt238.2 = true then (if bt238.1 = true then (none) else (laws_FnMeetingSets.l1 k x1 x7 x16 x95 x96 x97 x104 x105 (wrap64 (x106 + 1)))) else (none))) else (none)) else (none)) else (laws_FnMeetingSets.l0 k x1 x7 x95 x96 (wrap64 (x97 + 1)))
def laws_FnMeetingSets.j3 : Nat → List Int → Int → Bool → Option (Bool)
  | 0, _, _, _ => none
  | k + 1, x23, x26, x151 => if x151 = true then (some true) else (laws_FnMeetingSets.l2 k x23 x26 x23 (x23.length : Int) 0)
def laws_FnMeetingSets.l2 : Nat → List Int → Int → List Int → Int → Int → Option (Bool)
  | 0, _, _, _, _, _ => none
  | k + 1, x23, x26, x152, x153, x154 => if x154 < x153 then (if 0 ≤ x154 then (if x154 < (x152.length : Int) then (laws_FnMeetingSets.l3 k x23 x26 (rd x152 x154) 0 x152 x153 x154 x23 (x23.length : Int) 0) else (none)) else (none)) else (some true)
def laws_FnMeetingSets.l3 : Nat → List Int → Int → Int → Int → List Int → Int → Int → List Int → Int → Int → Option (Bool)
  | 0, _, _, _, _, _, _, _, _, _, _ => none
  | k + 1, x23, x26, x29, x30, x152, x153, x154, x158, x159, x160 => if x160 < x159 then (if 0 ≤ x160 then (if x160 < (x158.length : Int) then (if x29 = (rd x158 x160) then (laws_FnMeetingSets.l3 k x23 x26 x29 (wrap64 (x30 + 1)) x152 x153 x154 x158 x159 (wrap64 (x160 + 1))) else (laws_FnMeetingSets.l3 k x23 x26 x29 x30 x152 x153 x154 x158 x159 (wrap64 (x160 + 1)))) else (none)) else (none)) else (if x30 > x26 then (none) else (laws_FnMeetingSets.l2 k x23 x26 x152 x153 (wrap64 (x154 + 1))))
end
def laws_FnMeetingSets.f (k : Nat) (l0 : List Int) (l1 : List Int) : Option (Bool) := (laws_big.f l0 l1).bind fun t216 => (if t216 = true then (some true) else ((spec_DrawMeetingSets.f l0).bind fun bt217 => ((impl_MeetingSets.f k bt217.1 bt217.2).bind fun bt219 => ((spec_MeetingSets.f k bt217.1 bt217.2).bind fun bt223 => ((impl_MostMeeting.f k bt217.1 bt217.2).bind fun bt227 => ((spec_MostMeeting.f k bt217.1 bt217.2).bind fun bt229 => (if (bt219.2 != bt223.2) = true then (none) else ((laws_uSame.f k bt219.1 bt223.1).bind fun t231 => (if t231 = true then (if (bt227.2 != bt229.2) = true then (none) else (if bt227.1 = bt229.1 then (laws_FnMeetingSets.j0 k l1 bt219.1 bt223.2 bt227.1 (bt227.2 != bt219.2)) else (none))) else (none))))))))))
/-- THE ONE PURE STATEMENT of laws_FnMeetingSets: yours. -/
def laws_FnMeetingSets.Pure : Prop := ∀ (l0 : List Int) (l1 : List Int), l0.length ≤ maxLen → l0.length * 1 ≤ 140737488351232 → (∀ x ∈ l0, (Lit.int .u8 x).wf = true) → l1.length ≤ maxLen → l1.length * 1 ≤ 140737488351232 → (∀ x ∈ l1, (Lit.int .u8 x).wf = true) → ∃ k, laws_FnMeetingSets.f k l0 l1 = some true
end Go.Proofs.Ytckiebdehlcjoaa.P
