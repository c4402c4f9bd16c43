/- A part of the proof of the law FnMeetingSets. -/
import Derived.Test.YtckiebdehlcjoaaTFnMeetingSets6
import Derived.Test.YtckiebdehlcjoaaProg
import Derived.Below
import Derived.Deep.Draws
import Derived.Deep.AppendLies
import Derived.Maps.AppendAt
import Derived.OwnWalk
import Derived.Laws.BytesArg
import Derived.Laws.MakeOwn
import Derived.Laws.OwnMore
import Derived.Deep.OwnRows
import Derived.Tactics
import Derived.Lib.ConvBytes
import Derived.Laws.Slices
import Derived.WalkKit
import Derived.KernelRfl
import Derived.RowKit3
import Derived.Deep.LoopGhost
import Derived.Deep.QuietTactic
import Derived.BigQuiet
import Derived.WideLaws
import Derived.Deep.DeepCutAuto
import Derived.Deep.CutBlock
import Derived.Deep.RegionHeld3
import Derived.Laws.Rows
import Derived.Lib.AppendStr
import Derived.ArgAppend
import Derived.Laws.IdiomCopy
import Derived.OrdersHeld
import Derived.Laws.BitsLemmas
import Derived.RowKit
import Derived.ChangeKeysEq
import Derived.DeepKeys
import Derived.Test.YtckiebdehlcjoaaTFnMeetingSets1
import Derived.Test.YtckiebdehlcjoaaTFnMeetingSets2
import Derived.Test.YtckiebdehlcjoaaTFnMeetingSets3
import Derived.Test.YtckiebdehlcjoaaTFnMeetingSets4
import Derived.Test.YtckiebdehlcjoaaTFnMeetingSets5
namespace Go.Proofs.Ytckiebdehlcjoaa.P
open Go.Proofs.Ytckiebdehlcjoaa.Own
open Go.RowKit Go.Proofs.YtckiebdehlcjoaaW.PrintWords Go.Proofs.YtckiebdehlcjoaaW.PrintLast Go.Proofs.YtckiebdehlcjoaaW.PrintMore
attribute [local go_sem] max2_int min2_int max_two min_two max_three min_three max_four min_four   -- for this text's walks alone
set_option linter.unusedVariables false
set_option linter.unusedSimpArgs false
set_option maxHeartbeats 8000000 in
set_option maxRecDepth 100000 in
theorem laws_FnMeetingSets.calls (k : Nat) (A0 : Option Addr) (c0 : Nat) (l0 : List Int) (A1 : Option Addr) (c1 : Nat) (l1 : List Int) (r : Bool) (w : World) (hr0 : Kd.C (Kd.int .u8) w A0 l0.length l0) (hc0 : l0.length ≤ c0) (hr1 : Kd.C (Kd.int .u8) w A1 l1.length l1) (hc1 : l1.length ≤ c1) (h : laws_FnMeetingSets.f k l0 l1 = some r) :
    Calls Try.prog 4 #[.slice A0 l0.length c0, .slice A1 l1.length c1] w fun e w' => e = .returned (.bool r) ∧ Below w.heap.size w w' := by
  have HR0 := Aside0.mk hr0
  have HC0 := Aside0.mk hc0
  clear hr0 hc0
  have HR1 := Aside0.mk hr1
  have HC1 := Aside0.mk hc1
  clear hr1 hc1
  have HB := Aside0.mk (Below.refl w.heap.size w)
  have H : ((laws_big.f l0 l1).bind fun t216 => (if t216 = true then (some true) else ((spec_DrawMeetingSets.f l0).bind fun bt217 => ((impl_MeetingSets.f k bt217.1 bt217.2).bind fun bt219 => ((spec_MeetingSets.f k bt217.1 bt217.2).bind fun bt223 => ((impl_MostMeeting.f k bt217.1 bt217.2).bind fun bt227 => ((spec_MostMeeting.f k bt217.1 bt217.2).bind fun bt229 => (if (bt219.2 != bt223.2) = true then (none) else ((laws_uSame.f k bt219.1 bt223.1).bind fun t231 => (if t231 = true then (if (bt227.2 != bt229.2) = true then (none) else (if bt227.1 = bt229.1 then (laws_FnMeetingSets.j0 k l1 bt219.1 bt223.2 bt227.1 (bt227.2 != bt219.2)) else (none))) else (none))))))))))) = some r := h
  clear h
  replace H := Option.bind_eq_some_iff.mp H
  obtain ⟨t216, A30, H⟩ := H
  replace H : (if t216 = true then (some true) else ((spec_DrawMeetingSets.f l0).bind fun bt217 => ((impl_MeetingSets.f k bt217.1 bt217.2).bind fun bt219 => ((spec_MeetingSets.f k bt217.1 bt217.2).bind fun bt223 => ((impl_MostMeeting.f k bt217.1 bt217.2).bind fun bt227 => ((spec_MostMeeting.f k bt217.1 bt217.2).bind fun bt229 => (if (bt219.2 != bt223.2) = true then (none) else ((laws_uSame.f k bt219.1 bt223.1).bind fun t231 => (if t231 = true then (if (bt227.2 != bt229.2) = true then (none) else (if bt227.1 = bt229.1 then (laws_FnMeetingSets.j0 k l1 bt219.1 bt223.2 bt227.1 (bt227.2 != bt219.2)) else (none))) else (none)))))))))) = some r := H
  have A3 := Aside0.mk A30
  clear A30
  by_cases c4 : t216 = true
  · subst c4
    have H1 : (some true) = some r := by rw [if_pos rfl] at H; exact H
    clear H
    have H := H1
    clear H1
    obtain rfl := Option.some.inj H
    go_enter Try.func4, Try.ntmps4
    go_wp2_with (first | ((with_reducible refine gate_callee (f := 21) rfl ?_); refine goesL_ (some 35) rfl rfl Try.func21 (by kernel_rfl) rfl #[.slice A0 l0.length c0, .slice A1 l1.length c1] rfl (by (try simp only [List.map_toArray, List.map_cons, List.map_nil]); first | done | rfl | (simp only [List.length_drop, List.length_take]; rfl)) ?_; (with_reducible refine (laws_big.calls _ _ l0 _ _ l1 true _ ?side1 ?side2 ?side3 ?side4 A3.out).mono ?_); (case side1 => repeat (first | exact HR0.out | (with_reducible refine Kd.C_alloc ?_ _) | (with_reducible refine Kd.C_drewN ?_ _) | (with_reducible refine Kd.C_drew ?_))); (case side2 => exact HC0.out); (case side3 => repeat (first | exact HR1.out | (with_reducible refine Kd.C_alloc ?_ _) | (with_reducible refine Kd.C_drewN ?_ _) | (with_reducible refine Kd.C_drew ?_))); (case side4 => exact HC1.out); rintro e w' ⟨rfl, ⟨nd, rfl⟩⟩; refine ⟨_, rfl, ?_⟩))
    go_ret
    exact ⟨by first | rfl | (simp [errW_none, errW_some] <;> rfl) | (simp [*, errW_none, errW_some] <;> rfl), by repeat (first | (with_reducible first | exact HB.out | apply below_alloc | apply pw_below_drewN | apply below_drew1) | exact HB.out)⟩
  · replace c4 := Bool.eq_false_iff.mpr c4
    subst c4
    have H1 : ((spec_DrawMeetingSets.f l0).bind fun bt217 => ((impl_MeetingSets.f k bt217.1 bt217.2).bind fun bt219 => ((spec_MeetingSets.f k bt217.1 bt217.2).bind fun bt223 => ((impl_MostMeeting.f k bt217.1 bt217.2).bind fun bt227 => ((spec_MostMeeting.f k bt217.1 bt217.2).bind fun bt229 => (if (bt219.2 != bt223.2) = true then (none) else ((laws_uSame.f k bt219.1 bt223.1).bind fun t231 => (if t231 = true then (if (bt227.2 != bt229.2) = true then (none) else (if bt227.1 = bt229.1 then (laws_FnMeetingSets.j0 k l1 bt219.1 bt223.2 bt227.1 (bt227.2 != bt219.2)) else (none))) else (none))))))))) = some r := by rw [if_neg (show ¬ (false = true) by decide)] at H; exact H
    clear H
    have H := H1
    clear H1
    replace H := Option.bind_eq_some_iff.mp H
    obtain ⟨⟨t217, t218⟩, A50, H⟩ := H
    replace H : ((impl_MeetingSets.f k t217 t218).bind fun bt219 => ((spec_MeetingSets.f k t217 t218).bind fun bt223 => ((impl_MostMeeting.f k t217 t218).bind fun bt227 => ((spec_MostMeeting.f k t217 t218).bind fun bt229 => (if (bt219.2 != bt223.2) = true then (none) else ((laws_uSame.f k bt219.1 bt223.1).bind fun t231 => (if t231 = true then (if (bt227.2 != bt229.2) = true then (none) else (if bt227.1 = bt229.1 then (laws_FnMeetingSets.j0 k l1 bt219.1 bt223.2 bt227.1 (bt227.2 != bt219.2)) else (none))) else (none)))))))) = some r := H
    have A5 := Aside0.mk A50
    clear A50
    replace H := Option.bind_eq_some_iff.mp H
    obtain ⟨⟨t219, t220⟩, A60, H⟩ := H
    replace H : ((spec_MeetingSets.f k t217 t218).bind fun bt223 => ((impl_MostMeeting.f k t217 t218).bind fun bt227 => ((spec_MostMeeting.f k t217 t218).bind fun bt229 => (if (t220 != bt223.2) = true then (none) else ((laws_uSame.f k t219 bt223.1).bind fun t231 => (if t231 = true then (if (bt227.2 != bt229.2) = true then (none) else (if bt227.1 = bt229.1 then (laws_FnMeetingSets.j0 k l1 t219 bt223.2 bt227.1 (bt227.2 != t220)) else (none))) else (none))))))) = some r := H
    have A6 := Aside0.mk A60
    clear A60
    replace H := Option.bind_eq_some_iff.mp H
    obtain ⟨⟨t223, t224⟩, A70, H⟩ := H
    replace H : ((impl_MostMeeting.f k t217 t218).bind fun bt227 => ((spec_MostMeeting.f k t217 t218).bind fun bt229 => (if (t220 != t224) = true then (none) else ((laws_uSame.f k t219 t223).bind fun t231 => (if t231 = true then (if (bt227.2 != bt229.2) = true then (none) else (if bt227.1 = bt229.1 then (laws_FnMeetingSets.j0 k l1 t219 t224 bt227.1 (bt227.2 != t220)) else (none))) else (none)))))) = some r := H
    have A7 := Aside0.mk A70
    clear A70
    replace H := Option.bind_eq_some_iff.mp H
    obtain ⟨⟨t227, t228⟩, A80, H⟩ := H
    replace H : ((spec_MostMeeting.f k t217 t218).bind fun bt229 => (if (t220 != t224) = true then (none) else ((laws_uSame.f k t219 t223).bind fun t231 => (if t231 = true then (if (t228 != bt229.2) = true then (none) else (if t227 = bt229.1 then (laws_FnMeetingSets.j0 k l1 t219 t224 t227 (t228 != t220)) else (none))) else (none))))) = some r := H
    have A8 := Aside0.mk A80
    clear A80
    replace H := Option.bind_eq_some_iff.mp H
    obtain ⟨⟨t229, t230⟩, A90, H⟩ := H
    replace H : (if (t220 != t224) = true then (none) else ((laws_uSame.f k t219 t223).bind fun t231 => (if t231 = true then (if (t228 != t230) = true then (none) else (if t227 = t229 then (laws_FnMeetingSets.j0 k l1 t219 t224 t227 (t228 != t220)) else (none))) else (none)))) = some r := H
    have A9 := Aside0.mk A90
    clear A90
    have HC10 := Aside0.mk H
    clear H
    go_enter Try.func4, Try.ntmps4
    go_upto_region 8 with (first | ((with_reducible refine gate_callee (f := 21) rfl ?_); refine goesL_ (some 35) rfl rfl Try.func21 (by kernel_rfl) rfl #[.slice A0 l0.length c0, .slice A1 l1.length c1] rfl (by (try simp only [List.map_toArray, List.map_cons, List.map_nil]); first | done | rfl | (simp only [List.length_drop, List.length_take]; rfl)) ?_; (with_reducible refine (laws_big.calls _ _ l0 _ _ l1 false _ ?side1 ?side2 ?side3 ?side4 A3.out).mono ?_); (case side1 => repeat (first | exact HR0.out | (with_reducible refine Kd.C_alloc ?_ _) | (with_reducible refine Kd.C_drewN ?_ _) | (with_reducible refine Kd.C_drew ?_))); (case side2 => exact HC0.out); (case side3 => repeat (first | exact HR1.out | (with_reducible refine Kd.C_alloc ?_ _) | (with_reducible refine Kd.C_drewN ?_ _) | (with_reducible refine Kd.C_drew ?_))); (case side4 => exact HC1.out); rintro e w' ⟨rfl, ⟨nd, rfl⟩⟩; refine ⟨_, rfl, ?_⟩) | ((with_reducible refine gate_callee (f := 22) rfl ?_); refine goesL_ (some 38) rfl rfl Try.func22 (by kernel_rfl) rfl #[.slice A0 l0.length c0] rfl (by (try simp only [List.map_toArray, List.map_cons, List.map_nil]); first | done | rfl | (simp only [List.length_drop, List.length_take]; rfl)) ?_; (with_reducible refine (spec_DrawMeetingSets.calls _ _ l0 t217 t218 _ ?side1 ?side2 A5.out).mono ?_); (case side1 => repeat (first | exact HR0.out | (with_reducible refine Kd.C_alloc ?_ _) | (with_reducible refine Kd.C_drewN ?_ _) | (with_reducible refine Kd.C_drew ?_))); (case side2 => exact HC0.out); rintro e w11 ⟨rfl, hb⟩; refine ⟨_, rfl, ?_⟩; have n0_ := Aside0.mk (below_step (by repeat (first | (with_reducible first | exact HB.out | apply below_alloc | apply pw_below_drewN | apply below_drew1) | exact HB.out)) hb); clear HB; have HB := n0_; clear n0_; (try clear hb); (try clear hb2); (try clear hk); (try clear hi)) | ((with_reducible refine gate_callee (f := 23) rfl ?_); refine goesL_ (some 44) rfl rfl Try.func23 (by kernel_rfl) rfl #[.int .i64 t217, .int .i64 t218] rfl (by (try simp only [List.map_toArray, List.map_cons, List.map_nil]); first | done | rfl | (simp only [List.length_drop, List.length_take]; rfl)) ?_; (with_reducible refine (impl_MeetingSets.calls k t217 t218 t219 t220 _ A6.out).mono ?_); rintro e w12 ⟨v221, rfl, ho0, hb⟩; refine ⟨_, rfl, ?_⟩; have n0_ := Aside0.mk (Kd.R_lower ho0 (below_size (by repeat (first | (with_reducible first | exact HB.out | apply below_alloc | apply pw_below_drewN | apply below_drew1) | exact HB.out)))); have n1_ := Aside0.mk (below_step (by repeat (first | (with_reducible first | exact HB.out | apply below_alloc | apply pw_below_drewN | apply below_drew1) | exact HB.out)) hb); clear HB; have HO222 := n0_; have HB := n1_; clear n0_ n1_; (try clear hb); (try clear hb2); (try clear hk); (try clear hi); (try clear ho0)) | ((with_reducible refine gate_callee (f := 24) rfl ?_); refine goesL_ (some 50) rfl rfl Try.func24 (by kernel_rfl) rfl #[.int .i64 t217, .int .i64 t218] rfl (by (try simp only [List.map_toArray, List.map_cons, List.map_nil]); first | done | rfl | (simp only [List.length_drop, List.length_take]; rfl)) ?_; (with_reducible refine (spec_MeetingSets.calls k t217 t218 t223 t224 _ A7.out).mono ?_); rintro e w13 ⟨v225, rfl, ho0, hb⟩; refine ⟨_, rfl, ?_⟩; have n0_ := Aside0.mk (Kd.R_elder' (by (with_reducible repeat (first | apply Kd.R_alloc | apply Kd.R_drewN | apply Kd.R_drew)); exact HO222.out) (Kd.R_base ho0) hb); have n1_ := Aside0.mk (Kd.R_lower (Kd.R_new' ho0 (Kd.R_lt (by (with_reducible repeat (first | apply Kd.R_alloc | apply Kd.R_drewN | apply Kd.R_drew)); exact HO222.out))) (below_size (by repeat (first | (with_reducible first | exact HB.out | apply below_alloc | apply pw_below_drewN | apply below_drew1) | exact HB.out)))); have n2_ := Aside0.mk (below_step (by repeat (first | (with_reducible first | exact HB.out | apply below_alloc | apply pw_below_drewN | apply below_drew1) | exact HB.out)) hb); clear HO222; clear HB; have HO222 := n0_; have HO226 := n1_; have HB := n2_; clear n0_ n1_ n2_; (try clear hb); (try clear hb2); (try clear hk); (try clear hi); (try clear ho0)) | ((with_reducible refine gate_callee (f := 25) rfl ?_); refine goesL_ (some 56) rfl rfl Try.func25 (by kernel_rfl) rfl #[.int .i64 t217, .int .i64 t218] rfl (by (try simp only [List.map_toArray, List.map_cons, List.map_nil]); first | done | rfl | (simp only [List.length_drop, List.length_take]; rfl)) ?_; (with_reducible refine (impl_MostMeeting.calls k t217 t218 t227 t228 _ A8.out).mono ?_); rintro e w' ⟨rfl, ⟨nd, rfl⟩⟩; refine ⟨_, rfl, ?_⟩) | ((with_reducible refine gate_callee (f := 26) rfl ?_); refine goesL_ (some 62) rfl rfl Try.func26 (by kernel_rfl) rfl #[.int .i64 t217, .int .i64 t218] rfl (by (try simp only [List.map_toArray, List.map_cons, List.map_nil]); first | done | rfl | (simp only [List.length_drop, List.length_take]; rfl)) ?_; (with_reducible refine (spec_MostMeeting.calls k t217 t218 t229 t230 _ A9.out).mono ?_); rintro e w14 ⟨rfl, hb⟩; refine ⟨_, rfl, ?_⟩; have n0_ := Aside0.mk (Kd.R_below (by (with_reducible repeat (first | apply Kd.R_alloc | apply Kd.R_drewN | apply Kd.R_drew)); exact HO222.out) hb); have n1_ := Aside0.mk (Kd.R_below (by (with_reducible repeat (first | apply Kd.R_alloc | apply Kd.R_drewN | apply Kd.R_drew)); exact HO226.out) hb); have n2_ := Aside0.mk (below_step (by repeat (first | (with_reducible first | exact HB.out | apply below_alloc | apply pw_below_drewN | apply below_drew1) | exact HB.out)) hb); clear HO222; clear HO226; clear HB; have HO222 := n0_; have HO226 := n1_; have HB := n2_; clear n0_ n1_ n2_; (try clear hb); (try clear hb2); (try clear hk); (try clear hi)))
    (try simp only [Act.put, List.setIfInBounds_toArray, List.set_cons_zero, List.set_cons_succ])
    refine wp_cutm false 32 [61, 2, 5, 2, 44, 2, 2, 2, 12] (fun u_ => (fun v88 wc => ∃ (kq : Nat) (x88_9 : Bool), v88 = .bool x88_9 ∧ Aside0 (laws_FnMeetingSets.j0 kq l1 t219 t224 t227 x88_9 = some r) ∧ Aside0 (kq ≤ k) ∧ Aside0 (Kd.R (Kd.int .i64) 3 wc w.heap.size (fun _ => True) v221 t219) ∧ Aside0 (Below w.heap.size w wc)) (u_ 88)) ?rest1 ?first1
    case first1 => as_aux_lemma =>
      intro _ _ _ _
      have H := HC10.out
      clear HC10
      by_cases c15 : (t220 != t224) = true
      · rw [if_pos c15] at H
        exact absurd H (by simp)
      · rw [if_neg c15] at H
        have c15b0 : (t220 != t224) = false := by simpa using c15
        (try (have c15b1 : decide (t220 = t224) = true := by simpa using c15))
        (try (have c15b2 : (t220 == t224) = true := by simpa using c15))
        clear c15
        (first | rw [c15b0] | (simp only [i64_w, i32_w]; rw [c15b0]) | skip)
        replace H := Option.bind_eq_some_iff.mp H
        obtain ⟨t231, A160, H⟩ := H
        replace H : (if t231 = true then (if (t228 != t230) = true then (none) else (if t227 = t229 then (laws_FnMeetingSets.j0 k l1 t219 t224 t227 (t228 != t220)) else (none))) else (none)) = some r := H
        have A16 := Aside0.mk A160
        clear A160
        by_cases c17 : t231 = true
        · subst c17
          have H1 : (if (t228 != t230) = true then (none) else (if t227 = t229 then (laws_FnMeetingSets.j0 k l1 t219 t224 t227 (t228 != t220)) else (none))) = some r := by rw [if_pos rfl] at H; exact H
          clear H
          have H := H1
          clear H1
          by_cases c18 : (t228 != t230) = true
          · rw [if_pos c18] at H
            exact absurd H (by simp)
          · rw [if_neg c18] at H
            have c18b0 : (t228 != t230) = false := by simpa using c18
            (try (have c18b1 : decide (t228 = t230) = true := by simpa using c18))
            (try (have c18b2 : (t228 == t230) = true := by simpa using c18))
            clear c18
            by_cases c19 : t227 = t229
            · rw [if_pos c19] at H
              have c19b0 : (t227 == t229) = true := beq_iff_eq.mpr c19
              have c19b1 : (t227 != t229) = false := bne_eq_false_iff_eq.mpr c19
              clear c19
              have H' := Aside0.mk H
              clear H
              obtain ⟨Ao20, co20, eo20⟩ := Kd.R_slice HO222.out
              subst eo20
              obtain ⟨Ao21, co21, eo21⟩ := Kd.R_slice HO226.out
              subst eo21
              go_wp2_with (first | (go_at_call 27; (with_reducible refine (laws_uSame.calls k _ _ t219 _ _ t223 true _ ?side1 ?side2 ?side3 ?side4 A16.out).mono ?_); (case side1 => repeat (first | exact (Kd.R_reads' HO222.out).2.2 | (with_reducible refine Kd.C_alloc ?_ _) | (with_reducible refine Kd.C_drewN ?_ _) | (with_reducible refine Kd.C_drew ?_))); (case side2 => exact (Kd.R_reads' HO222.out).2.1); (case side3 => repeat (first | exact (Kd.R_reads' HO226.out).2.2 | (with_reducible refine Kd.C_alloc ?_ _) | (with_reducible refine Kd.C_drewN ?_ _) | (with_reducible refine Kd.C_drew ?_))); (case side4 => exact (Kd.R_reads' HO226.out).2.1); rintro e w' ⟨rfl, ⟨nd, rfl⟩⟩))
              refine Met.m (by assumption) (by kernel_rfl) ?rel
              case rel => exact ⟨_, ((t228 != t220)), (by first | rfl | (simp; done) | (simp [*]; done) | (simp; decide) | (simp; unfold wrap64; omega)), H', ⟨by first | omega | exact Nat.le_refl _⟩, ⟨by (with_reducible repeat (first | apply Kd.R_alloc | apply Kd.R_drewN | apply Kd.R_drew)); exact Kd.R_mono HO222.out (fun _ hk => trivial)⟩, ⟨by repeat (first | (with_reducible first | exact HB.out | apply below_alloc | apply pw_below_drewN | apply below_drew1) | exact HB.out)⟩⟩
            · rw [if_neg c19] at H
              exact absurd H (by simp)
        · replace c17 := Bool.eq_false_iff.mpr c17
          subst c17
          have H1 : (none) = some r := by rw [if_neg (show ¬ (false = true) by decide)] at H; exact H
          clear H
          have H := H1
          clear H1
          exact absurd H (by simp)
    case rest1 => as_aux_lemma =>
      intro u_ wc hcut
      dsimp only [zipR, Nat.reduceAdd]
      generalize u_ 88 = u88 at hcut ⊢
      clear HC10
      try clear c1
      try clear c2
      try clear p2
      try clear c4
      try clear p6
      try clear c15
      try clear c15b0
      try clear c15b1
      try clear c15b2
      try clear c17
      try clear c18
      try clear c18b0
      try clear c18b1
      try clear c18b2
      try clear c19
      try clear c19b0
      try clear c19b1
      try clear c21
      obtain ⟨kq, x88_9, rfl, HA, HJ9, HO_7, HB⟩ := hcut
      cases kq with
      | zero => exact absurd HA.out (by simp [laws_FnMeetingSets.j0])
      | succ kj9 =>
        have H := HA.out
        clear HA
        simp only [laws_FnMeetingSets.j0] at H
        by_cases c22 : x88_9 = true
        · subst c22
          have H1 : (none) = some r := by rw [if_pos rfl] at H; exact H
          clear H
          have H := H1
          clear H1
          exact absurd H (by simp)
        · replace c22 := Bool.eq_false_iff.mpr c22
          subst c22
          have H1 : (if t224 = true then (if (t219.length : Int) = t227 then (laws_FnMeetingSets.l0 kj9 l1 t219 t219 (t219.length : Int) 0) else (none)) else (some true)) = some r := by rw [if_neg (show ¬ (false = true) by decide)] at H; exact H
          clear H
          have H := H1
          clear H1
          by_cases c23 : t224 = true
          · subst c23
            have H1 : (if (t219.length : Int) = t227 then (laws_FnMeetingSets.l0 kj9 l1 t219 t219 (t219.length : Int) 0) else (none)) = some r := by rw [if_pos rfl] at H; exact H
            clear H
            have H := H1
            clear H1
            by_cases c24 : (t219.length : Int) = t227
            · rw [if_pos c24] at H
              have c24b0 : ((t219.length : Int) == t227) = true := beq_iff_eq.mpr c24
              have c24b1 : ((t219.length : Int) != t227) = false := bne_eq_false_iff_eq.mpr c24
              clear c24
              have H' := Aside0.mk H
              clear H
              obtain ⟨Ao25, co25, eo25⟩ := Kd.R_slice HO_7.out
              subst eo25
              go_wp2
              go_loopg [97] kj9 (fun kq v97 w' => ∃ (x97_2 : Int), v97 = .int .i64 x97_2 ∧ Aside0 (laws_FnMeetingSets.l0 kq l1 t219 t219 (t219.length : Int) x97_2 = some r) ∧ Aside0 (kq ≤ kj9) ∧ Aside0 (Kd.R (Kd.int .i64) 3 w' w.heap.size (fun _ => True) (.slice Ao25 t219.length co25) t219) ∧ Aside0 (Kd.R (Kd.int .i64) 3 w' w.heap.size (fun _ => True) (.slice Ao25 t219.length co25) t219) ∧ Aside0 (Below w.heap.size w w'))
              case atStart => exact ⟨(0), (by first | rfl | (simp; done) | (simp [*]; done) | (simp; decide) | (simp; unfold wrap64; omega)), H', ⟨Nat.le_refl _⟩, ⟨by (with_reducible repeat (first | apply Kd.R_alloc | apply Kd.R_drewN | apply Kd.R_drew)); exact HO_7.out⟩, ⟨by (with_reducible repeat (first | apply Kd.R_alloc | apply Kd.R_drewN | apply Kd.R_drew)); exact HO_7.out⟩, ⟨by repeat (first | (with_reducible first | exact HB.out | apply below_alloc | apply pw_below_drewN | apply below_drew1) | exact HB.out)⟩⟩
              case round => as_aux_lemma =>
                clear H'
                try clear c1
                try clear c2
                try clear p2
                try clear c4
                try clear p6
                try clear c15
                try clear c15b0
                try clear c15b1
                try clear c15b2
                try clear c17
                try clear c18
                try clear c18b0
                try clear c18b1
                try clear c18b2
                try clear c19
                try clear c19b0
                try clear c19b1
                try clear c21
                try clear c22
                try clear c23
                try clear c24
                try clear c24b0
                try clear c24b1
                try clear c25
                try clear p2
                try clear p6
                obtain ⟨x97_2, rfl, HA, HK2, HO_7, HO_95, HB⟩ := hrel
                cases gk with
                | zero => exact absurd HA.out (by simp [laws_FnMeetingSets.l0])
                | succ k2 =>
                  have H := HA.out
                  clear HA
                  simp only [laws_FnMeetingSets.l0] at H
                  by_cases c26 : x97_2 < (t219.length : Int)
                  · rw [if_pos c26] at H
                    have c26b0 : decide (x97_2 < (t219.length : Int)) = true := decide_eq_true c26
                    clear c26
                    by_cases c27 : 0 ≤ x97_2
                    · rw [if_pos c27] at H
                      have c27b0 : decide (0 ≤ x97_2) = true := decide_eq_true c27
                      clear c27
                      by_cases c28 : x97_2 < (t219.length : Int)
                      · rw [if_pos c28] at H
                        have c28b0 : decide (x97_2 < (t219.length : Int)) = true := decide_eq_true c28
                        clear c28
                        have c29b0 := eq_true (of_decide_eq_true (by first | (with_reducible assumption) | assumption) : 0 ≤ x97_2)
                        by_cases c30 : x97_2 ≤ (t219.length : Int)
                        · rw [if_pos c30] at H
                          have c30b0 := eq_true c30
                          have c30b1 : decide (x97_2 ≤ (t219.length : Int)) = true := decide_eq_true c30
                          clear c30
                          obtain ⟨y233, hy233⟩ : ∃ y_ : List Int, y_ = (t219.take (x97_2 : Int).toNat) := ⟨_, rfl⟩
                          replace H : (laws_FnMeetingSets.l1 k2 l1 t219 (rd t219 x97_2) t219 (t219.length : Int) x97_2 y233 (y233.length : Int) 0) = some r := by first | (rw [hy233]; with_reducible exact H) | (have H2_ := (Option.bind_some _ _).symm.trans H; rw [hy233]; with_reducible exact H2_) | (have H2_ := (Option.bind_some _ _).symm.trans H; with_reducible exact H2_) | with_reducible exact H | (rw [hy233]; exact H) | exact H
                          have Ny233 := Aside0.mk hy233
                          clear hy233
                          have H' := Aside0.mk H
                          clear H
                          have p232 : 0 ≤ (x97_2 : Int) := of_decide_eq_true (by first | (with_reducible assumption) | assumption)
                          have q232 : x97_2 < (t219.length : Int) := of_decide_eq_true (by first | (with_reducible assumption) | assumption)
                          obtain ⟨ad232, e232, hx232_0⟩ := Kd.at_int (Kd.R_reads' HO_95.out).2.2 x97_2 p232 q232
                          cases e232
                          replace p232 := eq_true p232
                          replace q232 := eq_true q232
                          have q31 : (x97_2 : Int) ≤ ((t219.length : Int) : Int) := of_decide_eq_true (by first | (with_reducible assumption) | assumption)
                          obtain ⟨i031, hi031, _, hsz31, _⟩ := info_parts info3
                          have hroom31 : t219.length ≤ co25 := (Kd.R_reads' HO_7.out).2.1
                          have hC31 : Kd.C (Kd.int .i64) _ (some ad232) t219.length t219 := (Kd.R_reads' HO_7.out).2.2
                          have hcut31 := cut_to (P := Try.prog) 22 3 .i64 Try.underlying22 hi031 (some ad232) t219.length co25 x97_2 (of_decide_eq_true (by first | (with_reducible assumption) | assumption)) q31 hroom31
                          have hr31 := Kd.C_take (m := (x97_2 : Int).toNat) hC31 (by omega)
                          have hy31 : y233.length = (x97_2 : Int).toNat := (by rw [Ny233.out, List.length_take]; omega)
                          rw [← Ny233.out] at hr31
                          rw [← hy31] at hcut31
                          have HR236 := Aside0.mk hr31
                          have HC236 := Aside0.mk (show y233.length ≤ co25 from by omega)
                          clear hr31 hC31 hroom31 hi031 hsz31
                          have KY31 := Aside0.mk hy31
                          clear hy31
                          have KL31 := Aside0.mk (show (x97_2 : Int).toNat ≤ t219.length from by omega)
                          replace q31 := eq_true q31
                          go_wp2
                          go_loopg [106] k2 (fun kq v106 w' => ∃ (x106_3 : Int), v106 = .int .i64 x106_3 ∧ Aside0 (laws_FnMeetingSets.l1 kq l1 t219 (rd t219 x97_2) t219 (t219.length : Int) x97_2 y233 (y233.length : Int) x106_3 = some r) ∧ Aside0 (kq ≤ k2) ∧ Aside0 (Kd.R (Kd.int .i64) 3 w' w.heap.size (fun _ => True) (.slice (some ad232) t219.length co25) t219) ∧ Aside0 (Kd.R (Kd.int .i64) 3 w' w.heap.size (fun _ => True) (.slice (some ad232) t219.length co25) t219) ∧ Aside0 (Kd.C (Kd.int .i64) w' (some ad232) y233.length y233) ∧ Aside0 (Below w.heap.size w w'))
                          case atStart => exact ⟨(0), (by first | rfl | (simp; done) | (simp [*]; done) | (simp; decide) | (simp; unfold wrap64; omega)), H', ⟨Nat.le_refl _⟩, ⟨by (with_reducible repeat (first | apply Kd.R_alloc | apply Kd.R_drewN | apply Kd.R_drew)); exact HO_7.out⟩, ⟨by (with_reducible repeat (first | apply Kd.R_alloc | apply Kd.R_drewN | apply Kd.R_drew)); exact HO_95.out⟩, ⟨by repeat (first | (with_reducible exact HR236.out) | (with_reducible refine Kd.C_alloc ?_ _) | (with_reducible refine Kd.C_drewN ?_ _) | (with_reducible refine Kd.C_drew ?_) | exact HR236.out)⟩, ⟨by repeat (first | (with_reducible first | exact HB.out | apply below_alloc | apply pw_below_drewN | apply below_drew1) | exact HB.out)⟩⟩
                          case round => as_aux_lemma =>
                            clear H'
                            try clear c1
                            try clear c2
                            try clear p2
                            try clear q2
                            try clear hx2
                            try clear c3
                            try clear q3
                            try clear c4
                            try clear p6
                            try clear c15
                            try clear c15b0
                            try clear c15b1
                            try clear c15b2
                            try clear c17
                            try clear c18
                            try clear c18b0
                            try clear c18b1
                            try clear c18b2
                            try clear c19
                            try clear c19b0
                            try clear c19b1
                            try clear c21
                            try clear c22
                            try clear c23
                            try clear p23
                            try clear q23
                            try clear hx23
                            try clear c24
                            try clear c24b0
                            try clear c24b1
                            try clear c25
                            try clear c26
                            try clear c26b0
                            try clear c27
                            try clear c27b0
                            try clear c28
                            try clear c28b0
                            try clear c29
                            try clear c29b0
                            try clear c30
                            try clear c30b0
                            try clear c30b1
                            try clear q31
                            try clear hx232_0
                            try clear p2
                            try clear p232
                            try clear p6
                            try clear q232
                            try clear q31
                            obtain ⟨x106_3, rfl, HA, HK3, HO_7, HO_95, HR236, HB⟩ := hrel
                            cases gk with
                            | zero => exact absurd HA.out (by simp [laws_FnMeetingSets.l1])
                            | succ k3 =>
                              have H := HA.out
                              clear HA
                              simp only [laws_FnMeetingSets.l1] at H
                              by_cases c32 : x106_3 < (y233.length : Int)
                              · rw [if_pos c32] at H
                                have c32b0 : decide (x106_3 < (y233.length : Int)) = true := decide_eq_true c32
                                clear c32
                                by_cases c33 : 0 ≤ x106_3
                                · rw [if_pos c33] at H
                                  have c33b0 : decide (0 ≤ x106_3) = true := decide_eq_true c33
                                  clear c33
                                  by_cases c34 : x106_3 < (y233.length : Int)
                                  · rw [if_pos c34] at H
                                    have c34b0 : decide (x106_3 < (y233.length : Int)) = true := decide_eq_true c34
                                    clear c34
                                    replace H := Option.bind_eq_some_iff.mp H
                                    obtain ⟨⟨t238, t239⟩, A350, H⟩ := H
                                    replace H : (if t239 = true then (if t238 = true then (none) else (laws_FnMeetingSets.l1 k3 l1 t219 (rd t219 x97_2) t219 (t219.length : Int) x97_2 y233 (y233.length : Int) (wrap64 (x106_3 + 1)))) else (none)) = some r := H
                                    have A35 := Aside0.mk A350
                                    clear A350
                                    by_cases c36 : t239 = true
                                    · subst c36
                                      have H1 : (if t238 = true then (none) else (laws_FnMeetingSets.l1 k3 l1 t219 (rd t219 x97_2) t219 (t219.length : Int) x97_2 y233 (y233.length : Int) (wrap64 (x106_3 + 1)))) = some r := by rw [if_pos rfl] at H; exact H
                                      clear H
                                      have H := H1
                                      clear H1
                                      by_cases c37 : t238 = true
                                      · subst c37
                                        have H1 : (none) = some r := by rw [if_pos rfl] at H; exact H
                                        clear H
                                        have H := H1
                                        clear H1
                                        exact absurd H (by simp)
                                      · replace c37 := Bool.eq_false_iff.mpr c37
                                        subst c37
                                        have H1 : (laws_FnMeetingSets.l1 k3 l1 t219 (rd t219 x97_2) t219 (t219.length : Int) x97_2 y233 (y233.length : Int) (wrap64 (x106_3 + 1))) = some r := by rw [if_neg (show ¬ (false = true) by decide)] at H; exact H
                                        clear H
                                        have H := H1
                                        clear H1
                                        have H' := Aside0.mk H
                                        clear H
                                        have p237 : 0 ≤ (x106_3 : Int) := of_decide_eq_true (by first | (with_reducible assumption) | assumption)
                                        have q237 : x106_3 < (y233.length : Int) := of_decide_eq_true (by first | (with_reducible assumption) | assumption)
                                        obtain ⟨ad237, e237, hx237_0⟩ := Kd.at_int HR236.out x106_3 p237 q237
                                        obtain rfl : ad232 = ad237 := (by injection e237)
                                        (try replace hx237_0 := (HB.out.cell (World.block_lt_of_cell? w _ hx237_0)).trans hx237_0)
                                        replace p237 := eq_true p237
                                        replace q237 := eq_true q237
                                        go_wp2_with (first | ((with_reducible refine gate_callee (f := 28) rfl ?_); refine goesL_ (some 113) rfl rfl Try.func28 (by kernel_rfl) rfl #[.int .i64 (rd t219 x97_2), .int .i64 (rd y233 x106_3)] rfl (by (try simp only [List.map_toArray, List.map_cons, List.map_nil]); first | done | rfl | (simp only [List.length_drop, List.length_take]; rfl)) ?_; (with_reducible refine (impl_AreApart.calls (rd t219 x97_2) (rd y233 x106_3) false true _ A35.out).mono ?_); rintro e w' ⟨rfl, ⟨nd, rfl⟩⟩; refine ⟨_, rfl, ?_⟩))
                                        go_roundg k3
                                        case measure => have := HJ9.out; have := HK2.out; have := HK3.out; omega
                                        case rel => exact ⟨(wrap64 (x106_3 + 1)), (by first | rfl | (simp; done) | (simp [*]; done) | (simp; decide) | (simp; unfold wrap64; omega)), H', ⟨by have := HJ9.out; have := HK2.out; have := HK3.out; omega⟩, ⟨by (with_reducible repeat (first | apply Kd.R_alloc | apply Kd.R_drewN | apply Kd.R_drew)); exact HO_7.out⟩, ⟨by (with_reducible repeat (first | apply Kd.R_alloc | apply Kd.R_drewN | apply Kd.R_drew)); exact HO_95.out⟩, ⟨by repeat (first | (with_reducible exact HR236.out) | (with_reducible refine Kd.C_alloc ?_ _) | (with_reducible refine Kd.C_drewN ?_ _) | (with_reducible refine Kd.C_drew ?_) | exact HR236.out)⟩, ⟨by repeat (first | (with_reducible first | exact HB.out | apply below_alloc | apply pw_below_drewN | apply below_drew1) | exact HB.out)⟩⟩
                                    · replace c36 := Bool.eq_false_iff.mpr c36
                                      subst c36
                                      have H1 : (none) = some r := by rw [if_neg (show ¬ (false = true) by decide)] at H; exact H
                                      clear H
                                      have H := H1
                                      clear H1
                                      exact absurd H (by simp)
                                  · rw [if_neg c34] at H
                                    exact absurd H (by simp)
                                · rw [if_neg c33] at H
                                  exact absurd H (by simp)
                              · rw [if_neg c32] at H
                                have c32b0 : decide (x106_3 < (y233.length : Int)) = false := decide_eq_false c32
                                clear c32
                                have H' := Aside0.mk H
                                clear H
                                go_wp2
                                go_roundg k3
                                case measure => have := HJ9.out; have := HK2.out; have := HK3.out; omega
                                case rel => exact ⟨(wrap64 (x97_2 + 1)), (by first | rfl | (simp; done) | (simp [*]; done) | (simp; decide) | (simp; unfold wrap64; omega)), H', ⟨by have := HJ9.out; have := HK2.out; have := HK3.out; omega⟩, ⟨by (with_reducible repeat (first | apply Kd.R_alloc | apply Kd.R_drewN | apply Kd.R_drew)); exact HO_7.out⟩, ⟨by (with_reducible repeat (first | apply Kd.R_alloc | apply Kd.R_drewN | apply Kd.R_drew)); exact HO_95.out⟩, ⟨by repeat (first | (with_reducible first | exact HB.out | apply below_alloc | apply pw_below_drewN | apply below_drew1) | exact HB.out)⟩⟩
                        · rw [if_neg c30] at H
                          exact absurd H (by simp)
                      · rw [if_neg c28] at H
                        exact absurd H (by simp)
                    · rw [if_neg c27] at H
                      exact absurd H (by simp)
                  · rw [if_neg c26] at H
                    have c26b0 : decide (x97_2 < (t219.length : Int)) = false := decide_eq_false c26
                    clear c26
                    replace H := Option.bind_eq_some_iff.mp H
                    obtain ⟨⟨t240, t241, t242⟩, A380, H⟩ := H
                    replace H : ((impl_IsColouring.f k2 t240 t241 t242).bind fun bt245 => ((impl_MostMeeting.f k2 t240 t241).bind fun bt247 => (if bt245.2 = true then (if bt245.1 = true then (laws_FnMeetingSets.j3 k2 t242 bt247.1 (!bt247.2)) else (laws_FnMeetingSets.j3 k2 t242 bt247.1 true)) else (laws_FnMeetingSets.j3 k2 t242 bt247.1 true)))) = some r := H
                    have A38 := Aside0.mk A380
                    clear A380
                    replace H := Option.bind_eq_some_iff.mp H
                    obtain ⟨⟨t245, t246⟩, A390, H⟩ := H
                    replace H : ((impl_MostMeeting.f k2 t240 t241).bind fun bt247 => (if t246 = true then (if t245 = true then (laws_FnMeetingSets.j3 k2 t242 bt247.1 (!bt247.2)) else (laws_FnMeetingSets.j3 k2 t242 bt247.1 true)) else (laws_FnMeetingSets.j3 k2 t242 bt247.1 true))) = some r := H
                    have A39 := Aside0.mk A390
                    clear A390
                    replace H := Option.bind_eq_some_iff.mp H
                    obtain ⟨⟨t247, t248⟩, A400, H⟩ := H
                    replace H : (if t246 = true then (if t245 = true then (laws_FnMeetingSets.j3 k2 t242 t247 (!t248)) else (laws_FnMeetingSets.j3 k2 t242 t247 true)) else (laws_FnMeetingSets.j3 k2 t242 t247 true)) = some r := H
                    have A40 := Aside0.mk A400
                    clear A400
                    have HC41 := Aside0.mk H
                    clear H
                    go_upto_region 28 with (first | ((with_reducible refine gate_callee (f := 29) rfl ?_); refine goesL_ (some 125) rfl rfl Try.func29 (by kernel_rfl) rfl #[.slice A1 l1.length c1] rfl (by (try simp only [List.map_toArray, List.map_cons, List.map_nil]); first | done | rfl | (simp only [List.length_drop, List.length_take]; rfl)) ?_; (with_reducible refine (spec_DrawIsColouring.calls k2 _ _ l1 t240 t241 t242 _ ?side1 ?side2 A38.out).mono ?_); (case side1 => repeat (first | exact (Kd.C_below HR1.out HB.out) | (with_reducible refine Kd.C_alloc ?_ _) | (with_reducible refine Kd.C_drewN ?_ _) | (with_reducible refine Kd.C_drew ?_))); (case side2 => exact HC1.out); rintro e w42 ⟨v243, rfl, ho0, hb⟩; refine ⟨_, rfl, ?_⟩; have n0_ := Aside0.mk (Kd.R_elder' (by (with_reducible repeat (first | apply Kd.R_alloc | apply Kd.R_drewN | apply Kd.R_drew)); exact HO_7.out) (Kd.R_base ho0) hb); have n1_ := Aside0.mk (Kd.R_elder' (by (with_reducible repeat (first | apply Kd.R_alloc | apply Kd.R_drewN | apply Kd.R_drew)); exact HO_95.out) (Kd.R_base ho0) hb); have n2_ := Aside0.mk (Kd.R_lower (Kd.R_new' (Kd.R_new' ho0 (Kd.R_lt (by (with_reducible repeat (first | apply Kd.R_alloc | apply Kd.R_drewN | apply Kd.R_drew)); exact HO_7.out))) (Kd.R_lt (by (with_reducible repeat (first | apply Kd.R_alloc | apply Kd.R_drewN | apply Kd.R_drew)); exact HO_95.out))) (below_size (by repeat (first | (with_reducible first | exact HB.out | apply below_alloc | apply pw_below_drewN | apply below_drew1) | exact HB.out)))); have n3_ := Aside0.mk (below_step (by repeat (first | (with_reducible first | exact HB.out | apply below_alloc | apply pw_below_drewN | apply below_drew1) | exact HB.out)) hb); clear HO_7; clear HO_95; clear HB; have HO_7 := n0_; have HO_95 := n1_; have HO244 := n2_; have HB := n3_; clear n0_ n1_ n2_ n3_; (try clear hb); (try clear hb2); (try clear hk); (try clear hi); (try clear ho0); obtain ⟨Ao43, co43, eo43⟩ := Kd.R_slice HO244.out; subst eo43) | ((with_reducible refine gate_callee (f := 30) rfl ?_); refine goesL_ (some 133) rfl rfl Try.func30 (by kernel_rfl) rfl #[.int .i64 t240, .int .i64 t241, .slice Ao43 t242.length co43] rfl (by (try simp only [List.map_toArray, List.map_cons, List.map_nil]); first | done | rfl | (simp only [List.length_drop, List.length_take]; rfl)) ?_; (with_reducible refine (impl_IsColouring.calls k2 t240 t241 _ _ t242 t245 t246 _ ?side1 ?side2 A39.out).mono ?_); (case side1 => repeat (first | exact (Kd.R_reads' HO244.out).2.2 | (with_reducible refine Kd.C_alloc ?_ _) | (with_reducible refine Kd.C_drewN ?_ _) | (with_reducible refine Kd.C_drew ?_))); (case side2 => exact (Kd.R_reads' HO244.out).2.1); rintro e w44 ⟨rfl, hb⟩; refine ⟨_, rfl, ?_⟩; have n0_ := Aside0.mk (Kd.R_below (by (with_reducible repeat (first | apply Kd.R_alloc | apply Kd.R_drewN | apply Kd.R_drew)); exact HO_7.out) hb); have n1_ := Aside0.mk (Kd.R_below (by (with_reducible repeat (first | apply Kd.R_alloc | apply Kd.R_drewN | apply Kd.R_drew)); exact HO_95.out) hb); have n2_ := Aside0.mk (Kd.R_below (by (with_reducible repeat (first | apply Kd.R_alloc | apply Kd.R_drewN | apply Kd.R_drew)); exact HO244.out) hb); have n3_ := Aside0.mk (below_step (by repeat (first | (with_reducible first | exact HB.out | apply below_alloc | apply pw_below_drewN | apply below_drew1) | exact HB.out)) hb); clear HO_7; clear HO_95; clear HO244; clear HB; have HO_7 := n0_; have HO_95 := n1_; have HO244 := n2_; have HB := n3_; clear n0_ n1_ n2_ n3_; (try clear hb); (try clear hb2); (try clear hk); (try clear hi)) | ((with_reducible refine gate_callee (f := 25) rfl ?_); refine goesL_ (some 139) rfl rfl Try.func25 (by kernel_rfl) rfl #[.int .i64 t240, .int .i64 t241] rfl (by (try simp only [List.map_toArray, List.map_cons, List.map_nil]); first | done | rfl | (simp only [List.length_drop, List.length_take]; rfl)) ?_; (with_reducible refine (impl_MostMeeting.calls k2 t240 t241 t247 t248 _ A40.out).mono ?_); rintro e w' ⟨rfl, ⟨nd, rfl⟩⟩; refine ⟨_, rfl, ?_⟩))
                    (try simp only [Act.put, List.setIfInBounds_toArray, List.set_cons_zero, List.set_cons_succ])
                    refine wp_cutm false 32 [61, 2, 5, 2, 44, 2, 2, 2, 12] (fun u_ => (fun v151 wc => ∃ (kq : Nat) (x151_40 : Bool), v151 = .bool x151_40 ∧ Aside0 (laws_FnMeetingSets.j3 kq t242 t247 x151_40 = some r) ∧ Aside0 (kq ≤ k2) ∧ Aside0 (Kd.R (Kd.int .i64) 3 wc w.heap.size (fun _ => True) (.slice Ao43 t242.length co43) t242) ∧ Aside0 (Below w.heap.size w wc)) (u_ 151)) ?rest2 ?first2
                    case first2 => as_aux_lemma =>
                      intro _ _ _ _
                      have H := HC41.out
                      clear HC41
                      by_cases c45 : t246 = true
                      · subst c45
                        have H1 : (if t245 = true then (laws_FnMeetingSets.j3 k2 t242 t247 (!t248)) else (laws_FnMeetingSets.j3 k2 t242 t247 true)) = some r := by rw [if_pos rfl] at H; exact H
                        clear H
                        have H := H1
                        clear H1
                        by_cases c46 : t245 = true
                        · subst c46
                          have H1 : (laws_FnMeetingSets.j3 k2 t242 t247 (!t248)) = some r := by rw [if_pos rfl] at H; exact H
                          clear H
                          have H := H1
                          clear H1
                          have H' := Aside0.mk H
                          clear H
                          go_wp2
                          refine Met.m (by assumption) (by kernel_rfl) ?rel
                          case rel => exact ⟨_, (!t248), (by first | rfl | (simp; done) | (simp [*]; done) | (simp; decide) | (simp; unfold wrap64; omega)), H', ⟨by have := HJ9.out; have := HK2.out; first | omega | exact Nat.le_refl _⟩, ⟨by (with_reducible repeat (first | apply Kd.R_alloc | apply Kd.R_drewN | apply Kd.R_drew)); exact Kd.R_mono HO244.out (fun _ hk => trivial)⟩, ⟨by repeat (first | (with_reducible first | exact HB.out | apply below_alloc | apply pw_below_drewN | apply below_drew1) | exact HB.out)⟩⟩
                        · replace c46 := Bool.eq_false_iff.mpr c46
                          subst c46
                          have H1 : (laws_FnMeetingSets.j3 k2 t242 t247 true) = some r := by rw [if_neg (show ¬ (false = true) by decide)] at H; exact H
                          clear H
                          have H := H1
                          clear H1
                          have H' := Aside0.mk H
                          clear H
                          go_wp2
                          refine Met.m (by assumption) (by kernel_rfl) ?rel
                          case rel => exact ⟨_, (true), (by first | rfl | (simp; done) | (simp [*]; done) | (simp; decide) | (simp; unfold wrap64; omega)), H', ⟨by have := HJ9.out; have := HK2.out; first | omega | exact Nat.le_refl _⟩, ⟨by (with_reducible repeat (first | apply Kd.R_alloc | apply Kd.R_drewN | apply Kd.R_drew)); exact Kd.R_mono HO244.out (fun _ hk => trivial)⟩, ⟨by repeat (first | (with_reducible first | exact HB.out | apply below_alloc | apply pw_below_drewN | apply below_drew1) | exact HB.out)⟩⟩
                      · replace c45 := Bool.eq_false_iff.mpr c45
                        subst c45
                        have H1 : (laws_FnMeetingSets.j3 k2 t242 t247 true) = some r := by rw [if_neg (show ¬ (false = true) by decide)] at H; exact H
                        clear H
                        have H := H1
                        clear H1
                        have H' := Aside0.mk H
                        clear H
                        go_wp2
                        refine Met.m (by assumption) (by kernel_rfl) ?rel
                        case rel => exact ⟨_, (true), (by first | rfl | (simp; done) | (simp [*]; done) | (simp; decide) | (simp; unfold wrap64; omega)), H', ⟨by have := HJ9.out; have := HK2.out; first | omega | exact Nat.le_refl _⟩, ⟨by (with_reducible repeat (first | apply Kd.R_alloc | apply Kd.R_drewN | apply Kd.R_drew)); exact Kd.R_mono HO244.out (fun _ hk => trivial)⟩, ⟨by repeat (first | (with_reducible first | exact HB.out | apply below_alloc | apply pw_below_drewN | apply below_drew1) | exact HB.out)⟩⟩
                    case rest2 => as_aux_lemma =>
                      intro u_ wc hcut
                      dsimp only [zipR, Nat.reduceAdd]
                      generalize u_ 151 = u151 at hcut ⊢
                      clear HC41
                      try clear c1
                      try clear c2
                      try clear p2
                      try clear q2
                      try clear hx2
                      try clear c3
                      try clear q3
                      try clear c4
                      try clear p6
                      try clear c15
                      try clear c15b0
                      try clear c15b1
                      try clear c15b2
                      try clear c17
                      try clear c18
                      try clear c18b0
                      try clear c18b1
                      try clear c18b2
                      try clear c19
                      try clear c19b0
                      try clear c19b1
                      try clear c21
                      try clear c22
                      try clear c23
                      try clear p23
                      try clear q23
                      try clear hx23
                      try clear c24
                      try clear c24b0
                      try clear c24b1
                      try clear c25
                      try clear c26
                      try clear c26b0
                      try clear c27
                      try clear c27b0
                      try clear c28
                      try clear c28b0
                      try clear c29
                      try clear c29b0
                      try clear c30
                      try clear c30b0
                      try clear c30b1
                      try clear q31
                      try clear c32
                      try clear c32b0
                      try clear c33
                      try clear c33b0
                      try clear c34
                      try clear c34b0
                      try clear c36
                      try clear c37
                      try clear c45
                      try clear c46
                      try clear hx232_0
                      try clear hx237_0
                      try clear p2
                      try clear p23
                      try clear p232
                      try clear p237
                      try clear p6
                      try clear q2
                      try clear q23
                      try clear q232
                      try clear q237
                      try clear q3
                      try clear q31
                      obtain ⟨kq, x151_40, rfl, HA, HJ40, HO_23, HB⟩ := hcut
                      cases kq with
                      | zero => exact absurd HA.out (by simp [laws_FnMeetingSets.j3])
                      | succ kj40 =>
                        have H := HA.out
                        clear HA
                        simp only [laws_FnMeetingSets.j3] at H
                        by_cases c47 : x151_40 = true
                        · subst c47
                          have H1 : (some true) = some r := by rw [if_pos rfl] at H; exact H
                          clear H
                          have H := H1
                          clear H1
                          obtain rfl := Option.some.inj H
                          go_wp2
                          go_ret
                          exact ⟨by first | rfl | (simp [errW_none, errW_some] <;> rfl) | (simp [*, errW_none, errW_some] <;> rfl), by repeat (first | (with_reducible first | exact HB.out | apply below_alloc | apply pw_below_drewN | apply below_drew1) | exact HB.out)⟩
                        · replace c47 := Bool.eq_false_iff.mpr c47
                          subst c47
                          have H1 : (laws_FnMeetingSets.l2 kj40 t242 t247 t242 (t242.length : Int) 0) = some r := by rw [if_neg (show ¬ (false = true) by decide)] at H; exact H
                          clear H
                          have H := H1
                          clear H1
                          have H' := Aside0.mk H
                          clear H
                          go_wp2
                          go_loopg [154] kj40 (fun kq v154 w' => ∃ (x154_4 : Int), v154 = .int .i64 x154_4 ∧ Aside0 (laws_FnMeetingSets.l2 kq t242 t247 t242 (t242.length : Int) x154_4 = some r) ∧ Aside0 (kq ≤ kj40) ∧ Aside0 (Kd.R (Kd.int .i64) 3 w' w.heap.size (fun _ => True) (.slice Ao43 t242.length co43) t242) ∧ Aside0 (Kd.R (Kd.int .i64) 3 w' w.heap.size (fun _ => True) (.slice Ao43 t242.length co43) t242) ∧ Aside0 (Below w.heap.size w w'))
                          case atStart => exact ⟨(0), (by first | rfl | (simp; done) | (simp [*]; done) | (simp; decide) | (simp; unfold wrap64; omega)), H', ⟨Nat.le_refl _⟩, ⟨by (with_reducible repeat (first | apply Kd.R_alloc | apply Kd.R_drewN | apply Kd.R_drew)); exact HO_23.out⟩, ⟨by (with_reducible repeat (first | apply Kd.R_alloc | apply Kd.R_drewN | apply Kd.R_drew)); exact HO_23.out⟩, ⟨by repeat (first | (with_reducible first | exact HB.out | apply below_alloc | apply pw_below_drewN | apply below_drew1) | exact HB.out)⟩⟩
                          case round => as_aux_lemma =>
                            clear H'
                            try clear c1
                            try clear c2
                            try clear p2
                            try clear q2
                            try clear hx2
                            try clear c3
                            try clear q3
                            try clear c4
                            try clear p6
                            try clear c15
                            try clear c15b0
                            try clear c15b1
                            try clear c15b2
                            try clear c17
                            try clear c18
                            try clear c18b0
                            try clear c18b1
                            try clear c18b2
                            try clear c19
                            try clear c19b0
                            try clear c19b1
                            try clear c21
                            try clear c22
                            try clear c23
                            try clear p23
                            try clear q23
                            try clear hx23
                            try clear c24
                            try clear c24b0
                            try clear c24b1
                            try clear c25
                            try clear c26
                            try clear c26b0
                            try clear c27
                            try clear c27b0
                            try clear c28
                            try clear c28b0
                            try clear c29
                            try clear c29b0
                            try clear c30
                            try clear c30b0
                            try clear c30b1
                            try clear q31
                            try clear c32
                            try clear c32b0
                            try clear c33
                            try clear c33b0
                            try clear c34
                            try clear c34b0
                            try clear c36
                            try clear c37
                            try clear c45
                            try clear c46
                            try clear c47
                            try clear hx232_0
                            try clear hx237_0
                            try clear p2
                            try clear p23
                            try clear p232
                            try clear p237
                            try clear p6
                            try clear q2
                            try clear q23
                            try clear q232
                            try clear q237
                            try clear q3
                            try clear q31
                            obtain ⟨x154_4, rfl, HA, HK4, HO_23, HO_152, HB⟩ := hrel
                            cases gk with
                            | zero => exact absurd HA.out (by simp [laws_FnMeetingSets.l2])
                            | succ k4 =>
                              have H := HA.out
                              clear HA
                              simp only [laws_FnMeetingSets.l2] at H
                              by_cases c48 : x154_4 < (t242.length : Int)
                              · rw [if_pos c48] at H
                                have c48b0 : decide (x154_4 < (t242.length : Int)) = true := decide_eq_true c48
                                clear c48
                                by_cases c49 : 0 ≤ x154_4
                                · rw [if_pos c49] at H
                                  have c49b0 : decide (0 ≤ x154_4) = true := decide_eq_true c49
                                  clear c49
                                  by_cases c50 : x154_4 < (t242.length : Int)
                                  · rw [if_pos c50] at H
                                    have c50b0 : decide (x154_4 < (t242.length : Int)) = true := decide_eq_true c50
                                    clear c50
                                    have H' := Aside0.mk H
                                    clear H
                                    have p249 : 0 ≤ (x154_4 : Int) := of_decide_eq_true (by first | (with_reducible assumption) | assumption)
                                    have q249 : x154_4 < (t242.length : Int) := of_decide_eq_true (by first | (with_reducible assumption) | assumption)
                                    obtain ⟨ad249, e249, hx249_0⟩ := Kd.at_int (Kd.R_reads' HO_152.out).2.2 x154_4 p249 q249
                                    cases e249
                                    replace p249 := eq_true p249
                                    replace q249 := eq_true q249
                                    go_wp2
                                    go_loopg [30, 160] k4 (fun kq v30 v160 w' => ∃ (x30_5 : Int) (x160_5 : Int), v30 = .int .i64 x30_5 ∧ v160 = .int .i64 x160_5 ∧ Aside0 (laws_FnMeetingSets.l3 kq t242 t247 (rd t242 x154_4) x30_5 t242 (t242.length : Int) x154_4 t242 (t242.length : Int) x160_5 = some r) ∧ Aside0 (kq ≤ k4) ∧ Aside0 (Kd.R (Kd.int .i64) 3 w' w.heap.size (fun _ => True) (.slice (some ad249) t242.length co43) t242) ∧ Aside0 (Kd.R (Kd.int .i64) 3 w' w.heap.size (fun _ => True) (.slice (some ad249) t242.length co43) t242) ∧ Aside0 (Kd.R (Kd.int .i64) 3 w' w.heap.size (fun _ => True) (.slice (some ad249) t242.length co43) t242) ∧ Aside0 (Below w.heap.size w w'))
                                    case atStart => exact ⟨(0), (0), (by first | rfl | (simp; done) | (simp [*]; done) | (simp; decide) | (simp; unfold wrap64; omega)), (by first | rfl | (simp; done) | (simp [*]; done) | (simp; decide) | (simp; unfold wrap64; omega)), H', ⟨Nat.le_refl _⟩, ⟨by (with_reducible repeat (first | apply Kd.R_alloc | apply Kd.R_drewN | apply Kd.R_drew)); exact HO_23.out⟩, ⟨by (with_reducible repeat (first | apply Kd.R_alloc | apply Kd.R_drewN | apply Kd.R_drew)); exact HO_152.out⟩, ⟨by (with_reducible repeat (first | apply Kd.R_alloc | apply Kd.R_drewN | apply Kd.R_drew)); exact HO_23.out⟩, ⟨by repeat (first | (with_reducible first | exact HB.out | apply below_alloc | apply pw_below_drewN | apply below_drew1) | exact HB.out)⟩⟩
                                    case round => as_aux_lemma =>
                                      clear H'
                                      try clear c1
                                      try clear c2
                                      try clear p2
                                      try clear q2
                                      try clear hx2
                                      try clear c3
                                      try clear q3
                                      try clear c4
                                      try clear c5
                                      try clear p6
                                      try clear c15
                                      try clear c15b0
                                      try clear c15b1
                                      try clear c15b2
                                      try clear c17
                                      try clear c18
                                      try clear c18b0
                                      try clear c18b1
                                      try clear c18b2
                                      try clear c19
                                      try clear c19b0
                                      try clear c19b1
                                      try clear c21
                                      try clear c22
                                      try clear c23
                                      try clear p23
                                      try clear q23
                                      try clear hx23
                                      try clear c24
                                      try clear c24b0
                                      try clear c24b1
                                      try clear p24
                                      try clear q24
                                      try clear hx24
                                      try clear c25
                                      try clear c26
                                      try clear c26b0
                                      try clear c27
                                      try clear c27b0
                                      try clear c28
                                      try clear c28b0
                                      try clear c29
                                      try clear c29b0
                                      try clear c30
                                      try clear c30b0
                                      try clear c30b1
                                      try clear q31
                                      try clear c32
                                      try clear c32b0
                                      try clear c33
                                      try clear c33b0
                                      try clear c34
                                      try clear c34b0
                                      try clear c36
                                      try clear c37
                                      try clear c45
                                      try clear c46
                                      try clear c47
                                      try clear c48
                                      try clear c48b0
                                      try clear c49
                                      try clear c49b0
                                      try clear c50
                                      try clear c50b0
                                      try clear hx232_0
                                      try clear hx237_0
                                      try clear hx249_0
                                      try clear p2
                                      try clear p23
                                      try clear p232
                                      try clear p237
                                      try clear p249
                                      try clear p6
                                      try clear q2
                                      try clear q23
                                      try clear q232
                                      try clear q237
                                      try clear q249
                                      try clear q3
                                      try clear q31
                                      obtain ⟨x30_5, x160_5, rfl, rfl, HA, HK5, HO_23, HO_152, HO_158, HB⟩ := hrel
                                      cases gk with
                                      | zero => exact absurd HA.out (by simp [laws_FnMeetingSets.l3])
                                      | succ k5 =>
                                        have H := HA.out
                                        clear HA
                                        simp only [laws_FnMeetingSets.l3] at H
                                        by_cases c51 : x160_5 < (t242.length : Int)
                                        · rw [if_pos c51] at H
                                          have c51b0 : decide (x160_5 < (t242.length : Int)) = true := decide_eq_true c51
                                          clear c51
                                          by_cases c52 : 0 ≤ x160_5
                                          · rw [if_pos c52] at H
                                            have c52b0 : decide (0 ≤ x160_5) = true := decide_eq_true c52
                                            clear c52
                                            by_cases c53 : x160_5 < (t242.length : Int)
                                            · rw [if_pos c53] at H
                                              have c53b0 : decide (x160_5 < (t242.length : Int)) = true := decide_eq_true c53
                                              clear c53
                                              by_cases c54 : (rd t242 x154_4) = (rd t242 x160_5)
                                              · rw [if_pos c54] at H
                                                have c54b0 : ((rd t242 x154_4) == (rd t242 x160_5)) = true := beq_iff_eq.mpr c54
                                                have c54b1 : ((rd t242 x154_4) != (rd t242 x160_5)) = false := bne_eq_false_iff_eq.mpr c54
                                                clear c54
                                                have H' := Aside0.mk H
                                                clear H
                                                have p250 : 0 ≤ (x160_5 : Int) := of_decide_eq_true (by first | (with_reducible assumption) | assumption)
                                                have q250 : x160_5 < (t242.length : Int) := of_decide_eq_true (by first | (with_reducible assumption) | assumption)
                                                obtain ⟨ad250, e250, hx250_0⟩ := Kd.at_int (Kd.R_reads' HO_158.out).2.2 x160_5 p250 q250
                                                obtain rfl : ad249 = ad250 := (by injection e250)
                                                replace p250 := eq_true p250
                                                replace q250 := eq_true q250
                                                go_wp2
                                                go_roundg k5
                                                case measure => have := HJ9.out; have := HK2.out; have := HJ40.out; have := HK4.out; have := HK5.out; omega
                                                case rel => exact ⟨(wrap64 (x30_5 + 1)), (wrap64 (x160_5 + 1)), (by first | rfl | (simp; done) | (simp [*]; done) | (simp; decide) | (simp; unfold wrap64; omega)), (by first | rfl | (simp; done) | (simp [*]; done) | (simp; decide) | (simp; unfold wrap64; omega)), H', ⟨by have := HJ9.out; have := HK2.out; have := HJ40.out; have := HK4.out; have := HK5.out; omega⟩, ⟨by (with_reducible repeat (first | apply Kd.R_alloc | apply Kd.R_drewN | apply Kd.R_drew)); exact HO_23.out⟩, ⟨by (with_reducible repeat (first | apply Kd.R_alloc | apply Kd.R_drewN | apply Kd.R_drew)); exact HO_152.out⟩, ⟨by (with_reducible repeat (first | apply Kd.R_alloc | apply Kd.R_drewN | apply Kd.R_drew)); exact HO_158.out⟩, ⟨by repeat (first | (with_reducible first | exact HB.out | apply below_alloc | apply pw_below_drewN | apply below_drew1) | exact HB.out)⟩⟩
                                              · rw [if_neg c54] at H
                                                have c54b0 : ((rd t242 x154_4) == (rd t242 x160_5)) = false := beq_eq_false_iff_ne.mpr c54
                                                have c54b1 : ((rd t242 x154_4) != (rd t242 x160_5)) = true := bne_iff_ne.mpr c54
                                                have H' := Aside0.mk H
                                                clear H
                                                have p250 : 0 ≤ (x160_5 : Int) := of_decide_eq_true (by first | (with_reducible assumption) | assumption)
                                                have q250 : x160_5 < (t242.length : Int) := of_decide_eq_true (by first | (with_reducible assumption) | assumption)
                                                obtain ⟨ad250, e250, hx250_0⟩ := Kd.at_int (Kd.R_reads' HO_158.out).2.2 x160_5 p250 q250
                                                obtain rfl : ad249 = ad250 := (by injection e250)
                                                replace p250 := eq_true p250
                                                replace q250 := eq_true q250
                                                go_wp2
                                                go_roundg k5
                                                case measure => have := HJ9.out; have := HK2.out; have := HJ40.out; have := HK4.out; have := HK5.out; omega
                                                case rel => exact ⟨(x30_5), (wrap64 (x160_5 + 1)), (by first | rfl | (simp; done) | (simp [*]; done) | (simp; decide) | (simp; unfold wrap64; omega)), (by first | rfl | (simp; done) | (simp [*]; done) | (simp; decide) | (simp; unfold wrap64; omega)), H', ⟨by have := HJ9.out; have := HK2.out; have := HJ40.out; have := HK4.out; have := HK5.out; omega⟩, ⟨by (with_reducible repeat (first | apply Kd.R_alloc | apply Kd.R_drewN | apply Kd.R_drew)); exact HO_23.out⟩, ⟨by (with_reducible repeat (first | apply Kd.R_alloc | apply Kd.R_drewN | apply Kd.R_drew)); exact HO_152.out⟩, ⟨by (with_reducible repeat (first | apply Kd.R_alloc | apply Kd.R_drewN | apply Kd.R_drew)); exact HO_158.out⟩, ⟨by repeat (first | (with_reducible first | exact HB.out | apply below_alloc | apply pw_below_drewN | apply below_drew1) | exact HB.out)⟩⟩
                                            · rw [if_neg c53] at H
                                              exact absurd H (by simp)
                                          · rw [if_neg c52] at H
                                            exact absurd H (by simp)
                                        · rw [if_neg c51] at H
                                          have c51b0 : decide (x160_5 < (t242.length : Int)) = false := decide_eq_false c51
                                          clear c51
                                          by_cases c55 : x30_5 > t247
                                          · rw [if_pos c55] at H
                                            exact absurd H (by simp)
                                          · rw [if_neg c55] at H
                                            have c55b0 : decide (t247 < x30_5) = false := decide_eq_false c55
                                            clear c55
                                            have H' := Aside0.mk H
                                            clear H
                                            go_wp2
                                            go_roundg k5
                                            case measure => have := HJ9.out; have := HK2.out; have := HJ40.out; have := HK4.out; have := HK5.out; omega
                                            case rel => exact ⟨(wrap64 (x154_4 + 1)), (by first | rfl | (simp; done) | (simp [*]; done) | (simp; decide) | (simp; unfold wrap64; omega)), H', ⟨by have := HJ9.out; have := HK2.out; have := HJ40.out; have := HK4.out; have := HK5.out; omega⟩, ⟨by (with_reducible repeat (first | apply Kd.R_alloc | apply Kd.R_drewN | apply Kd.R_drew)); exact HO_23.out⟩, ⟨by (with_reducible repeat (first | apply Kd.R_alloc | apply Kd.R_drewN | apply Kd.R_drew)); exact HO_152.out⟩, ⟨by repeat (first | (with_reducible first | exact HB.out | apply below_alloc | apply pw_below_drewN | apply below_drew1) | exact HB.out)⟩⟩
                                  · rw [if_neg c50] at H
                                    exact absurd H (by simp)
                                · rw [if_neg c49] at H
                                  exact absurd H (by simp)
                              · rw [if_neg c48] at H
                                have c48b0 : decide (x154_4 < (t242.length : Int)) = false := decide_eq_false c48
                                clear c48
                                obtain rfl := Option.some.inj H
                                go_wp2
                                go_ret
                                exact ⟨by first | rfl | (simp [errW_none, errW_some] <;> rfl) | (simp [*, errW_none, errW_some] <;> rfl), by repeat (first | (with_reducible first | exact HB.out | apply below_alloc | apply pw_below_drewN | apply below_drew1) | exact HB.out)⟩
            · rw [if_neg c24] at H
              exact absurd H (by simp)
          · replace c23 := Bool.eq_false_iff.mpr c23
            subst c23
            have H1 : (some true) = some r := by rw [if_neg (show ¬ (false = true) by decide)] at H; exact H
            clear H
            have H := H1
            clear H1
            obtain rfl := Option.some.inj H
            go_wp2
            go_ret
            exact ⟨by first | rfl | (simp [errW_none, errW_some] <;> rfl) | (simp [*, errW_none, errW_some] <;> rfl), by repeat (first | (with_reducible first | exact HB.out | apply below_alloc | apply pw_below_drewN | apply below_drew1) | exact HB.out)⟩
theorem laws_FnMeetingSets.walk (P : laws_FnMeetingSets.Pure) (a0 : Option Addr) (len0 cap0 : Nat) (z0 : List Int) (a1 : Option Addr) (len1 cap1 : Nat) (z1 : List Int) (w : World) (w0 : (a0 = none ∧ len0 = 0 ∧ cap0 = 0 ∧ z0 = []) ∨ ∃ x, a0 = some x ∧ len0 ≤ cap0 ∧ cap0 ≤ maxLen ∧ z0.length = cap0 ∧ (∀ i, i < z0.length → w.cell? (x.add i) = some (.int .u8 (z0.getD i 0))) ∧ ∀ n ∈ z0, (Lit.int .u8 n).wf = true) (y0 : len0 * 1 ≤ 140737488351232) (w1 : (a1 = none ∧ len1 = 0 ∧ cap1 = 0 ∧ z1 = []) ∨ ∃ x, a1 = some x ∧ len1 ≤ cap1 ∧ cap1 ≤ maxLen ∧ z1.length = cap1 ∧ (∀ i, i < z1.length → w.cell? (x.add i) = some (.int .u8 (z1.getD i 0))) ∧ ∀ n ∈ z1, (Lit.int .u8 n).wf = true) (y1 : len1 * 1 ≤ 140737488351232) :
    Calls Try.prog 4 #[.slice a0 len0 cap0, .slice a1 len1 cap1] w fun e w' => e = .returned (.bool true) ∧ Below w.heap.size w w' := by
  obtain ⟨l0, rfl, hr0, hm0, hw0, hc0⟩ := ReadsInt.ofRowC w0
  obtain ⟨l1, rfl, hr1, hm1, hw1, hc1⟩ := ReadsInt.ofRowC w1
  obtain ⟨k, h⟩ := P l0 l1 hm0 y0 hw0 hm1 y1 hw1
  refine (laws_FnMeetingSets.calls k _ _ l0 _ _ l1 true w (Kd.C_of_reads (d := (0 : Int)) (h1 := fun _ => rfl) hr0) hc0 (Kd.C_of_reads (d := (0 : Int)) (h1 := fun _ => rfl) hr1) hc1 h).mono ?_
  rintro e w' ⟨rfl, hd⟩
  exact ⟨rfl, hd⟩
end Go.Proofs.Ytckiebdehlcjoaa.P
