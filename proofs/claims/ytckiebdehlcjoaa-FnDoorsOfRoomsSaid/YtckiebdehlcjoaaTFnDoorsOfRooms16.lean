/- A part of the proof of the law FnDoorsOfRooms. -/
import Derived.Test.YtckiebdehlcjoaaTFnDoorsOfRooms15
namespace Go.Proofs.Ytckiebdehlcjoaa.P
open Go.Proofs.Ytckiebdehlcjoaa.Own
open Go.RowKit Go.Proofs.YtckiebdehlcjoaaW.PrintWords Go.Proofs.YtckiebdehlcjoaaW.PrintLast Go.Proofs.YtckiebdehlcjoaaW.PrintMore
attribute [local go_sem] max2_int min2_int max_two min_two max_three min_three max_four min_four   -- for this text's walks alone
set_option linter.unusedVariables false
set_option linter.unusedSimpArgs false
def spec_DrawDoorsOf.f (k : Nat) (l0 : List Int) : Option (Int × List Int) := (spec_l1Cur_anyLabels.f k l0 0 0 4).bind fun bt248 => (some (bt248.1, bt248.2.1))
set_option maxHeartbeats 8000000 in
set_option maxRecDepth 100000 in
theorem spec_DrawDoorsOf.calls (k : Nat) (A0 : Option Addr) (c0 : Nat) (l0 : List Int) (r1 : Int) (r2 : List Int) (w : World) (hr0 : Kd.C (Kd.int .u8) w A0 l0.length l0) (hc0 : l0.length ≤ c0) (h : spec_DrawDoorsOf.f k l0 = some (r1, r2)) :
  Calls Try.prog 83 #[.slice A0 l0.length c0] w fun e w' => ∃ v1_ : Value, e = .returned (.tuple #[.int .i64 r1, v1_]) ∧ Kd.R (Kd.int .i64) 3 w' w.heap.size (fun _ => True) v1_ r2 ∧ Below w.heap.size w w' := by
 have hu101 := Try.underlying101
 have HR0 := zA0 hr0
 have HC0 := zA0 hc0
 clear hr0 hc0
 have HB := zA0 (Below.refl w.heap.size w)
 have H : ((spec_l1Cur_anyLabels.f k l0 0 0 4).bind fun bt248 => (some (bt248.1, bt248.2.1))) = some (r1, r2) := h
 clear h
 replace H := Option.bind_eq_some_iff.mp H
 obtain ⟨⟨t248, t249, t252, t253⟩, A20, H⟩ := H
 (try dsimp only at H)
 have A2 := zA0 A20
 clear A20
 simp only [Option.some.injEq, Prod.mk.injEq] at H
 obtain ⟨rfl, rfl⟩ := H
 go_enter Try.func83, Try.ntmps83
 go_wp2_with (first | ((with_reducible refine gate_dst (N := 7) rfl ?_); refine box_event ?hg (N := 7) ?hd (cs := #[.slice A0 l0.length c0, .int .i64 0, .int .u64 0]) (t := 101) ?hr ?_; (case hd => rfl); (case hg => rfl); (case hr => first | (go_simp; done) | (go_simp; rfl)); intro gb247 hg w3 hbox hb; have n0_ := zA0 (below_step (zB HB) hb); have n1_ := zA0 ((⟨_, _, hbox, by rw [hg]; exact ((below_size (zB HB))), HR0.out⟩ : IsS101 w w3 gb247 l0 0 0)); replace HB := n0_; have HI247 := n1_; clear n0_ n1_; clear hb hbox hg) | ((with_reducible refine gate_callee (f := 213) rfl ?_); refine goesL_ (some 9) rfl rfl Try.func213 (by kernel_rfl) rfl #[.pointer (some ⟨gb247, 0, none⟩), .int .i64 4] rfl (by (try simp only [List.map_toArray, List.map_cons, List.map_nil]); first | done | rfl) ?_; (with_reducible refine (spec_l1Cur_anyLabels.calls k gb247 l0 0 0 4 t248 t249 t252 t253 w _ ?side1 ?side2 A2.out).mono ?_); (case side1 => exact zI101 HI247); (case side2 => exact zB HB); rintro e w4 ⟨v250, rfl, ho0, hi, hb, hk⟩; refine ⟨_, rfl, ?_⟩; have n0_ := zA0 (Kd.R_lower ho0 (below_size (zB HB))); have n1_ := zA0 (hb); have n2_ := zA0 (hi); have HO251 := n0_; replace HB := n1_; replace HI247 := n2_; clear n0_ n1_ n2_; (try clear hb); (try clear hb2); (try clear hk); (try clear hi); (try clear ho0)))
 go_ret2
 exact ⟨_, by first | rfl | (simp [errW_none, errW_some] <;> rfl) | (simp [*, errW_none, errW_some] <;> rfl), zR HO251, zB HB⟩
mutual
def spec_DoorsOf.l0 : Nat → Int → List Int → List (List Int) → Int → Int → Option ((List (List Int)) × Bool)
  | 0, _, _, _, _, _ => none
  | k + 1, x0, x1, x6, x14, x15 => if x15 < x14 then (spec_DoorsOf.l1 k x0 x1 x6 x15 (wrap64 (x15 + 1)) x14 x15) else (some (x6, true))
def spec_DoorsOf.l1 : Nat → Int → List Int → List (List Int) → Int → Int → Int → Int → Option ((List (List Int)) × Bool)
  | 0, _, _, _, _, _, _, _ => none
  | k + 1, x0, x1, x6, x7, x8, x14, x15 => if x8 < (x1.length : Int) then ((spec_meNear.f k x0 x7 x8).bind fun t255 => (if t255 = true then ((spec_doDoor.f x1 x7 x8).bind fun t256 => (if t256 = true then (if x6.length < 5864062014805 then (spec_DoorsOf.l1 k x0 x1 (x6 ++ [(([x7, x8] : List Int))]) x7 (wrap64 (x8 + 1)) x14 x15) else (none)) else (spec_DoorsOf.l1 k x0 x1 x6 x7 (wrap64 (x8 + 1)) x14 x15))) else (spec_DoorsOf.l1 k x0 x1 x6 x7 (wrap64 (x8 + 1)) x14 x15))) else (spec_DoorsOf.l0 k x0 x1 x6 x14 (wrap64 (x15 + 1)))
end
def spec_DoorsOf.f (k : Nat) (a0 : Int) (l1 : List Int) : Option ((List (List Int)) × Bool) := (spec_meLabels.f k a0 l1).bind fun t254 => (if t254 = true then (spec_DoorsOf.l0 k a0 l1 ([] : List (List Int)) (l1.length : Int) 0) else (some (([] : List (List Int)), false)))
set_option maxHeartbeats 8000000 in
set_option maxRecDepth 100000 in
theorem spec_DoorsOf.calls (k : Nat) (a0 : Int) (A1 : Option Addr) (c1 : Nat) (l1 : List Int) (r1 : List (List Int)) (r2 : Bool) (w : World) (hr1 : Kd.C (Kd.int .i64) w A1 l1.length l1) (hc1 : l1.length ≤ c1) (h : spec_DoorsOf.f k a0 l1 = some (r1, r2)) :
  Calls Try.prog 85 #[.int .i64 a0, .slice A1 l1.length c1] w fun e w' => ∃ v0_ : Value, e = .returned (.tuple #[v0_, .bool r2]) ∧ Kd.S (Kd.slice 3 (Kd.int .i64)) 22 w' w.heap.size (fun _ => True) v0_ r1 ∧ Below w.heap.size w w' := by
 have HR1 := zA0 hr1
 have HC1 := zA0 hc1
 clear hr1 hc1
 have HB := zA0 (Below.refl w.heap.size w)
 have H : ((spec_meLabels.f k a0 l1).bind fun t254 => (if t254 = true then (spec_DoorsOf.l0 k a0 l1 ([] : List (List Int)) (l1.length : Int) 0) else (some (([] : List (List Int)), false)))) = some (r1, r2) := h
 clear h
 replace H := Option.bind_eq_some_iff.mp H
 obtain ⟨t254, A30, H⟩ := H
 (try dsimp only at H)
 have A3 := zA0 A30
 clear A30
 by_cases c4 : t254 = true
 ·
  subst c4
  rw [if_pos rfl] at H
  have H' := zA0 H
  clear H
  go_enter Try.func85, Try.ntmps85
  go_wp2_with (first | ((with_reducible refine gate_callee (f := 214) rfl ?_); refine goesL_ (some 11) rfl rfl Try.func214 (by kernel_rfl) rfl #[.int .i64 a0, .slice A1 l1.length c1] rfl (by (try simp only [List.map_toArray, List.map_cons, List.map_nil]); first | done | rfl) ?_; (with_reducible refine (spec_meLabels.calls k a0 _ _ l1 true _ ?side1 ?side2 A3.out).mono ?_); (case side1 => exact zC HR1.out); (case side2 => exact HC1.out); rintro e w' ⟨rfl, ⟨nd, rfl⟩⟩; refine ⟨_, rfl, ?_⟩))
  go_loopg [6, 15] k (fun kq v6 v15 w' => ∃ (x6_1 : List (List Int)) (x15_1 : Int), v15 = .int .i64 x15_1 ∧ Aside0 (spec_DoorsOf.l0 kq a0 l1 x6_1 (l1.length : Int) x15_1 = some (r1, r2)) ∧ Aside0 (kq ≤ k) ∧ Aside0 (Kd.S (Kd.slice 3 (Kd.int .i64)) 22 w' w.heap.size (fun _ => True) v6 x6_1) ∧ Aside0 (Below w.heap.size w w'))
  case atStart => exact ⟨(([] : List (List Int))), (0), (by first | rfl | (simp; done) | (simp [*]; done) | (simp; decide) | (simp; unfold wrap64; omega)), H', ⟨Nat.le_refl _⟩, ⟨by first | exact Kd.S_nil _ _ _ _ _ | exact Kd.N_nil _ _ _ _ _ | exact Kd.V_nil _ _ _ _ _ | exact Kd.Q_nil _ _ _ _ _ | exact Kd.R_nil _ _ _ _ _⟩, ⟨zB HB⟩⟩
  case round =>
   clear H'
   try clear c1
   try clear c2
   try clear p2
   try clear c4
   obtain ⟨x6_1, x15_1, rfl, HA, HK1, HO_6, HB⟩ := hrel
   cases gk with
   | zero => exact absurd HA.out (by simp [spec_DoorsOf.l0])
   | succ k1 =>
    have H := HA.out
    clear HA
    simp only [spec_DoorsOf.l0] at H
    by_cases c5 : x15_1 < (l1.length : Int)
    ·
     rw [if_pos c5] at H
     have c5b0 : decide (x15_1 < (l1.length : Int)) = true := decide_eq_true c5
     clear c5
     have H' := zA0 H
     clear H
     go_wp2
     go_loopg [6, 8] k1 (fun kq v6 v8 w' => ∃ (x6_2 : List (List Int)) (x8_2 : Int), v8 = .int .i64 x8_2 ∧ Aside0 (spec_DoorsOf.l1 kq a0 l1 x6_2 x15_1 x8_2 (l1.length : Int) x15_1 = some (r1, r2)) ∧ Aside0 (kq ≤ k1) ∧ Aside0 (Kd.S (Kd.slice 3 (Kd.int .i64)) 22 w' w.heap.size (fun _ => True) v6 x6_2) ∧ Aside0 (Below w.heap.size w w'))
     case atStart => exact ⟨(x6_1), (wrap64 (x15_1 + 1)), (by first | rfl | (simp; done) | (simp [*]; done) | (simp; decide) | (simp; unfold wrap64; omega)), H', ⟨Nat.le_refl _⟩, ⟨zS HO_6⟩, ⟨zB HB⟩⟩
     case round =>
      clear H'
      try clear c1
      try clear c2
      try clear p2
      try clear c4
      try clear c5
      try clear c5b0
      try clear p2
      obtain ⟨x6_2, x8_2, rfl, HA, HK2, HO_6, HB⟩ := hrel
      cases gk with
      | zero => exact absurd HA.out (by simp [spec_DoorsOf.l1])
      | succ k2 =>
       have H := HA.out
       clear HA
       simp only [spec_DoorsOf.l1] at H
       by_cases c6 : x8_2 < (l1.length : Int)
       ·
        rw [if_pos c6] at H
        have c6b0 : decide (x8_2 < (l1.length : Int)) = true := decide_eq_true c6
        clear c6
        replace H := Option.bind_eq_some_iff.mp H
        obtain ⟨t255, A70, H⟩ := H
        (try dsimp only at H)
        have A7 := zA0 A70
        clear A70
        by_cases c8 : t255 = true
        ·
         subst c8
         rw [if_pos rfl] at H
         replace H := Option.bind_eq_some_iff.mp H
         obtain ⟨t256, A90, H⟩ := H
         (try dsimp only at H)
         have A9 := zA0 A90
         clear A90
         by_cases c10 : t256 = true
         ·
          subst c10
          rw [if_pos rfl] at H
          obtain ⟨y257, hy257⟩ : ∃ y_ : List Int, y_ = (([x15_1, x8_2] : List Int)) := ⟨_, rfl⟩
          replace H : (if x6_2.length < 5864062014805 then (spec_DoorsOf.l1 k2 a0 l1 (x6_2 ++ [y257]) x15_1 (wrap64 (x8_2 + 1)) (l1.length : Int) x15_1) else (none)) = some (r1, r2) := by first | (rw [hy257]; with_reducible exact H) | (have H2_ := (Option.bind_some _ _).symm.trans H; rw [hy257]; with_reducible exact H2_) | (have H2_ := (Option.bind_some _ _).symm.trans H; with_reducible exact H2_) | with_reducible exact H | (rw [hy257]; exact H) | exact H
          have Ny257 := zA0 hy257
          clear hy257
          by_cases c11 : x6_2.length < 5864062014805
          ·
           rw [if_pos c11] at H
           have LMc11 := zA0 c11
           clear c11
           obtain ⟨y260, hy260⟩ : ∃ y_ : List (List Int), y_ = (x6_2 ++ [y257]) := ⟨_, rfl⟩
           replace H : (spec_DoorsOf.l1 k2 a0 l1 y260 x15_1 (wrap64 (x8_2 + 1)) (l1.length : Int) x15_1) = some (r1, r2) := by first | (rw [hy260]; with_reducible exact H) | (have H2_ := (Option.bind_some _ _).symm.trans H; rw [hy260]; with_reducible exact H2_) | (have H2_ := (Option.bind_some _ _).symm.trans H; with_reducible exact H2_) | with_reducible exact H | (rw [hy260]; exact H) | exact H
           have Ny260 := zA0 hy260
           clear hy260
           have H' := zA0 H
           clear H
           go_wp2_with (first | ((with_reducible refine gate_callee (f := 192) rfl ?_); refine goesL_ (some 29) rfl rfl Try.func192 (by kernel_rfl) rfl #[.int .i64 a0, .int .i64 x15_1, .int .i64 x8_2] rfl (by (try simp only [List.map_toArray, List.map_cons, List.map_nil]); first | done | rfl) ?_; (with_reducible refine (spec_meNear.calls k2 a0 x15_1 x8_2 true _ A7.out).mono ?_); rintro e w12 ⟨rfl, hb⟩; refine ⟨_, rfl, ?_⟩; have n0_ := zA0 (Kd.S_below (zS HO_6) hb); have n1_ := zA0 (below_step (zB HB) hb); replace HO_6 := n0_; replace HB := n1_; clear n0_ n1_; (try clear hb); (try clear hb2); (try clear hk); (try clear hi)) | (go_at_call 215; (with_reducible refine (spec_doDoor.calls _ _ l1 x15_1 x8_2 true _ ?side1 ?side2 A9.out).mono ?_); (case side1 => exact zC (Kd.C_below HR1.out HB.out)); (case side2 => exact HC1.out); rintro e w' ⟨rfl, ⟨nd, rfl⟩⟩) | ((with_reducible refine gate_dst (N := 39) rfl ?_); refine Kd.R_lit (Kd.int .i64) _ 3 ?hg (N := 39) ?hd (xs := ([x15_1, x8_2] : List Int)) (inner := [.int .i64 x15_1, .int .i64 x8_2]) (ok := fun _ => True) (okp := fun _ => True) ?hr ?hp (fun _ hk => hk) trivial (Below.refl _ _) (Nat.le_refl _) (by simp) ?_; (case hd => rfl); (case hg => rfl); (case hr => first | (go_simp; done) | (go_simp; rfl)); (case hp => exact (Reps.one (show Kd.M (Kd.int .i64) _ _ _ x15_1 [.int .i64 x15_1] from rfl) (Reps.one (show Kd.M (Kd.int .i64) _ _ _ x8_2 [.int .i64 x8_2] from rfl) (Reps.none _ _)))); intro v258 w13 ho14 hb hg_ hnew_; clear hg_ hnew_; (first | rw [← Ny257.out] at ho14 | (simp only [Int.reduceToNat] at ho14; rw [← Ny257.out] at ho14)); have n0_ := zA0 (Kd.S_elder' (zS HO_6) (Kd.R_base ho14) hb); have n1_ := zA0 (Kd.R_lower ho14 (below_size (zB HB))); have n2_ := zA0 (below_step (zB HB) hb); replace HO_6 := n0_; have HO259 := n1_; replace HB := n2_; clear n0_ n1_ n2_; clear hb ho14; obtain ⟨Ao16, co16, eo16⟩ := Kd.R_slice HO259.out; subst eo16) | ((with_reducible refine gate_builtin (b := .append) (xs := #[.tmp 36, .tmp 40]) rfl ?_); at_builtin; refine Kd.S_append (Kd.slice 3 (Kd.int .i64)) (w0 := w) w.heap.size rfl (.tmp 36) (.tmp 40) 23 22 (.slice none 0 0) 24 rfl Try.underlying23 info22 rfl (by decide) (by omega) u6 x6_2 y257 [.slice Ao16 y257.length co16] (fun _ => True) (fun k_ => some k_ = (.slice Ao16 y257.length co16 : Value).ownBlock) rfl rfl ?aP (fun k_ hk_ => ((Kd.R_mono (ok' := fun k_ => ((fun _ => True)) k_ ∧ some k_ ≠ (u6 : Value).ownBlock) (Kd.R_apart' (HO259.out) (Kd.S_typed HO_6.out) (by decide)) (fun k_ hk => ⟨trivial, hk.2⟩))).1 k_ hk_.symm) ?aF ?aO ?aB ?aS ?aL ?_; (case aP => exact Kd.M_row (Kd.R_mono (Kd.R_tight rfl (Kd.R_mono (ok' := fun k_ => ((fun _ => True)) k_ ∧ some k_ ≠ (u6 : Value).ownBlock) (Kd.R_apart' (HO259.out) (Kd.S_typed HO_6.out) (by decide)) (fun k_ hk => ⟨trivial, hk.2⟩))) (fun _ h_ => h_))); (case aB => exact (zB HB)); (case aF => exact (fun _ _ => trivial)); (case aO => exact (by (with_reducible repeat (first | apply zsA | apply zsN | apply zsD)); exact Kd.S_mono HO_6.out (fun k_ hk => ⟨trivial, fun e_ => hk.2 e_⟩))); (case aS => exact (below_size (zB HB))); (case aL => have := LMc11.out; omega); intro v261 w15 ho hb hg hat; rw [← Ny260.out] at ho; have n0_ := zA0 (hb); have n1_ := zA0 (ho); clear HO_6; clear HO259; replace HB := n0_; have HO262 := n1_; clear n0_ n1_; clear ho hb hg hat))
           go_roundg k2
           case measure => have := HK1.out; have := HK2.out; omega
           case rel => exact ⟨(y260), (wrap64 (x8_2 + 1)), (by first | rfl | (simp; done) | (simp [*]; done) | (simp; decide) | (simp; unfold wrap64; omega)), H', ⟨by have := HK1.out; have := HK2.out; omega⟩, ⟨zS HO262⟩, ⟨zB HB⟩⟩
          ·
           rw [if_neg c11] at H
           exact absurd H (by simp)
         ·
          replace c10 := Bool.eq_false_iff.mpr c10
          subst c10
          rw [if_neg (show ¬ (false = true) by decide)] at H
          have H' := zA0 H
          clear H
          go_wp2_with (first | ((with_reducible refine gate_callee (f := 192) rfl ?_); refine goesL_ (some 29) rfl rfl Try.func192 (by kernel_rfl) rfl #[.int .i64 a0, .int .i64 x15_1, .int .i64 x8_2] rfl (by (try simp only [List.map_toArray, List.map_cons, List.map_nil]); first | done | rfl) ?_; (with_reducible refine (spec_meNear.calls k2 a0 x15_1 x8_2 true _ A7.out).mono ?_); rintro e w17 ⟨rfl, hb⟩; refine ⟨_, rfl, ?_⟩; have n0_ := zA0 (Kd.S_below (zS HO_6) hb); have n1_ := zA0 (below_step (zB HB) hb); replace HO_6 := n0_; replace HB := n1_; clear n0_ n1_; (try clear hb); (try clear hb2); (try clear hk); (try clear hi)) | (go_at_call 215; (with_reducible refine (spec_doDoor.calls _ _ l1 x15_1 x8_2 false _ ?side1 ?side2 A9.out).mono ?_); (case side1 => exact zC (Kd.C_below HR1.out HB.out)); (case side2 => exact HC1.out); rintro e w' ⟨rfl, ⟨nd, rfl⟩⟩))
          go_roundg k2
          case measure => have := HK1.out; have := HK2.out; omega
          case rel => exact ⟨(x6_2), (wrap64 (x8_2 + 1)), (by first | rfl | (simp; done) | (simp [*]; done) | (simp; decide) | (simp; unfold wrap64; omega)), H', ⟨by have := HK1.out; have := HK2.out; omega⟩, ⟨zS HO_6⟩, ⟨zB HB⟩⟩
        ·
         replace c8 := Bool.eq_false_iff.mpr c8
         subst c8
         rw [if_neg (show ¬ (false = true) by decide)] at H
         have H' := zA0 H
         clear H
         go_wp2_with (first | ((with_reducible refine gate_callee (f := 192) rfl ?_); refine goesL_ (some 29) rfl rfl Try.func192 (by kernel_rfl) rfl #[.int .i64 a0, .int .i64 x15_1, .int .i64 x8_2] rfl (by (try simp only [List.map_toArray, List.map_cons, List.map_nil]); first | done | rfl) ?_; (with_reducible refine (spec_meNear.calls k2 a0 x15_1 x8_2 false _ A7.out).mono ?_); rintro e w18 ⟨rfl, hb⟩; refine ⟨_, rfl, ?_⟩; have n0_ := zA0 (Kd.S_below (zS HO_6) hb); have n1_ := zA0 (below_step (zB HB) hb); replace HO_6 := n0_; replace HB := n1_; clear n0_ n1_; (try clear hb); (try clear hb2); (try clear hk); (try clear hi)))
         go_roundg k2
         case measure => have := HK1.out; have := HK2.out; omega
         case rel => exact ⟨(x6_2), (wrap64 (x8_2 + 1)), (by first | rfl | (simp; done) | (simp [*]; done) | (simp; decide) | (simp; unfold wrap64; omega)), H', ⟨by have := HK1.out; have := HK2.out; omega⟩, ⟨zS HO_6⟩, ⟨zB HB⟩⟩
       ·
        rw [if_neg c6] at H
        have c6b0 : decide (x8_2 < (l1.length : Int)) = false := decide_eq_false c6
        clear c6
        have H' := zA0 H
        clear H
        go_wp2
        go_roundg k2
        case measure => have := HK1.out; have := HK2.out; omega
        case rel => exact ⟨(x6_2), (wrap64 (x15_1 + 1)), (by first | rfl | (simp; done) | (simp [*]; done) | (simp; decide) | (simp; unfold wrap64; omega)), H', ⟨by have := HK1.out; have := HK2.out; omega⟩, ⟨zS HO_6⟩, ⟨zB HB⟩⟩
    ·
     rw [if_neg c5] at H
     have c5b0 : decide (x15_1 < (l1.length : Int)) = false := decide_eq_false c5
     clear c5
     simp only [Option.some.injEq, Prod.mk.injEq] at H
     obtain ⟨rfl, rfl⟩ := H
     go_wp2
     go_ret2
     exact ⟨_, by first | rfl | (simp [errW_none, errW_some] <;> rfl) | (simp [*, errW_none, errW_some] <;> rfl), zS HO_6, zB HB⟩
 ·
  replace c4 := Bool.eq_false_iff.mpr c4
  subst c4
  rw [if_neg (show ¬ (false = true) by decide)] at H
  simp only [Option.some.injEq, Prod.mk.injEq] at H
  obtain ⟨rfl, rfl⟩ := H
  go_enter Try.func85, Try.ntmps85
  go_wp2_with (first | ((with_reducible refine gate_callee (f := 214) rfl ?_); refine goesL_ (some 11) rfl rfl Try.func214 (by kernel_rfl) rfl #[.int .i64 a0, .slice A1 l1.length c1] rfl (by (try simp only [List.map_toArray, List.map_cons, List.map_nil]); first | done | rfl) ?_; (with_reducible refine (spec_meLabels.calls k a0 _ _ l1 false _ ?side1 ?side2 A3.out).mono ?_); (case side1 => exact zC HR1.out); (case side2 => exact HC1.out); rintro e w' ⟨rfl, ⟨nd, rfl⟩⟩; refine ⟨_, rfl, ?_⟩))
  go_ret2
  exact ⟨_, by first | rfl | (simp [errW_none, errW_some] <;> rfl) | (simp [*, errW_none, errW_some] <;> rfl), by first | exact Kd.S_nil _ _ _ _ _ | exact Kd.N_nil _ _ _ _ _ | exact Kd.V_nil _ _ _ _ _ | exact Kd.Q_nil _ _ _ _ _ | exact Kd.R_nil _ _ _ _ _, zB HB⟩
def impl_BorderDoors.f (k : Nat) (a0 : Int) (l1 : List Int) : Option ((List (List Int)) × Bool) := (impl_houseOf.f k a0 l1).bind fun bt263 => (if bt263.2.2.2.2 = true then ((impl_house_entries.f k bt263.1 bt263.2.1 bt263.2.2.1 bt263.2.2.2.1).bind fun t275 => (some (t275, true))) else (some (([] : List (List Int)), false)))
set_option maxHeartbeats 8000000 in
set_option maxRecDepth 100000 in
theorem impl_BorderDoors.calls (k : Nat) (a0 : Int) (P1_ : Nat → Prop) (A1 : Option Addr) (c1 : Nat) (l1 : List Int) (r1 : List (List Int)) (r2 : Bool) (w : World) (hs1 : Kd.V (Kd.int .i64) 3 w w.heap.size (fun k_ => P1_ k_) (.slice A1 l1.length c1) l1) (h : impl_BorderDoors.f k a0 l1 = some (r1, r2)) :
  Calls Try.prog 86 #[.int .i64 a0, .slice A1 l1.length c1] w fun e w' => ∃ v0_ : Value, e = .returned (.tuple #[v0_, .bool r2]) ∧ Kd.N (Kd.slice 3 (Kd.int .i64)) 22 w' w.heap.size (fun k_ => (P1_ k_ ∨ w.heap.size ≤ k_)) v0_ r1 ∧ Below w.heap.size w w' := by
 have hu132 := Try.underlying132
 have HO1 := zA0 (show Kd.V (Kd.int .i64) 3 w w.heap.size (fun k_ => (P1_ k_ ∨ w.heap.size ≤ k_)) (.slice A1 l1.length c1) l1 from Kd.V_mono hs1 (fun k_ hk => .inl hk))
 have HB := zA0 (Below.refl w.heap.size w)
 have H : ((impl_houseOf.f k a0 l1).bind fun bt263 => (if bt263.2.2.2.2 = true then ((impl_house_entries.f k bt263.1 bt263.2.1 bt263.2.2.1 bt263.2.2.2.1).bind fun t275 => (some (t275, true))) else (some (([] : List (List Int)), false)))) = some (r1, r2) := h
 clear h
 replace H := Option.bind_eq_some_iff.mp H
 obtain ⟨⟨t263, t264, t267, t270, t273⟩, A30, H⟩ := H
 (try dsimp only at H)
 have A3 := zA0 A30
 clear A30
 by_cases c4 : t273 = true
 ·
  subst c4
  rw [if_pos rfl] at H
  replace H := Option.bind_eq_some_iff.mp H
  obtain ⟨t275, A50, H⟩ := H
  (try dsimp only at H)
  have A5 := zA0 A50
  clear A50
  simp only [Option.some.injEq, Prod.mk.injEq] at H
  obtain ⟨rfl, rfl⟩ := H
  go_enter Try.func86, Try.ntmps86
  go_wp2_with (first | ((with_reducible refine gate_callee (f := 206) rfl ?_); refine goesL_ (some 11) rfl rfl Try.func206 (by kernel_rfl) rfl #[.int .i64 a0, .slice A1 l1.length c1] rfl (by (try simp only [List.map_toArray, List.map_cons, List.map_nil]); first | done | rfl) ?_; (with_reducible refine (impl_houseOf.calls k a0 (fun k_ => (P1_ k_ ∨ w.heap.size ≤ k_)) _ _ l1 t263 t264 t267 t270 true _ ?side1 A3.out).mono ?_); (case side1 => exact HO1.out); rintro e w6 ⟨v265, v268, v271, rfl, ho0, ho1, ho2, hb⟩; refine ⟨_, rfl, ?_⟩; (try replace ho1 := Kd.S_N ho1); (try replace ho1 := Kd.S_N ho1); have n0_ := zA0 (Kd.V_mono (Kd.V_told (Kd.V_told (Kd.V_old (zV HO1) hb) (Kd.N_base ho1)) (Kd.R_base ho2)) (fun _ h_ => h_.1)); have n1_ := zA0 (Kd.V_lower (Kd.V_mono (ok' := fun k_ => (P1_ k_ ∨ w.heap.size ≤ k_) ∧ some k_ ≠ (v268 : Value).ownBlock ∧ some k_ ≠ (v271 : Value).ownBlock) ho0 (fun k_ hk_ => ⟨Or.elim hk_.1 (fun hs_ => hs_) (fun hn_ => (.inr (Nat.le_trans (below_size (zB HB)) hn_))), hk_.2.1, hk_.2.2⟩)) (below_size (zB HB))); have n2_ := zA0 (Kd.N_lower (Kd.N_mono (ok' := fun k_ => (P1_ k_ ∨ w.heap.size ≤ k_) ∧ some k_ ≠ (v271 : Value).ownBlock) ho1 (fun k_ hk_ => ⟨(by first | exact Or.elim hk_.1 (fun hs_ => hs_) (fun hn_ => (.inr (Nat.le_trans (below_size (zB HB)) hn_))) | exact (fun hn_ => (.inr (Nat.le_trans (below_size (zB HB)) hn_))) hk_.1), hk_.2⟩)) (below_size (zB HB))); have n3_ := zA0 (Kd.R_lower (Kd.R_newM (M := fun k_ => (w.heap.size ≤ k_)) (Kd.R_mono (ok' := fun k_ => True) ho2 (fun _ hk_ => trivial)) (below_size (zB HB)) (fun k_ h_ => h_)) (below_size (zB HB))); have n4_ := zA0 (below_step (zB HB) hb); replace HO1 := n0_; have HO266 := n1_; have HO269 := n2_; have HO272 := n3_; replace HB := n4_; clear n0_ n1_ n2_ n3_ n4_; (try clear hb); (try clear hb2); (try clear hk); (try clear hi); (try clear ho0); (try clear ho1); (try clear ho2)) | ((with_reducible refine gate_dst (N := 6) rfl ?_); refine box_event ?hg (N := 6) ?hd (cs := #[.int .i64 0, .slice none 0 0, .slice none 0 0, .slice none 0 0]) (t := 132) ?hr ?_; (case hd => rfl); (case hg => rfl); (case hr => first | (go_simp; done) | (go_simp; rfl)); intro gb274 hg w7 hbox hb; have n0_ := zA0 (Kd.V_below (Kd.V_elderB (zV HO1) gb274 (Nat.le_of_eq hg.symm)) hb); have n1_ := zA0 (Kd.V_below (Kd.V_elderB (zV HO266) gb274 (Nat.le_of_eq hg.symm)) hb); have n2_ := zA0 (Kd.N_below (Kd.N_elderB (zN HO269) gb274 (Nat.le_of_eq hg.symm)) hb); have n3_ := zA0 (Kd.R_below (zR HO272) hb); have n4_ := zA0 (below_step (zB HB) hb); have n5_ := zA0 (hbox); have n6_ := zA0 ((by rw [hg]; exact (below_size (zB HB)) : w.heap.size ≤ gb274)); have n7_ := zA0 ((by rw [hg]; exact (below_size (zB HB)) : w.heap.size ≤ gb274)); replace HO1 := n0_; replace HO266 := n1_; replace HO269 := n2_; replace HO272 := n3_; replace HB := n4_; have BK274 := n5_; have GW274 := n6_; have GE274 := n7_; clear n0_ n1_ n2_ n3_ n4_ n5_ n6_ n7_; clear hb hbox hg; have hcz8_0 : w7.cell? ⟨gb274, 0, none⟩ = some (.int .i64 0) := (blk_cell BK274.out 0).trans rfl; have hcz8_1 : w7.cell? ⟨gb274, 1, none⟩ = some (.slice none 0 0) := (blk_cell BK274.out 1).trans rfl; have hcz8_2 : w7.cell? ⟨gb274, 2, none⟩ = some (.slice none 0 0) := (blk_cell BK274.out 2).trans rfl; have hcz8_3 : w7.cell? ⟨gb274, 3, none⟩ = some (.slice none 0 0) := (blk_cell BK274.out 3).trans rfl; have hfz8_0 := blk_frozen BK274.out 0; have hfz8_1 := blk_frozen BK274.out 1; have hfz8_2 := blk_frozen BK274.out 2; have hfz8_3 := blk_frozen BK274.out 3; obtain ⟨Ao9, co9, eo9⟩ := Kd.V_slice HO266.out; subst eo9; obtain ⟨Ao10, co10, eo10⟩ := Kd.N_slice HO269.out; subst eo10; obtain ⟨Ao11, co11, eo11⟩ := Kd.R_slice HO272.out; subst eo11) | ((with_reducible refine gate_callee (f := 216) rfl ?_); refine goesL_ (some 17) rfl rfl Try.func216 (by kernel_rfl) rfl #[.agg #[.int .i64 t263, .slice Ao9 t264.length co9, .slice Ao10 t267.length co10, .slice Ao11 t270.length co11]] rfl (by (try simp only [List.map_toArray, List.map_cons, List.map_nil]); first | done | rfl) ?_; (with_reducible refine (impl_house_entries.calls k t263 _ _ t264 _ _ t267 _ _ t270 t275 _ ?side1 ?side2 ?side3 ?side4 ?side5 ?side6 A5.out).mono ?_); (case side1 => refine (Kd.V_reads' (e := 3) (base := w.heap.size) (ok := fun k_ => (((P1_ k_ ∨ w.heap.size ≤ k_) ∧ (some k_ ≠ (.slice Ao10 t267.length co10 : Value).ownBlock ∧ some k_ ≠ (.slice Ao11 t270.length co11 : Value).ownBlock)) ∧ k_ ≠ gb274)) (n := t264.length) (c := co9) ?_).2.2; exact (by (with_reducible repeat (first | apply Kd.V_alloc | apply Kd.V_drewN | apply Kd.V_drew)); exact (Kd.V_mono (Kd.V_far (p := ⟨gb274, 3, none⟩) (Kd.V_far (p := ⟨gb274, 2, none⟩) (Kd.V_far (p := ⟨gb274, 1, none⟩) (Kd.V_far (p := ⟨gb274, 0, none⟩) (Kd.V_mono HO266.out (fun k_ hk => (⟨hk, hk.2⟩ : _ ∧ k_ ≠ gb274))) (fun _ hk => hk.2) (.int .i64 t263)) (fun _ hk => hk.2) (.slice Ao9 t264.length co9)) (fun _ hk => hk.2) (.slice Ao10 t267.length co10)) (fun _ hk => hk.2) (.slice Ao11 t270.length co11)) (fun _ h_ => h_.1)))); (case side2 => exact (Kd.V_reads' HO266.out).2.1); (case side3 => refine (Kd.N_reads' (e := 22) (base := w.heap.size) (ok := fun k_ => (((P1_ k_ ∨ w.heap.size ≤ k_) ∧ some k_ ≠ (.slice Ao11 t270.length co11 : Value).ownBlock) ∧ k_ ≠ gb274)) (n := t267.length) (c := co10) ?_).2.2; exact (by (with_reducible repeat (first | apply znA | apply znN | apply znD)); exact (Kd.N_mono (Kd.N_far (p := ⟨gb274, 3, none⟩) (Kd.N_far (p := ⟨gb274, 2, none⟩) (Kd.N_far (p := ⟨gb274, 1, none⟩) (Kd.N_far (p := ⟨gb274, 0, none⟩) (Kd.N_mono HO269.out (fun k_ hk => (⟨hk, hk.2⟩ : _ ∧ k_ ≠ gb274))) (fun _ hk => hk.2) (.int .i64 t263)) (fun _ hk => hk.2) (.slice Ao9 t264.length co9)) (fun _ hk => hk.2) (.slice Ao10 t267.length co10)) (fun _ hk => hk.2) (.slice Ao11 t270.length co11)) (fun _ h_ => h_.1)))); (case side4 => exact (Kd.N_reads' HO269.out).2.1); (case side5 => refine (Kd.R_reads' (e := 3) (base := w.heap.size) (ok := fun k_ => ((w.heap.size ≤ k_) ∧ True)) (n := t270.length) (c := co11) ?_).2.2; exact (by (with_reducible repeat (first | apply zrA | apply zrN | apply zrD)); exact (Kd.R_mono (Kd.R_far (p := ⟨gb274, 3, none⟩) (Kd.R_far (p := ⟨gb274, 2, none⟩) (Kd.R_far (p := ⟨gb274, 1, none⟩) (Kd.R_far (p := ⟨gb274, 0, none⟩) (Kd.R_types HO272.out BK274.out (by decide)) (fun _ hk => hk.2) (.int .i64 t263)) (fun _ hk => hk.2) (.slice Ao9 t264.length co9)) (fun _ hk => hk.2) (.slice Ao10 t267.length co10)) (fun _ hk => hk.2) (.slice Ao11 t270.length co11)) (fun _ h_ => h_.1)))); (case side6 => exact (Kd.R_reads' HO272.out).2.1); rintro e w12 ⟨v276, rfl, ho0, hb⟩; refine ⟨_, rfl, ?_⟩; (try replace ho0 := Kd.S_N ho0); (try replace ho0 := Kd.S_N ho0); have n0_ := zA0 (Kd.V_elder' (by (with_reducible repeat (first | apply Kd.V_alloc | apply Kd.V_drewN | apply Kd.V_drew)); exact (Kd.V_mono (Kd.V_far (p := ⟨gb274, 3, none⟩) (Kd.V_far (p := ⟨gb274, 2, none⟩) (Kd.V_far (p := ⟨gb274, 1, none⟩) (Kd.V_far (p := ⟨gb274, 0, none⟩) (Kd.V_mono HO1.out (fun k_ hk => (⟨hk, hk.2⟩ : _ ∧ k_ ≠ gb274))) (fun _ hk => hk.2) (.int .i64 t263)) (fun _ hk => hk.2) (.slice Ao9 t264.length co9)) (fun _ hk => hk.2) (.slice Ao10 t267.length co10)) (fun _ hk => hk.2) (.slice Ao11 t270.length co11)) (fun _ h_ => h_.1))) (Kd.N_base ho0) hb); have n1_ := zA0 (Kd.V_elder' (by (with_reducible repeat (first | apply Kd.V_alloc | apply Kd.V_drewN | apply Kd.V_drew)); exact (Kd.V_mono (Kd.V_far (p := ⟨gb274, 3, none⟩) (Kd.V_far (p := ⟨gb274, 2, none⟩) (Kd.V_far (p := ⟨gb274, 1, none⟩) (Kd.V_far (p := ⟨gb274, 0, none⟩) (Kd.V_mono HO266.out (fun k_ hk => (⟨hk, hk.2⟩ : _ ∧ k_ ≠ gb274))) (fun _ hk => hk.2) (.int .i64 t263)) (fun _ hk => hk.2) (.slice Ao9 t264.length co9)) (fun _ hk => hk.2) (.slice Ao10 t267.length co10)) (fun _ hk => hk.2) (.slice Ao11 t270.length co11)) (fun _ h_ => h_.1))) (Kd.N_base ho0) hb); have n2_ := zA0 (Kd.N_elder' (by (with_reducible repeat (first | apply znA | apply znN | apply znD)); exact (Kd.N_mono (Kd.N_far (p := ⟨gb274, 3, none⟩) (Kd.N_far (p := ⟨gb274, 2, none⟩) (Kd.N_far (p := ⟨gb274, 1, none⟩) (Kd.N_far (p := ⟨gb274, 0, none⟩) (Kd.N_mono HO269.out (fun k_ hk => (⟨hk, hk.2⟩ : _ ∧ k_ ≠ gb274))) (fun _ hk => hk.2) (.int .i64 t263)) (fun _ hk => hk.2) (.slice Ao9 t264.length co9)) (fun _ hk => hk.2) (.slice Ao10 t267.length co10)) (fun _ hk => hk.2) (.slice Ao11 t270.length co11)) (fun _ h_ => h_.1))) (Kd.N_base ho0) hb); have n3_ := zA0 (Kd.R_below (by (with_reducible repeat (first | apply zrA | apply zrN | apply zrD)); exact (Kd.R_mono (Kd.R_far (p := ⟨gb274, 3, none⟩) (Kd.R_far (p := ⟨gb274, 2, none⟩) (Kd.R_far (p := ⟨gb274, 1, none⟩) (Kd.R_far (p := ⟨gb274, 0, none⟩) (Kd.R_types HO272.out BK274.out (by decide)) (fun _ hk => hk.2) (.int .i64 t263)) (fun _ hk => hk.2) (.slice Ao9 t264.length co9)) (fun _ hk => hk.2) (.slice Ao10 t267.length co10)) (fun _ hk => hk.2) (.slice Ao11 t270.length co11)) (fun _ h_ => h_.1))) hb); have n4_ := zA0 (Kd.N_lower (Kd.N_mono (ok' := fun k_ => (P1_ k_ ∨ w.heap.size ≤ k_) ∧ some k_ ≠ (.slice Ao10 t267.length co10 : Value).ownBlock ∧ some k_ ≠ (.slice Ao11 t270.length co11 : Value).ownBlock ∧ k_ ≠ gb274) ho0 (fun k_ hk_ => ⟨(.inr (Nat.le_trans (below_size (by repeat (first | (with_reducible first | exact HB.out | apply zpA | apply zpN | apply zpD | refine below_set ?_ GE274.out) | exact HB.out))) hk_)), (Kd.fresh' (Kd.N_lt (by (with_reducible repeat (first | apply znA | apply znN | apply znD)); exact (Kd.N_mono (Kd.N_far (p := ⟨gb274, 3, none⟩) (Kd.N_far (p := ⟨gb274, 2, none⟩) (Kd.N_far (p := ⟨gb274, 1, none⟩) (Kd.N_far (p := ⟨gb274, 0, none⟩) (Kd.N_mono HO269.out (fun k_ hk => (⟨hk, hk.2⟩ : _ ∧ k_ ≠ gb274))) (fun _ hk => hk.2) (.int .i64 t263)) (fun _ hk => hk.2) (.slice Ao9 t264.length co9)) (fun _ hk => hk.2) (.slice Ao10 t267.length co10)) (fun _ hk => hk.2) (.slice Ao11 t270.length co11)) (fun _ h_ => h_.1)))) k_ hk_), (Kd.fresh' (Kd.R_lt (by (with_reducible repeat (first | apply zrA | apply zrN | apply zrD)); exact (Kd.R_mono (Kd.R_far (p := ⟨gb274, 3, none⟩) (Kd.R_far (p := ⟨gb274, 2, none⟩) (Kd.R_far (p := ⟨gb274, 1, none⟩) (Kd.R_far (p := ⟨gb274, 0, none⟩) (Kd.R_types HO272.out BK274.out (by decide)) (fun _ hk => hk.2) (.int .i64 t263)) (fun _ hk => hk.2) (.slice Ao9 t264.length co9)) (fun _ hk => hk.2) (.slice Ao10 t267.length co10)) (fun _ hk => hk.2) (.slice Ao11 t270.length co11)) (fun _ h_ => h_.1)))) k_ hk_), (Kd.freshB (g := gb274) (o := .cells #[.int .i64 t263, .slice Ao9 t264.length co9, .slice Ao10 t267.length co10, .slice Ao11 t270.length co11] 132 (0, 0)) (by (with_reducible repeat (first | refine blk_drewN ?_ _ | refine blk_drew ?_ | refine blk_alloc ?_ _)); refine blk_put (cs := #[.int .i64 t263, .slice Ao9 t264.length co9, .slice Ao10 t267.length co10, .slice none 0 0]) ?_ 3 _ rfl; (with_reducible repeat (first | refine blk_drewN ?_ _ | refine blk_drew ?_ | refine blk_alloc ?_ _)); refine blk_put (cs := #[.int .i64 t263, .slice Ao9 t264.length co9, .slice none 0 0, .slice none 0 0]) ?_ 2 _ rfl; (with_reducible repeat (first | refine blk_drewN ?_ _ | refine blk_drew ?_ | refine blk_alloc ?_ _)); refine blk_put (cs := #[.int .i64 t263, .slice none 0 0, .slice none 0 0, .slice none 0 0]) ?_ 1 _ rfl; (with_reducible repeat (first | refine blk_drewN ?_ _ | refine blk_drew ?_ | refine blk_alloc ?_ _)); refine blk_put (cs := #[.int .i64 0, .slice none 0 0, .slice none 0 0, .slice none 0 0]) ?_ 0 _ rfl; (with_reducible repeat (first | refine blk_drewN ?_ _ | refine blk_drew ?_ | refine blk_alloc ?_ _)); exact BK274.out) k_ hk_)⟩)) (below_size (by repeat (first | (with_reducible first | exact HB.out | apply zpA | apply zpN | apply zpD | refine below_set ?_ GE274.out) | exact HB.out)))); have n5_ := zA0 (blk_below (g := gb274) (o := .cells #[.int .i64 t263, .slice Ao9 t264.length co9, .slice Ao10 t267.length co10, .slice Ao11 t270.length co11] 132 (0, 0)) (by (with_reducible repeat (first | refine blk_drewN ?_ _ | refine blk_drew ?_ | refine blk_alloc ?_ _)); refine blk_put (cs := #[.int .i64 t263, .slice Ao9 t264.length co9, .slice Ao10 t267.length co10, .slice none 0 0]) ?_ 3 _ rfl; (with_reducible repeat (first | refine blk_drewN ?_ _ | refine blk_drew ?_ | refine blk_alloc ?_ _)); refine blk_put (cs := #[.int .i64 t263, .slice Ao9 t264.length co9, .slice none 0 0, .slice none 0 0]) ?_ 2 _ rfl; (with_reducible repeat (first | refine blk_drewN ?_ _ | refine blk_drew ?_ | refine blk_alloc ?_ _)); refine blk_put (cs := #[.int .i64 t263, .slice none 0 0, .slice none 0 0, .slice none 0 0]) ?_ 1 _ rfl; (with_reducible repeat (first | refine blk_drewN ?_ _ | refine blk_drew ?_ | refine blk_alloc ?_ _)); refine blk_put (cs := #[.int .i64 0, .slice none 0 0, .slice none 0 0, .slice none 0 0]) ?_ 0 _ rfl; (with_reducible repeat (first | refine blk_drewN ?_ _ | refine blk_drew ?_ | refine blk_alloc ?_ _)); exact BK274.out) hb); have n6_ := zA0 (below_step (by repeat (first | (with_reducible first | exact HB.out | apply zpA | apply zpN | apply zpD | refine below_set ?_ GE274.out) | exact HB.out)) hb); replace HO1 := n0_; replace HO266 := n1_; replace HO269 := n2_; replace HO272 := n3_; have HO277 := n4_; replace BK274 := n5_; replace HB := n6_; clear n0_ n1_ n2_ n3_ n4_ n5_ n6_; (try clear hb); (try clear hb2); (try clear hk); (try clear hi); (try clear ho0)))
  go_ret2
  exact ⟨_, by first | rfl | (simp [errW_none, errW_some] <;> rfl) | (simp [*, errW_none, errW_some] <;> rfl), by (with_reducible repeat (first | apply znA | apply znN | apply znD)); exact Kd.N_mono HO277.out (fun _ hk => hk.1), by repeat (first | (with_reducible first | exact HB.out | apply zpA | apply zpN | apply zpD | refine below_set ?_ GE274.out) | exact HB.out)⟩
 ·
  replace c4 := Bool.eq_false_iff.mpr c4
  subst c4
  rw [if_neg (show ¬ (false = true) by decide)] at H
  simp only [Option.some.injEq, Prod.mk.injEq] at H
  obtain ⟨rfl, rfl⟩ := H
  go_enter Try.func86, Try.ntmps86
  go_wp2_with (first | ((with_reducible refine gate_callee (f := 206) rfl ?_); refine goesL_ (some 11) rfl rfl Try.func206 (by kernel_rfl) rfl #[.int .i64 a0, .slice A1 l1.length c1] rfl (by (try simp only [List.map_toArray, List.map_cons, List.map_nil]); first | done | rfl) ?_; (with_reducible refine (impl_houseOf.calls k a0 (fun k_ => (P1_ k_ ∨ w.heap.size ≤ k_)) _ _ l1 t263 t264 t267 t270 false _ ?side1 A3.out).mono ?_); (case side1 => exact HO1.out); rintro e w13 ⟨v265, v268, v271, rfl, ho0, ho1, ho2, hb⟩; refine ⟨_, rfl, ?_⟩; (try replace ho1 := Kd.S_N ho1); (try replace ho1 := Kd.S_N ho1); have n0_ := zA0 (Kd.V_mono (Kd.V_told (Kd.V_told (Kd.V_old (zV HO1) hb) (Kd.N_base ho1)) (Kd.R_base ho2)) (fun _ h_ => h_.1)); have n1_ := zA0 (Kd.V_lower (Kd.V_mono (ok' := fun k_ => (P1_ k_ ∨ w.heap.size ≤ k_) ∧ some k_ ≠ (v268 : Value).ownBlock ∧ some k_ ≠ (v271 : Value).ownBlock) ho0 (fun k_ hk_ => ⟨Or.elim hk_.1 (fun hs_ => hs_) (fun hn_ => (.inr (Nat.le_trans (below_size (zB HB)) hn_))), hk_.2.1, hk_.2.2⟩)) (below_size (zB HB))); have n2_ := zA0 (Kd.N_lower (Kd.N_mono (ok' := fun k_ => (P1_ k_ ∨ w.heap.size ≤ k_) ∧ some k_ ≠ (v271 : Value).ownBlock) ho1 (fun k_ hk_ => ⟨(by first | exact Or.elim hk_.1 (fun hs_ => hs_) (fun hn_ => (.inr (Nat.le_trans (below_size (zB HB)) hn_))) | exact (fun hn_ => (.inr (Nat.le_trans (below_size (zB HB)) hn_))) hk_.1), hk_.2⟩)) (below_size (zB HB))); have n3_ := zA0 (Kd.R_lower (Kd.R_newM (M := fun k_ => (w.heap.size ≤ k_)) (Kd.R_mono (ok' := fun k_ => True) ho2 (fun _ hk_ => trivial)) (below_size (zB HB)) (fun k_ h_ => h_)) (below_size (zB HB))); have n4_ := zA0 (below_step (zB HB) hb); replace HO1 := n0_; have HO266 := n1_; have HO269 := n2_; have HO272 := n3_; replace HB := n4_; clear n0_ n1_ n2_ n3_ n4_; (try clear hb); (try clear hb2); (try clear hk); (try clear hi); (try clear ho0); (try clear ho1); (try clear ho2)) | ((with_reducible refine gate_dst (N := 6) rfl ?_); refine box_event ?hg (N := 6) ?hd (cs := #[.int .i64 0, .slice none 0 0, .slice none 0 0, .slice none 0 0]) (t := 132) ?hr ?_; (case hd => rfl); (case hg => rfl); (case hr => first | (go_simp; done) | (go_simp; rfl)); intro gb274 hg w14 hbox hb; have n0_ := zA0 (Kd.V_below (Kd.V_elderB (zV HO1) gb274 (Nat.le_of_eq hg.symm)) hb); have n1_ := zA0 (Kd.V_below (Kd.V_elderB (zV HO266) gb274 (Nat.le_of_eq hg.symm)) hb); have n2_ := zA0 (Kd.N_below (Kd.N_elderB (zN HO269) gb274 (Nat.le_of_eq hg.symm)) hb); have n3_ := zA0 (Kd.R_below (zR HO272) hb); have n4_ := zA0 (below_step (zB HB) hb); have n5_ := zA0 (hbox); have n6_ := zA0 ((by rw [hg]; exact (below_size (zB HB)) : w.heap.size ≤ gb274)); have n7_ := zA0 ((by rw [hg]; exact (below_size (zB HB)) : w.heap.size ≤ gb274)); replace HO1 := n0_; replace HO266 := n1_; replace HO269 := n2_; replace HO272 := n3_; replace HB := n4_; have BK274 := n5_; have GW274 := n6_; have GE274 := n7_; clear n0_ n1_ n2_ n3_ n4_ n5_ n6_ n7_; clear hb hbox hg; have hcz15_0 : w14.cell? ⟨gb274, 0, none⟩ = some (.int .i64 0) := (blk_cell BK274.out 0).trans rfl; have hcz15_1 : w14.cell? ⟨gb274, 1, none⟩ = some (.slice none 0 0) := (blk_cell BK274.out 1).trans rfl; have hcz15_2 : w14.cell? ⟨gb274, 2, none⟩ = some (.slice none 0 0) := (blk_cell BK274.out 2).trans rfl; have hcz15_3 : w14.cell? ⟨gb274, 3, none⟩ = some (.slice none 0 0) := (blk_cell BK274.out 3).trans rfl; have hfz15_0 := blk_frozen BK274.out 0; have hfz15_1 := blk_frozen BK274.out 1; have hfz15_2 := blk_frozen BK274.out 2; have hfz15_3 := blk_frozen BK274.out 3; obtain ⟨Ao16, co16, eo16⟩ := Kd.V_slice HO266.out; subst eo16; obtain ⟨Ao17, co17, eo17⟩ := Kd.N_slice HO269.out; subst eo17; obtain ⟨Ao18, co18, eo18⟩ := Kd.R_slice HO272.out; subst eo18))
  go_ret2
  exact ⟨_, by first | rfl | (simp [errW_none, errW_some] <;> rfl) | (simp [*, errW_none, errW_some] <;> rfl), by first | exact Kd.S_nil _ _ _ _ _ | exact Kd.N_nil _ _ _ _ _ | exact Kd.V_nil _ _ _ _ _ | exact Kd.Q_nil _ _ _ _ _ | exact Kd.R_nil _ _ _ _ _, by repeat (first | (with_reducible first | exact HB.out | apply zpA | apply zpN | apply zpD | refine below_set ?_ GE274.out) | exact HB.out)⟩
mutual
def spec_meBorder.l0 : Nat → Int → List Int → Int → Option (List Int)
  | 0, _, _, _ => none
  | k + 1, x0, x3, x4 => if x4 < x0 then ((spec_meIndex.f x0 (([wrap64 (x0 - x4), x4, 0] : List Int))).bind fun t281 => (if x3.length < 17592186044416 then (spec_meBorder.l0 k x0 (x3 ++ [t281]) (wrap64 (x4 + 1))) else (none))) else (spec_meBorder.l1 k x0 x3 0)
def spec_meBorder.l1 : Nat → Int → List Int → Int → Option (List Int)
  | 0, _, _, _ => none
  | k + 1, x0, x3, x5 => if x5 < x0 then ((spec_meIndex.f x0 (([0, wrap64 (x0 - x5), x5] : List Int))).bind fun t288 => (if x3.length < 17592186044416 then (spec_meBorder.l1 k x0 (x3 ++ [t288]) (wrap64 (x5 + 1))) else (none))) else (spec_meBorder.l2 k x0 x3 0)
def spec_meBorder.l2 : Nat → Int → List Int → Int → Option (List Int)
  | 0, _, _, _ => none
  | k + 1, x0, x3, x6 => if x6 < x0 then ((spec_meIndex.f x0 (([x6, 0, wrap64 (x0 - x6)] : List Int))).bind fun t295 => (if x3.length < 17592186044416 then (spec_meBorder.l2 k x0 (x3 ++ [t295]) (wrap64 (x6 + 1))) else (none))) else (some x3)
end
def spec_meBorder.f (k : Nat) (a0 : Int) : Option (List Int) := spec_meBorder.l0 k a0 ([] : List Int) 0
theorem spec_meBorder.mono_l : ∀ k, (∀ y0 y1 y2, LeO (spec_meBorder.l0 k y0 y1 y2) (spec_meBorder.l0 (k + 1) y0 y1 y2)) ∧ (∀ y0 y1 y2, LeO (spec_meBorder.l1 k y0 y1 y2) (spec_meBorder.l1 (k + 1) y0 y1 y2)) ∧ (∀ y0 y1 y2, LeO (spec_meBorder.l2 k y0 y1 y2) (spec_meBorder.l2 (k + 1) y0 y1 y2))
 | 0 => ⟨fun _ _ _ r h => by simp [spec_meBorder.l0] at h, fun _ _ _ r h => by simp [spec_meBorder.l1] at h, fun _ _ _ r h => by simp [spec_meBorder.l2] at h⟩
 | k + 1 => by
  obtain ⟨ih0, ih1, ih2⟩ := spec_meBorder.mono_l k
  refine ⟨?_, ?_, ?_⟩
  ·
   intro y0 y1 y2
   unfold spec_meBorder.l0
   repeat' first
   | (with_reducible exact ih0 _ _ _)
   | (with_reducible exact ih1 _ _ _)
   | (with_reducible exact ih2 _ _ _)
   | (with_reducible exact LeO.refl _)
   | (with_reducible exact LeO.none _)
   | (with_reducible refine LeO.ite ?_ ?_)
   | (with_reducible refine LeO.bind ?_ (fun _ => ?_))
   | exact ih0 _ _ _
   | exact ih1 _ _ _
   | exact ih2 _ _ _
   | exact LeO.none _
   | refine LeO.ite ?_ ?_
   | refine LeO.bind ?_ (fun _ => ?_)
  ·
   intro y0 y1 y2
   unfold spec_meBorder.l1
   repeat' first
   | (with_reducible exact ih0 _ _ _)
   | (with_reducible exact ih1 _ _ _)
   | (with_reducible exact ih2 _ _ _)
   | (with_reducible exact LeO.refl _)
   | (with_reducible exact LeO.none _)
   | (with_reducible refine LeO.ite ?_ ?_)
   | (with_reducible refine LeO.bind ?_ (fun _ => ?_))
   | exact ih0 _ _ _
   | exact ih1 _ _ _
   | exact ih2 _ _ _
   | exact LeO.none _
   | refine LeO.ite ?_ ?_
   | refine LeO.bind ?_ (fun _ => ?_)
  ·
   intro y0 y1 y2
   unfold spec_meBorder.l2
   repeat' first
   | (with_reducible exact ih0 _ _ _)
   | (with_reducible exact ih1 _ _ _)
   | (with_reducible exact ih2 _ _ _)
   | (with_reducible exact LeO.refl _)
   | (with_reducible exact LeO.none _)
   | (with_reducible refine LeO.ite ?_ ?_)
   | (with_reducible refine LeO.bind ?_ (fun _ => ?_))
   | exact ih0 _ _ _
   | exact ih1 _ _ _
   | exact ih2 _ _ _
   | exact LeO.none _
   | refine LeO.ite ?_ ?_
   | refine LeO.bind ?_ (fun _ => ?_)
theorem spec_meBorder.mono : ∀ a0 k, LeO (spec_meBorder.f k a0) (spec_meBorder.f (k + 1) a0) := by
 intro a0 k
 obtain ⟨ih0, ih1, ih2⟩ := spec_meBorder.mono_l k
 unfold spec_meBorder.f
 repeat' first
   | (with_reducible exact ih0 _ _ _)
   | (with_reducible exact ih1 _ _ _)
   | (with_reducible exact ih2 _ _ _)
   | (with_reducible exact LeO.refl _)
   | (with_reducible exact LeO.none _)
   | (with_reducible refine LeO.ite ?_ ?_)
   | (with_reducible refine LeO.bind ?_ (fun _ => ?_))
   | exact ih0 _ _ _
   | exact ih1 _ _ _
   | exact ih2 _ _ _
   | exact LeO.none _
   | refine LeO.ite ?_ ?_
   | refine LeO.bind ?_ (fun _ => ?_)
set_option maxHeartbeats 8000000 in
set_option maxRecDepth 100000 in
theorem spec_meBorder.calls (k : Nat) (a0 : Int) (r : List Int) (w : World) (h : spec_meBorder.f k a0 = some r) :
  Calls Try.prog 300 #[.int .i64 a0] w fun e w' => ∃ v0_ : Value, e = .returned (v0_) ∧ Kd.R (Kd.int .i64) 3 w' w.heap.size (fun _ => True) v0_ r ∧ Below w.heap.size w w' := by
 have HB := zA0 (Below.refl w.heap.size w)
 have H : (spec_meBorder.l0 k a0 ([] : List Int) 0) = some r := h
 clear h
 have H' := zA0 H
 clear H
 go_enter Try.func300, Try.ntmps300
 go_wp2
 go_loopg [3, 4] k (fun kq v3 v4 w' => ∃ (x3_1 : List Int) (x4_1 : Int), v4 = .int .i64 x4_1 ∧ Aside0 (spec_meBorder.l0 kq a0 x3_1 x4_1 = some r) ∧ Aside0 (kq ≤ k) ∧ Aside0 (Kd.R (Kd.int .i64) 3 w' w.heap.size (fun _ => True) v3 x3_1) ∧ Aside0 (Below w.heap.size w w'))
 case atStart => exact ⟨(([] : List Int)), (0), (by first | rfl | (simp; done) | (simp [*]; done) | (simp; decide) | (simp; unfold wrap64; omega)), H', ⟨Nat.le_refl _⟩, ⟨by first | exact Kd.R_nil _ _ _ _ _ | exact Kd.N_nil _ _ _ _ _ | exact Kd.V_nil _ _ _ _ _ | exact Kd.Q_nil _ _ _ _ _ | exact Kd.S_nil _ _ _ _ _⟩, ⟨zB HB⟩⟩
 case round =>
  clear H'
  obtain ⟨x3_1, x4_1, rfl, HA, HK1, HO_3, HB⟩ := hrel
  cases gk with
  | zero => exact absurd HA.out (by simp [spec_meBorder.l0])
  | succ k1 =>
   have H := HA.out
   clear HA
   simp only [spec_meBorder.l0] at H
   by_cases c2 : x4_1 < a0
   ·
    rw [if_pos c2] at H
    have c2b0 : decide (x4_1 < a0) = true := decide_eq_true c2
    clear c2
    obtain ⟨y278, hy278⟩ : ∃ y_ : List Int, y_ = (([wrap64 (a0 - x4_1), x4_1, 0] : List Int)) := ⟨_, rfl⟩
    replace H : ((spec_meIndex.f a0 y278).bind fun t281 => (if x3_1.length < 17592186044416 then (spec_meBorder.l0 k1 a0 (x3_1 ++ [t281]) (wrap64 (x4_1 + 1))) else (none))) = some r := by first | (rw [hy278]; with_reducible exact H) | (have H2_ := (Option.bind_some _ _).symm.trans H; rw [hy278]; with_reducible exact H2_) | (have H2_ := (Option.bind_some _ _).symm.trans H; with_reducible exact H2_) | with_reducible exact H | (rw [hy278]; exact H) | exact H
    have Ny278 := zA0 hy278
    clear hy278
    replace H := Option.bind_eq_some_iff.mp H
    obtain ⟨t281, A30, H⟩ := H
    (try dsimp only at H)
    have A3 := zA0 A30
    clear A30
    by_cases c4 : x3_1.length < 17592186044416
    ·
     rw [if_pos c4] at H
     have LMc4 := zA0 c4
     clear c4
     obtain ⟨y282, hy282⟩ : ∃ y_ : List Int, y_ = (x3_1 ++ [t281]) := ⟨_, rfl⟩
     replace H : (spec_meBorder.l0 k1 a0 y282 (wrap64 (x4_1 + 1))) = some r := by first | (rw [hy282]; with_reducible exact H) | (have H2_ := (Option.bind_some _ _).symm.trans H; rw [hy282]; with_reducible exact H2_) | (have H2_ := (Option.bind_some _ _).symm.trans H; with_reducible exact H2_) | with_reducible exact H | (rw [hy282]; exact H) | exact H
     have Ny282 := zA0 hy282
     clear hy282
     have H' := zA0 H
     clear H
     go_wp2_with (first | ((with_reducible refine gate_dst (N := 18) rfl ?_); refine Kd.R_lit (Kd.int .i64) _ 3 ?hg (N := 18) ?hd (xs := ([wrap64 (a0 - x4_1), x4_1, 0] : List Int)) (inner := [.int .i64 (wrap64 (a0 - x4_1)), .int .i64 x4_1, .int .i64 0]) (ok := fun _ => True) (okp := fun _ => True) ?hr ?hp (fun _ hk => hk) trivial (Below.refl _ _) (Nat.le_refl _) (by simp) ?_; (case hd => rfl); (case hg => rfl); (case hr => first | (go_simp; done) | (go_simp; rfl)); (case hp => exact (Reps.one (show Kd.M (Kd.int .i64) _ _ _ (wrap64 (a0 - x4_1)) [.int .i64 (wrap64 (a0 - x4_1))] from rfl) (Reps.one (show Kd.M (Kd.int .i64) _ _ _ x4_1 [.int .i64 x4_1] from rfl) (Reps.one (show Kd.M (Kd.int .i64) _ _ _ 0 [.int .i64 0] from rfl) (Reps.none _ _))))); intro v279 w5 ho6 hb hg_ hnew_; clear hg_ hnew_; (first | rw [← Ny278.out] at ho6 | (simp only [Int.reduceToNat] at ho6; rw [← Ny278.out] at ho6)); have n0_ := zA0 (Kd.R_elder' (zR HO_3) (Kd.R_base ho6) hb); have n1_ := zA0 (Kd.R_lower (Kd.R_new' ho6 (Kd.R_lt (zR HO_3))) (below_size (zB HB))); have n2_ := zA0 (below_step (zB HB) hb); replace HO_3 := n0_; have HO280 := n1_; replace HB := n2_; clear n0_ n1_ n2_; clear hb ho6; obtain ⟨Ao7, co7, eo7⟩ := Kd.R_slice HO280.out; subst eo7) | ((with_reducible refine gate_callee (f := 199) rfl ?_); refine goesL_ (some 19) rfl rfl Try.func199 (by kernel_rfl) rfl #[.int .i64 a0, .slice Ao7 y278.length co7] rfl (by (try simp only [List.map_toArray, List.map_cons, List.map_nil]); first | done | rfl) ?_; (with_reducible refine (spec_meIndex.calls a0 _ _ y278 t281 _ ?side1 ?side2 A3.out).mono ?_); (case side1 => exact zC (Kd.R_reads' HO280.out).2.2); (case side2 => exact (Kd.R_reads' HO280.out).2.1); rintro e w' ⟨rfl, ⟨nd, rfl⟩⟩; refine ⟨_, rfl, ?_⟩) | ((with_reducible refine gate_builtin (b := .append) (xs := #[.tmp 12, .tmp 20]) rfl ?_); at_builtin; refine Kd.R_append (Kd.int .i64) (w0 := w) w.heap.size rfl (.tmp 12) (.tmp 20) 22 3 (.int .i64 0) 8 rfl Try.underlying22 info3 rfl (by decide) (by omega) u3 x3_1 t281 [.int .i64 t281] (fun k_ => some k_ ≠ (.slice Ao7 y278.length co7 : Value).ownBlock) (fun _ => False) rfl rfl ?aP (fun _ hk => hk.elim) ?aF ?aO ?aB ?aS ?aL ?_; (case aP => exact rfl); (case aB => exact (zB HB)); (case aF => exact (fun k_ hk => Kd.fresh' (Kd.R_lt (zR HO280)) k_ hk)); (case aO => exact (by (with_reducible repeat (first | apply zrA | apply zrN | apply zrD)); exact Kd.R_mono HO_3.out (fun _ hk => hk.2))); (case aS => exact (below_size (zB HB))); (case aL => have := LMc4.out; omega); intro v283 w8 ho hb hg hat; rw [← Ny282.out] at ho; have n0_ := zA0 (Kd.R_after (ok := (fun _ => True)) (zR HO280) hg hat); have n1_ := zA0 (hb); have n2_ := zA0 (ho); clear HO_3; replace HO280 := n0_; replace HB := n1_; have HO284 := n2_; clear n0_ n1_ n2_; clear ho hb hg hat))
     go_roundg k1
     case measure => have := HK1.out; omega
     case rel => exact ⟨(y282), (wrap64 (x4_1 + 1)), (by first | rfl | (simp; done) | (simp [*]; done) | (simp; decide) | (simp; unfold wrap64; omega)), H', ⟨by have := HK1.out; omega⟩, ⟨by (with_reducible repeat (first | apply zrA | apply zrN | apply zrD)); exact Kd.R_mono HO284.out (fun _ hk => trivial)⟩, ⟨zB HB⟩⟩
    ·
     rw [if_neg c4] at H
     exact absurd H (by simp)
   ·
    rw [if_neg c2] at H
    have c2b0 : decide (x4_1 < a0) = false := decide_eq_false c2
    clear c2
    have H' := zA0 H
    clear H
    go_wp2
    go_loopg [3, 5] k1 (fun kq v3 v5 w' => ∃ (x3_2 : List Int) (x5_2 : Int), v5 = .int .i64 x5_2 ∧ Aside0 (spec_meBorder.l1 kq a0 x3_2 x5_2 = some r) ∧ Aside0 (kq ≤ k1) ∧ Aside0 (Kd.R (Kd.int .i64) 3 w' w.heap.size (fun _ => True) v3 x3_2) ∧ Aside0 (Below w.heap.size w w'))
    case atStart => exact ⟨(x3_1), (0), (by first | rfl | (simp; done) | (simp [*]; done) | (simp; decide) | (simp; unfold wrap64; omega)), H', ⟨Nat.le_refl _⟩, ⟨zR HO_3⟩, ⟨zB HB⟩⟩
    case round =>
     clear H'
     try clear c1
     try clear c2
     try clear c2b0
     try clear p2
     try clear c3
     try clear c4
     try clear p6
     obtain ⟨x3_2, x5_2, rfl, HA, HK2, HO_3, HB⟩ := hrel
     cases gk with
     | zero => exact absurd HA.out (by simp [spec_meBorder.l1])
     | succ k2 =>
      have H := HA.out
      clear HA
      simp only [spec_meBorder.l1] at H
      by_cases c9 : x5_2 < a0
      ·
       rw [if_pos c9] at H
       have c9b0 : decide (x5_2 < a0) = true := decide_eq_true c9
       clear c9
       obtain ⟨y285, hy285⟩ : ∃ y_ : List Int, y_ = (([0, wrap64 (a0 - x5_2), x5_2] : List Int)) := ⟨_, rfl⟩
       replace H : ((spec_meIndex.f a0 y285).bind fun t288 => (if x3_2.length < 17592186044416 then (spec_meBorder.l1 k2 a0 (x3_2 ++ [t288]) (wrap64 (x5_2 + 1))) else (none))) = some r := by first | (rw [hy285]; with_reducible exact H) | (have H2_ := (Option.bind_some _ _).symm.trans H; rw [hy285]; with_reducible exact H2_) | (have H2_ := (Option.bind_some _ _).symm.trans H; with_reducible exact H2_) | with_reducible exact H | (rw [hy285]; exact H) | exact H
       have Ny285 := zA0 hy285
       clear hy285
       replace H := Option.bind_eq_some_iff.mp H
       obtain ⟨t288, A100, H⟩ := H
       (try dsimp only at H)
       have A10 := zA0 A100
       clear A100
       by_cases c11 : x3_2.length < 17592186044416
       ·
        rw [if_pos c11] at H
        have LMc11 := zA0 c11
        clear c11
        obtain ⟨y289, hy289⟩ : ∃ y_ : List Int, y_ = (x3_2 ++ [t288]) := ⟨_, rfl⟩
        replace H : (spec_meBorder.l1 k2 a0 y289 (wrap64 (x5_2 + 1))) = some r := by first | (rw [hy289]; with_reducible exact H) | (have H2_ := (Option.bind_some _ _).symm.trans H; rw [hy289]; with_reducible exact H2_) | (have H2_ := (Option.bind_some _ _).symm.trans H; with_reducible exact H2_) | with_reducible exact H | (rw [hy289]; exact H) | exact H
        have Ny289 := zA0 hy289
        clear hy289
        have H' := zA0 H
        clear H
        go_wp2_with (first | ((with_reducible refine gate_dst (N := 33) rfl ?_); refine Kd.R_lit (Kd.int .i64) _ 3 ?hg (N := 33) ?hd (xs := ([0, wrap64 (a0 - x5_2), x5_2] : List Int)) (inner := [.int .i64 0, .int .i64 (wrap64 (a0 - x5_2)), .int .i64 x5_2]) (ok := fun _ => True) (okp := fun _ => True) ?hr ?hp (fun _ hk => hk) trivial (Below.refl _ _) (Nat.le_refl _) (by simp) ?_; (case hd => rfl); (case hg => rfl); (case hr => first | (go_simp; done) | (go_simp; rfl)); (case hp => exact (Reps.one (show Kd.M (Kd.int .i64) _ _ _ 0 [.int .i64 0] from rfl) (Reps.one (show Kd.M (Kd.int .i64) _ _ _ (wrap64 (a0 - x5_2)) [.int .i64 (wrap64 (a0 - x5_2))] from rfl) (Reps.one (show Kd.M (Kd.int .i64) _ _ _ x5_2 [.int .i64 x5_2] from rfl) (Reps.none _ _))))); intro v286 w12 ho13 hb hg_ hnew_; clear hg_ hnew_; (first | rw [← Ny285.out] at ho13 | (simp only [Int.reduceToNat] at ho13; rw [← Ny285.out] at ho13)); have n0_ := zA0 (Kd.R_elder' (zR HO_3) (Kd.R_base ho13) hb); have n1_ := zA0 (Kd.R_lower (Kd.R_new' ho13 (Kd.R_lt (zR HO_3))) (below_size (zB HB))); have n2_ := zA0 (below_step (zB HB) hb); replace HO_3 := n0_; have HO287 := n1_; replace HB := n2_; clear n0_ n1_ n2_; clear hb ho13; obtain ⟨Ao14, co14, eo14⟩ := Kd.R_slice HO287.out; subst eo14) | ((with_reducible refine gate_callee (f := 199) rfl ?_); refine goesL_ (some 34) rfl rfl Try.func199 (by kernel_rfl) rfl #[.int .i64 a0, .slice Ao14 y285.length co14] rfl (by (try simp only [List.map_toArray, List.map_cons, List.map_nil]); first | done | rfl) ?_; (with_reducible refine (spec_meIndex.calls a0 _ _ y285 t288 _ ?side1 ?side2 A10.out).mono ?_); (case side1 => exact zC (Kd.R_reads' HO287.out).2.2); (case side2 => exact (Kd.R_reads' HO287.out).2.1); rintro e w' ⟨rfl, ⟨nd, rfl⟩⟩; refine ⟨_, rfl, ?_⟩) | ((with_reducible refine gate_builtin (b := .append) (xs := #[.tmp 27, .tmp 35]) rfl ?_); at_builtin; refine Kd.R_append (Kd.int .i64) (w0 := w) w.heap.size rfl (.tmp 27) (.tmp 35) 22 3 (.int .i64 0) 8 rfl Try.underlying22 info3 rfl (by decide) (by omega) u3 x3_2 t288 [.int .i64 t288] (fun k_ => some k_ ≠ (.slice Ao14 y285.length co14 : Value).ownBlock) (fun _ => False) rfl rfl ?aP (fun _ hk => hk.elim) ?aF ?aO ?aB ?aS ?aL ?_; (case aP => exact rfl); (case aB => exact (zB HB)); (case aF => exact (fun k_ hk => Kd.fresh' (Kd.R_lt (zR HO287)) k_ hk)); (case aO => exact (by (with_reducible repeat (first | apply zrA | apply zrN | apply zrD)); exact Kd.R_mono HO_3.out (fun _ hk => hk.2))); (case aS => exact (below_size (zB HB))); (case aL => have := LMc11.out; omega); intro v290 w15 ho hb hg hat; rw [← Ny289.out] at ho; have n0_ := zA0 (Kd.R_after (ok := (fun _ => True)) (zR HO287) hg hat); have n1_ := zA0 (hb); have n2_ := zA0 (ho); clear HO_3; replace HO287 := n0_; replace HB := n1_; have HO291 := n2_; clear n0_ n1_ n2_; clear ho hb hg hat))
        go_roundg k2
        case measure => have := HK1.out; have := HK2.out; omega
        case rel => exact ⟨(y289), (wrap64 (x5_2 + 1)), (by first | rfl | (simp; done) | (simp [*]; done) | (simp; decide) | (simp; unfold wrap64; omega)), H', ⟨by have := HK1.out; have := HK2.out; omega⟩, ⟨by (with_reducible repeat (first | apply zrA | apply zrN | apply zrD)); exact Kd.R_mono HO291.out (fun _ hk => trivial)⟩, ⟨zB HB⟩⟩
       ·
        rw [if_neg c11] at H
        exact absurd H (by simp)
      ·
       rw [if_neg c9] at H
       have c9b0 : decide (x5_2 < a0) = false := decide_eq_false c9
       clear c9
       have H' := zA0 H
       clear H
       go_wp2
       go_loopg [3, 6] k2 (fun kq v3 v6 w' => ∃ (x3_3 : List Int) (x6_3 : Int), v6 = .int .i64 x6_3 ∧ Aside0 (spec_meBorder.l2 kq a0 x3_3 x6_3 = some r) ∧ Aside0 (kq ≤ k2) ∧ Aside0 (Kd.R (Kd.int .i64) 3 w' w.heap.size (fun _ => True) v3 x3_3) ∧ Aside0 (Below w.heap.size w w'))
       case atStart => exact ⟨(x3_2), (0), (by first | rfl | (simp; done) | (simp [*]; done) | (simp; decide) | (simp; unfold wrap64; omega)), H', ⟨Nat.le_refl _⟩, ⟨zR HO_3⟩, ⟨zB HB⟩⟩
       case round =>
        clear H'
        try clear c1
        try clear c2
        try clear c2b0
        try clear p2
        try clear c3
        try clear c4
        try clear p6
        try clear c9
        try clear c9b0
        try clear c11
        try clear p2
        try clear p6
        obtain ⟨x3_3, x6_3, rfl, HA, HK3, HO_3, HB⟩ := hrel
        cases gk with
        | zero => exact absurd HA.out (by simp [spec_meBorder.l2])
        | succ k3 =>
         have H := HA.out
         clear HA
         simp only [spec_meBorder.l2] at H
         by_cases c16 : x6_3 < a0
         ·
          rw [if_pos c16] at H
          have c16b0 : decide (x6_3 < a0) = true := decide_eq_true c16
          clear c16
          obtain ⟨y292, hy292⟩ : ∃ y_ : List Int, y_ = (([x6_3, 0, wrap64 (a0 - x6_3)] : List Int)) := ⟨_, rfl⟩
          replace H : ((spec_meIndex.f a0 y292).bind fun t295 => (if x3_3.length < 17592186044416 then (spec_meBorder.l2 k3 a0 (x3_3 ++ [t295]) (wrap64 (x6_3 + 1))) else (none))) = some r := by first | (rw [hy292]; with_reducible exact H) | (have H2_ := (Option.bind_some _ _).symm.trans H; rw [hy292]; with_reducible exact H2_) | (have H2_ := (Option.bind_some _ _).symm.trans H; with_reducible exact H2_) | with_reducible exact H | (rw [hy292]; exact H) | exact H
          have Ny292 := zA0 hy292
          clear hy292
          replace H := Option.bind_eq_some_iff.mp H
          obtain ⟨t295, A170, H⟩ := H
          (try dsimp only at H)
          have A17 := zA0 A170
          clear A170
          by_cases c18 : x3_3.length < 17592186044416
          ·
           rw [if_pos c18] at H
           have LMc18 := zA0 c18
           clear c18
           obtain ⟨y296, hy296⟩ : ∃ y_ : List Int, y_ = (x3_3 ++ [t295]) := ⟨_, rfl⟩
           replace H : (spec_meBorder.l2 k3 a0 y296 (wrap64 (x6_3 + 1))) = some r := by first | (rw [hy296]; with_reducible exact H) | (have H2_ := (Option.bind_some _ _).symm.trans H; rw [hy296]; with_reducible exact H2_) | (have H2_ := (Option.bind_some _ _).symm.trans H; with_reducible exact H2_) | with_reducible exact H | (rw [hy296]; exact H) | exact H
           have Ny296 := zA0 hy296
           clear hy296
           have H' := zA0 H
           clear H
           go_wp2_with (first | ((with_reducible refine gate_dst (N := 48) rfl ?_); refine Kd.R_lit (Kd.int .i64) _ 3 ?hg (N := 48) ?hd (xs := ([x6_3, 0, wrap64 (a0 - x6_3)] : List Int)) (inner := [.int .i64 x6_3, .int .i64 0, .int .i64 (wrap64 (a0 - x6_3))]) (ok := fun _ => True) (okp := fun _ => True) ?hr ?hp (fun _ hk => hk) trivial (Below.refl _ _) (Nat.le_refl _) (by simp) ?_; (case hd => rfl); (case hg => rfl); (case hr => first | (go_simp; done) | (go_simp; rfl)); (case hp => exact (Reps.one (show Kd.M (Kd.int .i64) _ _ _ x6_3 [.int .i64 x6_3] from rfl) (Reps.one (show Kd.M (Kd.int .i64) _ _ _ 0 [.int .i64 0] from rfl) (Reps.one (show Kd.M (Kd.int .i64) _ _ _ (wrap64 (a0 - x6_3)) [.int .i64 (wrap64 (a0 - x6_3))] from rfl) (Reps.none _ _))))); intro v293 w19 ho20 hb hg_ hnew_; clear hg_ hnew_; (first | rw [← Ny292.out] at ho20 | (simp only [Int.reduceToNat] at ho20; rw [← Ny292.out] at ho20)); have n0_ := zA0 (Kd.R_elder' (zR HO_3) (Kd.R_base ho20) hb); have n1_ := zA0 (Kd.R_lower (Kd.R_new' ho20 (Kd.R_lt (zR HO_3))) (below_size (zB HB))); have n2_ := zA0 (below_step (zB HB) hb); replace HO_3 := n0_; have HO294 := n1_; replace HB := n2_; clear n0_ n1_ n2_; clear hb ho20; obtain ⟨Ao21, co21, eo21⟩ := Kd.R_slice HO294.out; subst eo21) | ((with_reducible refine gate_callee (f := 199) rfl ?_); refine goesL_ (some 49) rfl rfl Try.func199 (by kernel_rfl) rfl #[.int .i64 a0, .slice Ao21 y292.length co21] rfl (by (try simp only [List.map_toArray, List.map_cons, List.map_nil]); first | done | rfl) ?_; (with_reducible refine (spec_meIndex.calls a0 _ _ y292 t295 _ ?side1 ?side2 A17.out).mono ?_); (case side1 => exact zC (Kd.R_reads' HO294.out).2.2); (case side2 => exact (Kd.R_reads' HO294.out).2.1); rintro e w' ⟨rfl, ⟨nd, rfl⟩⟩; refine ⟨_, rfl, ?_⟩) | ((with_reducible refine gate_builtin (b := .append) (xs := #[.tmp 42, .tmp 50]) rfl ?_); at_builtin; refine Kd.R_append (Kd.int .i64) (w0 := w) w.heap.size rfl (.tmp 42) (.tmp 50) 22 3 (.int .i64 0) 8 rfl Try.underlying22 info3 rfl (by decide) (by omega) u3 x3_3 t295 [.int .i64 t295] (fun k_ => some k_ ≠ (.slice Ao21 y292.length co21 : Value).ownBlock) (fun _ => False) rfl rfl ?aP (fun _ hk => hk.elim) ?aF ?aO ?aB ?aS ?aL ?_; (case aP => exact rfl); (case aB => exact (zB HB)); (case aF => exact (fun k_ hk => Kd.fresh' (Kd.R_lt (zR HO294)) k_ hk)); (case aO => exact (by (with_reducible repeat (first | apply zrA | apply zrN | apply zrD)); exact Kd.R_mono HO_3.out (fun _ hk => hk.2))); (case aS => exact (below_size (zB HB))); (case aL => have := LMc18.out; omega); intro v297 w22 ho hb hg hat; rw [← Ny296.out] at ho; have n0_ := zA0 (Kd.R_after (ok := (fun _ => True)) (zR HO294) hg hat); have n1_ := zA0 (hb); have n2_ := zA0 (ho); clear HO_3; replace HO294 := n0_; replace HB := n1_; have HO298 := n2_; clear n0_ n1_ n2_; clear ho hb hg hat))
           go_roundg k3
           case measure => have := HK1.out; have := HK2.out; have := HK3.out; omega
           case rel => exact ⟨(y296), (wrap64 (x6_3 + 1)), (by first | rfl | (simp; done) | (simp [*]; done) | (simp; decide) | (simp; unfold wrap64; omega)), H', ⟨by have := HK1.out; have := HK2.out; have := HK3.out; omega⟩, ⟨by (with_reducible repeat (first | apply zrA | apply zrN | apply zrD)); exact Kd.R_mono HO298.out (fun _ hk => trivial)⟩, ⟨zB HB⟩⟩
          ·
           rw [if_neg c18] at H
           exact absurd H (by simp)
         ·
          rw [if_neg c16] at H
          have c16b0 : decide (x6_3 < a0) = false := decide_eq_false c16
          clear c16
          obtain rfl := Option.some.inj H
          go_wp2
          go_ret
          exact ⟨_, by first | rfl | (simp [errW_none, errW_some] <;> rfl) | (simp [*, errW_none, errW_some] <;> rfl), zR HO_3, zB HB⟩
def spec_doBorder.l0 : Nat → List Int → List Int → List (List Int) → List Int → Int → Int → Option ((List (List Int)))
  | 0, _, _, _, _, _, _ => none
  | k + 1, x1, x5, x6, x12, x13, x14 => if x14 < x13 then (if 0 ≤ x14 then (if x14 < (x12.length : Int) then (if (x5.length : Int) = 0 then (none) else (if 0 ≤ (Int.tmod (wrap64 (x14 + 1)) (x5.length : Int)) then (if (Int.tmod (wrap64 (x14 + 1)) (x5.length : Int)) < (x5.length : Int) then ((spec_doDoor.f x1 (rd x12 x14) (rd x5 (Int.tmod (wrap64 (x14 + 1)) (x5.length : Int)))).bind fun t304 => (if t304 = true then (if x6.length < 5864062014805 then (spec_doBorder.l0 k x1 x5 (x6 ++ [(([rd x12 x14, rd x5 (Int.tmod (wrap64 (x14 + 1)) (x5.length : Int))] : List Int))]) x12 x13 (wrap64 (x14 + 1))) else (none)) else (spec_doBorder.l0 k x1 x5 x6 x12 x13 (wrap64 (x14 + 1))))) else (none)) else (none))) else (none)) else (none)) else (some x6)
def spec_doBorder.f (k : Nat) (a0 : Int) (l1 : List Int) : Option ((List (List Int))) := (spec_meBorder.f k a0).bind fun t299 => (spec_doBorder.l0 k l1 t299 ([] : List (List Int)) t299 (t299.length : Int) 0)
set_option maxHeartbeats 8000000 in
set_option maxRecDepth 100000 in
theorem spec_doBorder.calls (k : Nat) (a0 : Int) (A1 : Option Addr) (c1 : Nat) (l1 : List Int) (r : List (List Int)) (w : World) (hr1 : Kd.C (Kd.int .i64) w A1 l1.length l1) (hc1 : l1.length ≤ c1) (h : spec_doBorder.f k a0 l1 = some r) :
  Calls Try.prog 217 #[.int .i64 a0, .slice A1 l1.length c1] w fun e w' => ∃ v0_ : Value, e = .returned (v0_) ∧ Kd.S (Kd.slice 3 (Kd.int .i64)) 22 w' w.heap.size (fun _ => True) v0_ r ∧ Below w.heap.size w w' := by
 have HR1 := zA0 hr1
 have HC1 := zA0 hc1
 clear hr1 hc1
 have HB := zA0 (Below.refl w.heap.size w)
 have H : ((spec_meBorder.f k a0).bind fun t299 => (spec_doBorder.l0 k l1 t299 ([] : List (List Int)) t299 (t299.length : Int) 0)) = some r := h
 clear h
 replace H := Option.bind_eq_some_iff.mp H
 obtain ⟨t299, A30, H⟩ := H
 (try dsimp only at H)
 have A3 := zA0 A30
 clear A30
 have H' := zA0 H
 clear H
 go_enter Try.func217, Try.ntmps217
 go_wp2_with (first | ((with_reducible refine gate_callee (f := 300) rfl ?_); refine goesL_ (some 11) rfl rfl Try.func300 (by kernel_rfl) rfl #[.int .i64 a0] rfl (by (try simp only [List.map_toArray, List.map_cons, List.map_nil]); first | done | rfl) ?_; (with_reducible refine (spec_meBorder.calls k a0 t299 _ A3.out).mono ?_); rintro e w4 ⟨v300, rfl, ho0, hb⟩; refine ⟨_, rfl, ?_⟩; have n0_ := zA0 (Kd.R_lower ho0 (below_size (zB HB))); have n1_ := zA0 (below_step (zB HB) hb); have HO301 := n0_; replace HB := n1_; clear n0_ n1_; (try clear hb); (try clear hb2); (try clear hk); (try clear hi); (try clear ho0); obtain ⟨Ao5, co5, eo5⟩ := Kd.R_slice HO301.out; subst eo5))
 go_loopg [6, 14] k (fun kq v6 v14 w' => ∃ (x6_1 : List (List Int)) (x14_1 : Int), v14 = .int .i64 x14_1 ∧ Aside0 (spec_doBorder.l0 kq l1 t299 x6_1 t299 (t299.length : Int) x14_1 = some r) ∧ Aside0 (kq ≤ k) ∧ Aside0 (Kd.R (Kd.int .i64) 3 w' w.heap.size (fun _ => True) (.slice Ao5 t299.length co5) t299) ∧ Aside0 (Kd.S (Kd.slice 3 (Kd.int .i64)) 22 w' w.heap.size (fun k_ => some k_ ≠ ((.slice Ao5 t299.length co5) : Value).ownBlock ∧ some k_ ≠ ((.slice Ao5 t299.length co5) : Value).ownBlock) v6 x6_1) ∧ Aside0 (Kd.R (Kd.int .i64) 3 w' w.heap.size (fun _ => True) (.slice Ao5 t299.length co5) t299) ∧ Aside0 (Below w.heap.size w w'))
 case atStart => exact ⟨(([] : List (List Int))), (0), (by first | rfl | (simp; done) | (simp [*]; done) | (simp; decide) | (simp; unfold wrap64; omega)), H', ⟨Nat.le_refl _⟩, ⟨zR HO301⟩, ⟨by first | exact Kd.S_nil _ _ _ _ _ | exact Kd.N_nil _ _ _ _ _ | exact Kd.V_nil _ _ _ _ _ | exact Kd.Q_nil _ _ _ _ _ | exact Kd.R_nil _ _ _ _ _⟩, ⟨zR HO301⟩, ⟨zB HB⟩⟩
 case round =>
  clear H'
  try clear c1
  try clear c2
  try clear p2
  try clear c3
  obtain ⟨x6_1, x14_1, rfl, HA, HK1, HO_5, HO_6, HO_12, HB⟩ := hrel
  cases gk with
  | zero => exact absurd HA.out (by simp [spec_doBorder.l0])
  | succ k1 =>
   have H := HA.out
   clear HA
   simp only [spec_doBorder.l0] at H
   by_cases c6 : x14_1 < (t299.length : Int)
   ·
    rw [if_pos c6] at H
    have c6b0 : decide (x14_1 < (t299.length : Int)) = true := decide_eq_true c6
    clear c6
    by_cases c7 : 0 ≤ x14_1
    ·
     rw [if_pos c7] at H
     have c7b0 : decide (0 ≤ x14_1) = true := decide_eq_true c7
     clear c7
     by_cases c8 : x14_1 < (t299.length : Int)
     ·
      rw [if_pos c8] at H
      have c8b0 : decide (x14_1 < (t299.length : Int)) = true := decide_eq_true c8
      clear c8
      by_cases c9 : (t299.length : Int) = 0
      ·
       rw [if_pos c9] at H
       exact absurd H (by simp)
      ·
       rw [if_neg c9] at H
       have c9b0 : ((t299.length : Int) == 0) = false := beq_eq_false_iff_ne.mpr c9
       have c9b1 : ((t299.length : Int) != 0) = true := bne_iff_ne.mpr c9
       have c9b2 : ¬ (t299 = []) := fun h_ => c9 (by rw [h_]; rfl)
       obtain ⟨ji10, hji10⟩ : ∃ j_ : Int, (Int.tmod (wrap64 (x14_1 + 1)) (t299.length : Int)) = j_ := ⟨_, rfl⟩
       replace H : (if 0 ≤ (ji10) then (if (ji10) < (t299.length : Int) then ((spec_doDoor.f l1 (rd t299 x14_1) (rd t299 (ji10))).bind fun t304 => (if t304 = true then (if x6_1.length < 5864062014805 then (spec_doBorder.l0 k1 l1 t299 (x6_1 ++ [(([rd t299 x14_1, rd t299 (ji10)] : List Int))]) t299 (t299.length : Int) (wrap64 (x14_1 + 1))) else (none)) else (spec_doBorder.l0 k1 l1 t299 x6_1 t299 (t299.length : Int) (wrap64 (x14_1 + 1))))) else (none)) else (none)) = some r := by first | (rw [hji10] at H; exact H) | (simp only [hji10] at H ⊢; exact H)
       by_cases c11 : 0 ≤ (ji10)
       ·
        rw [if_pos c11] at H
        have c11b0 : decide (0 ≤ (ji10)) = true := decide_eq_true c11
        clear c11
        by_cases c12 : (ji10) < (t299.length : Int)
        ·
         rw [if_pos c12] at H
         have c12b0 : decide ((ji10) < (t299.length : Int)) = true := decide_eq_true c12
         clear c12
         replace H := Option.bind_eq_some_iff.mp H
         obtain ⟨t304, A130, H⟩ := H
         (try dsimp only at H)
         have A13 := zA0 A130
         clear A130
         by_cases c14 : t304 = true
         ·
          subst c14
          rw [if_pos rfl] at H
          obtain ⟨y305, hy305⟩ : ∃ y_ : List Int, y_ = (([rd t299 x14_1, rd t299 (ji10)] : List Int)) := ⟨_, rfl⟩
          replace H : (if x6_1.length < 5864062014805 then (spec_doBorder.l0 k1 l1 t299 (x6_1 ++ [y305]) t299 (t299.length : Int) (wrap64 (x14_1 + 1))) else (none)) = some r := by first | (rw [hy305]; with_reducible exact H) | (have H2_ := (Option.bind_some _ _).symm.trans H; rw [hy305]; with_reducible exact H2_) | (have H2_ := (Option.bind_some _ _).symm.trans H; with_reducible exact H2_) | with_reducible exact H | (rw [hy305]; exact H) | exact H
          have Ny305 := zA0 hy305
          clear hy305
          by_cases c15 : x6_1.length < 5864062014805
          ·
           rw [if_pos c15] at H
           have LMc15 := zA0 c15
           clear c15
           obtain ⟨y308, hy308⟩ : ∃ y_ : List (List Int), y_ = (x6_1 ++ [y305]) := ⟨_, rfl⟩
           replace H : (spec_doBorder.l0 k1 l1 t299 y308 t299 (t299.length : Int) (wrap64 (x14_1 + 1))) = some r := by first | (rw [hy308]; with_reducible exact H) | (have H2_ := (Option.bind_some _ _).symm.trans H; rw [hy308]; with_reducible exact H2_) | (have H2_ := (Option.bind_some _ _).symm.trans H; with_reducible exact H2_) | with_reducible exact H | (rw [hy308]; exact H) | exact H
           have Ny308 := zA0 hy308
           clear hy308
           have H' := zA0 H
           clear H
           have p302 : 0 ≤ (x14_1 : Int) := of_decide_eq_true (by first | (with_reducible assumption) | assumption)
           have q302 : x14_1 < (t299.length : Int) := of_decide_eq_true (by first | (with_reducible assumption) | assumption)
           obtain ⟨ad302, e302, hx302_0⟩ := Kd.at_int (Kd.R_reads' HO_12.out).2.2 x14_1 p302 q302
           cases e302
           replace p302 := eq_true p302
           replace q302 := eq_true q302
           have p303 : 0 ≤ ((ji10) : Int) := of_decide_eq_true (by first | (with_reducible assumption) | assumption)
           have q303 : (ji10) < (t299.length : Int) := of_decide_eq_true (by first | (with_reducible assumption) | assumption)
           obtain ⟨ad303, e303, hx303_0⟩ := Kd.at_int (Kd.R_reads' HO_5.out).2.2 (ji10) p303 q303
           obtain rfl : ad302 = ad303 := (by injection e303)
           replace p303 := eq_true p303
           replace q303 := eq_true q303
           go_wp2_with (first | ((with_reducible refine gate_callee (f := 215) rfl ?_); refine goesL_ (some 30) rfl rfl Try.func215 (by kernel_rfl) rfl #[.slice A1 l1.length c1, .int .i64 (rd t299 x14_1), .int .i64 (rd t299 (ji10))] rfl (by (try simp only [List.map_toArray, List.map_cons, List.map_nil]); first | done | (simp only [hji10]; rfl) | rfl | (simp only [List.length_drop, List.length_take]; rfl)) ?_; (with_reducible refine (spec_doDoor.calls _ _ l1 (rd t299 x14_1) (rd t299 (ji10)) true _ ?side1 ?side2 A13.out).mono ?_); (case side1 => exact zC (Kd.C_below HR1.out HB.out)); (case side2 => exact HC1.out); rintro e w' ⟨rfl, ⟨nd, rfl⟩⟩; refine ⟨_, rfl, ?_⟩) | ((with_reducible refine gate_dst (N := 34) rfl ?_); refine Kd.R_lit (Kd.int .i64) _ 3 ?hg (N := 34) ?hd (xs := ([rd t299 x14_1, rd t299 (ji10)] : List Int)) (inner := [.int .i64 (rd t299 x14_1), .int .i64 (rd t299 (ji10))]) (ok := fun _ => True) (okp := fun _ => True) ?hr ?hp (fun _ hk => hk) trivial (Below.refl _ _) (Nat.le_refl _) (by simp) ?_; (case hd => rfl); (case hg => rfl); (case hr => first | (go_simp; done) | (go_simp; rfl)); (case hp => exact (Reps.one (show Kd.M (Kd.int .i64) _ _ _ (rd t299 x14_1) [.int .i64 (rd t299 x14_1)] from rfl) (Reps.one (show Kd.M (Kd.int .i64) _ _ _ (rd t299 (ji10)) [.int .i64 (rd t299 (ji10))] from rfl) (Reps.none _ _)))); intro v306 w16 ho17 hb hg_ hnew_; clear hg_ hnew_; (first | rw [← Ny305.out] at ho17 | (simp only [Int.reduceToNat] at ho17; rw [← Ny305.out] at ho17)); have n0_ := zA0 (Kd.R_elder' (zR HO_5) (Kd.R_base ho17) hb); have n1_ := zA0 (Kd.S_elder' (zS HO_6) (Kd.R_base ho17) hb); have n2_ := zA0 (Kd.R_elder' (zR HO_12) (Kd.R_base ho17) hb); have n3_ := zA0 (Kd.R_lower (Kd.R_new' (Kd.R_new' ho17 (Kd.R_lt (zR HO_5))) (Kd.R_lt (zR HO_12))) (below_size (zB HB))); have n4_ := zA0 (below_step (zB HB) hb); replace HO_5 := n0_; replace HO_6 := n1_; replace HO_12 := n2_; have HO307 := n3_; replace HB := n4_; clear n0_ n1_ n2_ n3_ n4_; clear hb ho17; obtain ⟨Ao19, co19, eo19⟩ := Kd.R_slice HO307.out; subst eo19) | ((with_reducible refine gate_builtin (b := .append) (xs := #[.tmp 31, .tmp 35]) rfl ?_); at_builtin; refine Kd.S_append (Kd.slice 3 (Kd.int .i64)) (w0 := w) w.heap.size rfl (.tmp 31) (.tmp 35) 23 22 (.slice none 0 0) 24 rfl Try.underlying23 info22 rfl (by decide) (by omega) u6 x6_1 y305 [.slice Ao19 y305.length co19] (fun k_ => some k_ ≠ (.slice (some ad302) t299.length co5 : Value).ownBlock ∧ some k_ ≠ (.slice (some ad302) t299.length co5 : Value).ownBlock) (fun k_ => some k_ = (.slice Ao19 y305.length co19 : Value).ownBlock) rfl rfl ?aP (fun k_ hk_ => ((Kd.R_mono (ok' := fun k_ => ((fun k_ => some k_ ≠ (.slice (some ad302) t299.length co5 : Value).ownBlock ∧ some k_ ≠ (.slice (some ad302) t299.length co5 : Value).ownBlock)) k_ ∧ some k_ ≠ (u6 : Value).ownBlock) (Kd.R_apart' (HO307.out) (Kd.S_typed HO_6.out) (by decide)) (fun k_ hk => ⟨⟨hk.1.1.2, hk.1.2⟩, hk.2⟩))).1 k_ hk_.symm) ?aF ?aO ?aB ?aS ?aL ?_; (case aP => exact Kd.M_row (Kd.R_mono (Kd.R_tight rfl (Kd.R_mono (ok' := fun k_ => ((fun k_ => some k_ ≠ (.slice (some ad302) t299.length co5 : Value).ownBlock ∧ some k_ ≠ (.slice (some ad302) t299.length co5 : Value).ownBlock)) k_ ∧ some k_ ≠ (u6 : Value).ownBlock) (Kd.R_apart' (HO307.out) (Kd.S_typed HO_6.out) (by decide)) (fun k_ hk => ⟨⟨hk.1.1.2, hk.1.2⟩, hk.2⟩))) (fun _ h_ => h_))); (case aB => exact (zB HB)); (case aF => exact (fun k_ hk => ⟨Kd.fresh' (Kd.R_lt (zR HO_5)) k_ hk, Kd.fresh' (Kd.R_lt (zR HO_12)) k_ hk⟩)); (case aO => exact (by (with_reducible repeat (first | apply zsA | apply zsN | apply zsD)); exact Kd.S_mono HO_6.out (fun k_ hk => ⟨⟨hk.1.1, hk.1.2⟩, fun e_ => hk.2 e_⟩))); (case aS => exact (below_size (zB HB))); (case aL => have := LMc15.out; omega); intro v309 w18 ho hb hg hat; rw [← Ny308.out] at ho; have n0_ := zA0 (Kd.R_over' (zR HO_5) (Kd.S_typed (zS HO_6)) (by decide) hg); have n1_ := zA0 (Kd.R_over' (zR HO_12) (Kd.S_typed (zS HO_6)) (by decide) hg); have n2_ := zA0 (hb); have n3_ := zA0 (ho); clear HO_6; clear HO307; replace HO_5 := n0_; replace HO_12 := n1_; replace HB := n2_; have HO310 := n3_; clear n0_ n1_ n2_ n3_; clear ho hb hg hat))
           go_roundg k1
           case measure => have := HK1.out; omega
           case rel => exact ⟨(y308), (wrap64 (x14_1 + 1)), (by first | rfl | (simp; done) | (simp [*]; done) | (simp; decide) | (simp; unfold wrap64; omega)), H', ⟨by have := HK1.out; omega⟩, ⟨by (with_reducible repeat (first | apply zrA | apply zrN | apply zrD)); exact Kd.R_mono HO_5.out (fun _ hk => trivial)⟩, ⟨zS HO310⟩, ⟨by (with_reducible repeat (first | apply zrA | apply zrN | apply zrD)); exact Kd.R_mono HO_12.out (fun _ hk => trivial)⟩, ⟨zB HB⟩⟩
          ·
           rw [if_neg c15] at H
           exact absurd H (by simp)
         ·
          replace c14 := Bool.eq_false_iff.mpr c14
          subst c14
          rw [if_neg (show ¬ (false = true) by decide)] at H
          have H' := zA0 H
          clear H
          have p302 : 0 ≤ (x14_1 : Int) := of_decide_eq_true (by first | (with_reducible assumption) | assumption)
          have q302 : x14_1 < (t299.length : Int) := of_decide_eq_true (by first | (with_reducible assumption) | assumption)
          obtain ⟨ad302, e302, hx302_0⟩ := Kd.at_int (Kd.R_reads' HO_12.out).2.2 x14_1 p302 q302
          cases e302
          replace p302 := eq_true p302
          replace q302 := eq_true q302
          have p303 : 0 ≤ ((ji10) : Int) := of_decide_eq_true (by first | (with_reducible assumption) | assumption)
          have q303 : (ji10) < (t299.length : Int) := of_decide_eq_true (by first | (with_reducible assumption) | assumption)
          obtain ⟨ad303, e303, hx303_0⟩ := Kd.at_int (Kd.R_reads' HO_5.out).2.2 (ji10) p303 q303
          obtain rfl : ad302 = ad303 := (by injection e303)
          replace p303 := eq_true p303
          replace q303 := eq_true q303
          go_wp2_with (first | ((with_reducible refine gate_callee (f := 215) rfl ?_); refine goesL_ (some 30) rfl rfl Try.func215 (by kernel_rfl) rfl #[.slice A1 l1.length c1, .int .i64 (rd t299 x14_1), .int .i64 (rd t299 (ji10))] rfl (by (try simp only [List.map_toArray, List.map_cons, List.map_nil]); first | done | (simp only [hji10]; rfl) | rfl | (simp only [List.length_drop, List.length_take]; rfl)) ?_; (with_reducible refine (spec_doDoor.calls _ _ l1 (rd t299 x14_1) (rd t299 (ji10)) false _ ?side1 ?side2 A13.out).mono ?_); (case side1 => exact zC (Kd.C_below HR1.out HB.out)); (case side2 => exact HC1.out); rintro e w' ⟨rfl, ⟨nd, rfl⟩⟩; refine ⟨_, rfl, ?_⟩))
          go_roundg k1
          case measure => have := HK1.out; omega
          case rel => exact ⟨(x6_1), (wrap64 (x14_1 + 1)), (by first | rfl | (simp; done) | (simp [*]; done) | (simp; decide) | (simp; unfold wrap64; omega)), H', ⟨by have := HK1.out; omega⟩, ⟨zR HO_5⟩, ⟨zS HO_6⟩, ⟨zR HO_12⟩, ⟨zB HB⟩⟩
        ·
         rw [if_neg c12] at H
         exact absurd H (by simp)
       ·
        rw [if_neg c11] at H
        exact absurd H (by simp)
     ·
      rw [if_neg c8] at H
      exact absurd H (by simp)
    ·
     rw [if_neg c7] at H
     exact absurd H (by simp)
   ·
    rw [if_neg c6] at H
    have c6b0 : decide (x14_1 < (t299.length : Int)) = false := decide_eq_false c6
    clear c6
    obtain rfl := Option.some.inj H
    go_wp2
    go_ret
    exact ⟨_, by first | rfl | (simp [errW_none, errW_some] <;> rfl) | (simp [*, errW_none, errW_some] <;> rfl), by (with_reducible repeat (first | apply zsA | apply zsN | apply zsD)); exact Kd.S_mono HO_6.out (fun _ hk => trivial), zB HB⟩
def spec_BorderDoors.f (k : Nat) (a0 : Int) (l1 : List Int) : Option ((List (List Int)) × Bool) := (spec_meLabels.f k a0 l1).bind fun t311 => (if t311 = true then ((spec_doBorder.f k a0 l1).bind fun t312 => (some (t312, true))) else (some (([] : List (List Int)), false)))
set_option maxHeartbeats 8000000 in
set_option maxRecDepth 100000 in
theorem spec_BorderDoors.calls (k : Nat) (a0 : Int) (A1 : Option Addr) (c1 : Nat) (l1 : List Int) (r1 : List (List Int)) (r2 : Bool) (w : World) (hr1 : Kd.C (Kd.int .i64) w A1 l1.length l1) (hc1 : l1.length ≤ c1) (h : spec_BorderDoors.f k a0 l1 = some (r1, r2)) :
  Calls Try.prog 87 #[.int .i64 a0, .slice A1 l1.length c1] w fun e w' => ∃ v0_ : Value, e = .returned (.tuple #[v0_, .bool r2]) ∧ Kd.S (Kd.slice 3 (Kd.int .i64)) 22 w' w.heap.size (fun _ => True) v0_ r1 ∧ Below w.heap.size w w' := by
 have HR1 := zA0 hr1
 have HC1 := zA0 hc1
 clear hr1 hc1
 have HB := zA0 (Below.refl w.heap.size w)
 have H : ((spec_meLabels.f k a0 l1).bind fun t311 => (if t311 = true then ((spec_doBorder.f k a0 l1).bind fun t312 => (some (t312, true))) else (some (([] : List (List Int)), false)))) = some (r1, r2) := h
 clear h
 replace H := Option.bind_eq_some_iff.mp H
 obtain ⟨t311, A30, H⟩ := H
 (try dsimp only at H)
 have A3 := zA0 A30
 clear A30
 by_cases c4 : t311 = true
 ·
  subst c4
  rw [if_pos rfl] at H
  replace H := Option.bind_eq_some_iff.mp H
  obtain ⟨t312, A50, H⟩ := H
  (try dsimp only at H)
  have A5 := zA0 A50
  clear A50
  simp only [Option.some.injEq, Prod.mk.injEq] at H
  obtain ⟨rfl, rfl⟩ := H
  go_enter Try.func87, Try.ntmps87
  go_wp2_with (first | ((with_reducible refine gate_callee (f := 214) rfl ?_); refine goesL_ (some 8) rfl rfl Try.func214 (by kernel_rfl) rfl #[.int .i64 a0, .slice A1 l1.length c1] rfl (by (try simp only [List.map_toArray, List.map_cons, List.map_nil]); first | done | rfl) ?_; (with_reducible refine (spec_meLabels.calls k a0 _ _ l1 true _ ?side1 ?side2 A3.out).mono ?_); (case side1 => exact zC HR1.out); (case side2 => exact HC1.out); rintro e w' ⟨rfl, ⟨nd, rfl⟩⟩; refine ⟨_, rfl, ?_⟩) | ((with_reducible refine gate_callee (f := 217) rfl ?_); refine goesL_ (some 12) rfl rfl Try.func217 (by kernel_rfl) rfl #[.int .i64 a0, .slice A1 l1.length c1] rfl (by (try simp only [List.map_toArray, List.map_cons, List.map_nil]); first | done | rfl) ?_; (with_reducible refine (spec_doBorder.calls k a0 _ _ l1 t312 _ ?side1 ?side2 A5.out).mono ?_); (case side1 => exact zC HR1.out); (case side2 => exact HC1.out); rintro e w6 ⟨v313, rfl, ho0, hb⟩; refine ⟨_, rfl, ?_⟩; have n0_ := zA0 (Kd.S_lower ho0 (below_size (zB HB))); have n1_ := zA0 (below_step (zB HB) hb); have HO314 := n0_; replace HB := n1_; clear n0_ n1_; (try clear hb); (try clear hb2); (try clear hk); (try clear hi); (try clear ho0)))
  go_ret2
  exact ⟨_, by first | rfl | (simp [errW_none, errW_some] <;> rfl) | (simp [*, errW_none, errW_some] <;> rfl), zS HO314, zB HB⟩
 ·
  replace c4 := Bool.eq_false_iff.mpr c4
  subst c4
  rw [if_neg (show ¬ (false = true) by decide)] at H
  simp only [Option.some.injEq, Prod.mk.injEq] at H
  obtain ⟨rfl, rfl⟩ := H
  go_enter Try.func87, Try.ntmps87
  go_wp2_with (first | ((with_reducible refine gate_callee (f := 214) rfl ?_); refine goesL_ (some 8) rfl rfl Try.func214 (by kernel_rfl) rfl #[.int .i64 a0, .slice A1 l1.length c1] rfl (by (try simp only [List.map_toArray, List.map_cons, List.map_nil]); first | done | rfl) ?_; (with_reducible refine (spec_meLabels.calls k a0 _ _ l1 false _ ?side1 ?side2 A3.out).mono ?_); (case side1 => exact zC HR1.out); (case side2 => exact HC1.out); rintro e w' ⟨rfl, ⟨nd, rfl⟩⟩; refine ⟨_, rfl, ?_⟩))
  go_ret2
  exact ⟨_, by first | rfl | (simp [errW_none, errW_some] <;> rfl) | (simp [*, errW_none, errW_some] <;> rfl), by first | exact Kd.S_nil _ _ _ _ _ | exact Kd.N_nil _ _ _ _ _ | exact Kd.V_nil _ _ _ _ _ | exact Kd.Q_nil _ _ _ _ _ | exact Kd.R_nil _ _ _ _ _, zB HB⟩
def spec_l1Cur_door.j0 : Nat → Int → List Int → List (List Int) → Bool → List Int → Int → Int → Option (Int × List Int × Int × Int × Int × Int)
  | 0, _, _, _, _, _, _, _ => none
  | k + 1, x6, x7, x8, x33, x1000, x1001, x1002 => if x33 = true then ((spec_l1Cur_pick.f x1000 x1001 x1002 (x8.length : Int)).bind fun bt328 => (if 0 ≤ bt328.1 then (if bt328.1 < (x8.length : Int) then ((spec_l1Cur_pick.f x1000 bt328.2.1 bt328.2.2 2).bind fun bt332 => (if 0 ≤ bt332.1 then (if bt332.1 < ((rd_L2 x8 bt328.1).length : Int) then (if 0 ≤ (wrap64 (1 - bt332.1)) then (if (wrap64 (1 - bt332.1)) < ((rd_L2 x8 bt328.1).length : Int) then (some (x6, x7, rd (rd_L2 x8 bt328.1) bt332.1, rd (rd_L2 x8 bt328.1) (wrap64 (1 - bt332.1)), bt332.2.1, bt332.2.2)) else (none)) else (none)) else (none)) else (none))) else (none)) else (none))) else ((spec_l1Cur_pick.f x1000 x1001 x1002 (x7.length : Int)).bind fun bt337 => ((spec_l1Cur_among.f x1000 bt337.2.1 bt337.2.2 (([1, 2, 3, (-1), 0] : List Int))).bind fun bt343 => (some (x6, x7, bt337.1, wrap64 (bt337.1 + bt343.1), bt343.2.1, bt343.2.2))))
def spec_l1Cur_door.f (k : Nat) (s0_0 : List Int) (s0_1 : Int) (s0_2 : Int) : Option (Int × List Int × Int × Int × Int × Int) := (spec_l1Cur_anyLabels.f k s0_0 s0_1 s0_2 4).bind fun bt315 => ((spec_meLabels.f k bt315.1 bt315.2.1).bind fun t321 => (if t321 = true then ((spec_doBorder.f k bt315.1 bt315.2.1).bind fun t322 => (if (t322.length : Int) > 0 then ((spec_l1Cur_one.f s0_0 bt315.2.2.1 bt315.2.2.2 4).bind fun bt325 => (spec_l1Cur_door.j0 k bt315.1 bt315.2.1 t322 (!bt325.1) s0_0 bt325.2.1 bt325.2.2)) else (spec_l1Cur_door.j0 k bt315.1 bt315.2.1 t322 false s0_0 bt315.2.2.1 bt315.2.2.2))) else (some (bt315.1, bt315.2.1, 0, 1, bt315.2.2.1, bt315.2.2.2))))
set_option maxHeartbeats 8000000 in
set_option maxRecDepth 100000 in
theorem spec_l1Cur_door.calls (k : Nat) (g : Nat) (s0_0 : List Int) (s0_1 : Int) (s0_2 : Int) (r1 : Int) (r2 : List Int) (r3 : Int) (r4 : Int) (r5 : Int) (r6 : Int) (w0 w : World) (hI : IsS101 w0 w g s0_0 s0_1 s0_2) (hB : Below w0.heap.size w0 w) (h : spec_l1Cur_door.f k s0_0 s0_1 s0_2 = some (r1, r2, r3, r4, r5, r6)) :
  Calls Try.prog 218 #[.pointer (some ⟨g, 0, none⟩)] w fun e w' => ∃ v1_ : Value, e = .returned (.tuple #[.int .i64 r1, v1_, .int .i64 r3, .int .i64 r4]) ∧ Kd.R (Kd.int .i64) 3 w' w.heap.size (fun _ => True) v1_ r2 ∧ IsS101 w0 w' g s0_0 r5 r6 ∧ Below w0.heap.size w0 w' ∧ KeepBut w w' g none := by
 have HI0 := zA0 hI
 have HK := zA0 (KeepBut.refl w g none)
 have HL := zA0 hB.size
 clear hI
 have HW0 := zA0 hB.size
 have HB := zA0 hB
 clear hB
 have H : ((spec_l1Cur_anyLabels.f k s0_0 s0_1 s0_2 4).bind fun bt315 => ((spec_meLabels.f k bt315.1 bt315.2.1).bind fun t321 => (if t321 = true then ((spec_doBorder.f k bt315.1 bt315.2.1).bind fun t322 => (if (t322.length : Int) > 0 then ((spec_l1Cur_one.f s0_0 bt315.2.2.1 bt315.2.2.2 4).bind fun bt325 => (spec_l1Cur_door.j0 k bt315.1 bt315.2.1 t322 (!bt325.1) s0_0 bt325.2.1 bt325.2.2)) else (spec_l1Cur_door.j0 k bt315.1 bt315.2.1 t322 false s0_0 bt315.2.2.1 bt315.2.2.2))) else (some (bt315.1, bt315.2.1, 0, 1, bt315.2.2.1, bt315.2.2.2))))) = some (r1, r2, r3, r4, r5, r6) := h
 clear h
 replace H := Option.bind_eq_some_iff.mp H
 obtain ⟨⟨t315, t316, t319, t320⟩, A20, H⟩ := H
 (try dsimp only at H)
 have A2 := zA0 A20
 clear A20
 replace H := Option.bind_eq_some_iff.mp H
 obtain ⟨t321, A30, H⟩ := H
 (try dsimp only at H)
 have A3 := zA0 A30
 clear A30
 by_cases c4 : t321 = true
 ·
  subst c4
  rw [if_pos rfl] at H
  replace H := Option.bind_eq_some_iff.mp H
  obtain ⟨t322, A50, H⟩ := H
  (try dsimp only at H)
  have A5 := zA0 A50
  clear A50
  have HC6 := zA0 H
  clear H
  go_enter Try.func218, Try.ntmps218
  go_upto_region 5 with (first | (go_at_call 213; (with_reducible refine (spec_l1Cur_anyLabels.calls k g s0_0 s0_1 s0_2 4 t315 t316 t319 t320 w0 _ ?side1 ?side2 A2.out).mono ?_); (case side1 => exact zI101 HI0); (case side2 => exact zB HB); rintro e w7 ⟨v317, rfl, ho0, hi, hb, hk⟩; have n0_ := zA0 (Kd.R_lower ho0 (keep_size (w := w) (g := g) (row := none) (zK HK))); have n1_ := zA0 (KeepBut.trans (zK HK) hk (.inl rfl)); have n2_ := zA0 (hb); have n3_ := zA0 (hi); have HO318 := n0_; replace HK := n1_; replace HB := n2_; replace HI0 := n3_; clear n0_ n1_ n2_ n3_; (try clear hb); (try clear hb2); (try clear hk); (try clear hi); (try clear ho0); obtain ⟨Ao8, co8, eo8⟩ := Kd.R_slice HO318.out; subst eo8) | (go_at_call 214; (with_reducible refine (spec_meLabels.calls k t315 _ _ t316 true _ ?side1 ?side2 A3.out).mono ?_); (case side1 => exact zC (Kd.R_reads' HO318.out).2.2); (case side2 => exact (Kd.R_reads' HO318.out).2.1); rintro e w' ⟨rfl, ⟨nd, rfl⟩⟩; (try first | exact ⟨rfl, _, World.drewN_drewN _ _ _⟩ | exact ⟨rfl, _, Eq.trans (World.drewN_drewN _ _ _) (congrArg (World.drewN _) (Nat.add_assoc _ _ _))⟩)) | (go_at_call 217; (with_reducible refine (spec_doBorder.calls k t315 _ _ t316 t322 _ ?side1 ?side2 A5.out).mono ?_); (case side1 => exact zC (Kd.R_reads' HO318.out).2.2); (case side2 => exact (Kd.R_reads' HO318.out).2.1); rintro e w9 ⟨v323, rfl, ho0, hb⟩; have n0_ := zA0 (Kd.R_below (zR HO318) hb); have n1_ := zA0 (Kd.S_lower (Kd.S_new' ho0 (Kd.R_lt (zR HO318))) (keep_size (w := w) (g := g) (row := none) (zK HK))); have n2_ := zA0 (IsS101.below (zI101 HI0) hb); have n3_ := zA0 (KeepBut.trans (zK HK) (KeepBut.of_below hb g none) (.inl rfl)); have n4_ := zA0 (below_step (zB HB) hb); replace HO318 := n0_; have HO324 := n1_; replace HI0 := n2_; replace HK := n3_; replace HB := n4_; clear n0_ n1_ n2_ n3_ n4_; (try clear hb); (try clear hb2); (try clear hk); (try clear hi); (try clear ho0)))
  repeat (go_quiet (first | (go_at_call 213; (with_reducible refine (spec_l1Cur_anyLabels.calls k g s0_0 s0_1 s0_2 4 t315 t316 t319 t320 w0 _ ?side1 ?side2 A2.out).mono ?_); (case side1 => exact zI101 HI0); (case side2 => exact zB HB); rintro e w7 ⟨v317, rfl, ho0, hi, hb, hk⟩; have n0_ := zA0 (Kd.R_lower ho0 (keep_size (w := w) (g := g) (row := none) (zK HK))); have n1_ := zA0 (KeepBut.trans (zK HK) hk (.inl rfl)); have n2_ := zA0 (hb); have n3_ := zA0 (hi); have HO318 := n0_; replace HK := n1_; replace HB := n2_; replace HI0 := n3_; clear n0_ n1_ n2_ n3_; (try clear hb); (try clear hb2); (try clear hk); (try clear hi); (try clear ho0); obtain ⟨Ao8, co8, eo8⟩ := Kd.R_slice HO318.out; subst eo8) | (go_at_call 214; (with_reducible refine (spec_meLabels.calls k t315 _ _ t316 true _ ?side1 ?side2 A3.out).mono ?_); (case side1 => exact zC (Kd.R_reads' HO318.out).2.2); (case side2 => exact (Kd.R_reads' HO318.out).2.1); rintro e w' ⟨rfl, ⟨nd, rfl⟩⟩; (try first | exact ⟨rfl, _, World.drewN_drewN _ _ _⟩ | exact ⟨rfl, _, Eq.trans (World.drewN_drewN _ _ _) (congrArg (World.drewN _) (Nat.add_assoc _ _ _))⟩)) | (go_at_call 217; (with_reducible refine (spec_doBorder.calls k t315 _ _ t316 t322 _ ?side1 ?side2 A5.out).mono ?_); (case side1 => exact zC (Kd.R_reads' HO318.out).2.2); (case side2 => exact (Kd.R_reads' HO318.out).2.1); rintro e w9 ⟨v323, rfl, ho0, hb⟩; have n0_ := zA0 (Kd.R_below (zR HO318) hb); have n1_ := zA0 (Kd.S_lower (Kd.S_new' ho0 (Kd.R_lt (zR HO318))) (keep_size (w := w) (g := g) (row := none) (zK HK))); have n2_ := zA0 (IsS101.below (zI101 HI0) hb); have n3_ := zA0 (KeepBut.trans (zK HK) (KeepBut.of_below hb g none) (.inl rfl)); have n4_ := zA0 (below_step (zB HB) hb); replace HO318 := n0_; have HO324 := n1_; replace HI0 := n2_; replace HK := n3_; replace HB := n4_; clear n0_ n1_ n2_ n3_ n4_; (try clear hb); (try clear hb2); (try clear hk); (try clear hi); (try clear ho0))); go_upto_region 5 with (first | (go_at_call 213; (with_reducible refine (spec_l1Cur_anyLabels.calls k g s0_0 s0_1 s0_2 4 t315 t316 t319 t320 w0 _ ?side1 ?side2 A2.out).mono ?_); (case side1 => exact zI101 HI0); (case side2 => exact zB HB); rintro e w7 ⟨v317, rfl, ho0, hi, hb, hk⟩; have n0_ := zA0 (Kd.R_lower ho0 (keep_size (w := w) (g := g) (row := none) (zK HK))); have n1_ := zA0 (KeepBut.trans (zK HK) hk (.inl rfl)); have n2_ := zA0 (hb); have n3_ := zA0 (hi); have HO318 := n0_; replace HK := n1_; replace HB := n2_; replace HI0 := n3_; clear n0_ n1_ n2_ n3_; (try clear hb); (try clear hb2); (try clear hk); (try clear hi); (try clear ho0); obtain ⟨Ao8, co8, eo8⟩ := Kd.R_slice HO318.out; subst eo8) | (go_at_call 214; (with_reducible refine (spec_meLabels.calls k t315 _ _ t316 true _ ?side1 ?side2 A3.out).mono ?_); (case side1 => exact zC (Kd.R_reads' HO318.out).2.2); (case side2 => exact (Kd.R_reads' HO318.out).2.1); rintro e w' ⟨rfl, ⟨nd, rfl⟩⟩; (try first | exact ⟨rfl, _, World.drewN_drewN _ _ _⟩ | exact ⟨rfl, _, Eq.trans (World.drewN_drewN _ _ _) (congrArg (World.drewN _) (Nat.add_assoc _ _ _))⟩)) | (go_at_call 217; (with_reducible refine (spec_doBorder.calls k t315 _ _ t316 t322 _ ?side1 ?side2 A5.out).mono ?_); (case side1 => exact zC (Kd.R_reads' HO318.out).2.2); (case side2 => exact (Kd.R_reads' HO318.out).2.1); rintro e w9 ⟨v323, rfl, ho0, hb⟩; have n0_ := zA0 (Kd.R_below (zR HO318) hb); have n1_ := zA0 (Kd.S_lower (Kd.S_new' ho0 (Kd.R_lt (zR HO318))) (keep_size (w := w) (g := g) (row := none) (zK HK))); have n2_ := zA0 (IsS101.below (zI101 HI0) hb); have n3_ := zA0 (KeepBut.trans (zK HK) (KeepBut.of_below hb g none) (.inl rfl)); have n4_ := zA0 (below_step (zB HB) hb); replace HO318 := n0_; have HO324 := n1_; replace HI0 := n2_; replace HK := n3_; replace HB := n4_; clear n0_ n1_ n2_ n3_ n4_; (try clear hb); (try clear hb2); (try clear hk); (try clear hi); (try clear ho0))))
  (try simp only [Act.put, List.setIfInBounds_toArray, List.set_cons_zero, List.set_cons_succ])
  go_cut [33] (fun v33 wc => ∃ (kq : Nat) (x33_5 : Bool) (x1001_5 : Int) (x1002_5 : Int), v33 = .bool x33_5 ∧ Aside0 (spec_l1Cur_door.j0 kq t315 t316 t322 x33_5 s0_0 x1001_5 x1002_5 = some (r1, r2, r3, r4, r5, r6)) ∧ Aside0 (kq ≤ k) ∧ Aside0 (Kd.R (Kd.int .i64) 3 wc w.heap.size (fun _ => True) (.slice Ao8 t316.length co8) t316) ∧ Aside0 (Kd.S (Kd.slice 3 (Kd.int .i64)) 22 wc w.heap.size (fun k_ => some k_ ≠ ((.slice Ao8 t316.length co8) : Value).ownBlock) v323 t322) ∧ Aside0 (IsS101 w0 wc g s0_0 x1001_5 x1002_5) ∧ Aside0 (KeepBut w wc g none) ∧ Aside0 (Below w0.heap.size w0 wc))
  case first =>
   have H := HC6.out
   clear HC6
   by_cases c10 : (t322.length : Int) > 0
   ·
    rw [if_pos c10] at H
    have c10b0 : decide (0 < (t322.length : Int)) = true := decide_eq_true c10
    have c10b1 : decide (0 < t322.length) = true := decide_eq_true (by omega)
    clear c10
    (first | rw [c10b0] | (simp only [i64_w, i32_w]; rw [c10b0]) | skip)
    replace H := Option.bind_eq_some_iff.mp H
    obtain ⟨⟨t325, t326, t327⟩, A110, H⟩ := H
    (try dsimp only at H)
    have A11 := zA0 A110
    clear A110
    have H' := zA0 H
    clear H
    obtain ⟨Ao12, co12, eo12⟩ := Kd.S_slice HO324.out
    subst eo12
    go_wp2_with (first | (go_at_call 178; (with_reducible refine (spec_l1Cur_one.calls g s0_0 t319 t320 4 t325 t326 t327 w0 _ ?side1 ?side2 A11.out).mono ?_); (case side1 => exact zI101 HI0); (case side2 => exact zB HB); rintro e w13 ⟨rfl, hi, hb, hk⟩; have n0_ := zA0 (Kd.R_mono (Kd.R_keep (IsS101.apart (show IsS101 w0 _ g s0_0 t319 t320 from zI101 HI0) (zR HO318) (by decide)) hk (fun _ h => h.2)) (fun _ h => h.1)); have n1_ := zA0 (Kd.S_mono (Kd.S_keep (IsS101.apartS (show IsS101 w0 _ g s0_0 t319 t320 from zI101 HI0) (zS HO324) (by decide)) hk (fun _ h => h.2)) (fun _ h => h.1)); have n2_ := zA0 (KeepBut.trans (zK HK) hk (.inl rfl)); have n3_ := zA0 (hb); have n4_ := zA0 (hi); replace HO318 := n0_; replace HO324 := n1_; replace HK := n2_; replace HB := n3_; replace HI0 := n4_; clear n0_ n1_ n2_ n3_ n4_; (try clear hb); (try clear hb2); (try clear hk); (try clear hi)))
    repeat (go_quiet (first | (go_at_call 178; (with_reducible refine (spec_l1Cur_one.calls g s0_0 t319 t320 4 t325 t326 t327 w0 _ ?side1 ?side2 A11.out).mono ?_); (case side1 => exact zI101 HI0); (case side2 => exact zB HB); rintro e w13 ⟨rfl, hi, hb, hk⟩; have n0_ := zA0 (Kd.R_mono (Kd.R_keep (IsS101.apart (show IsS101 w0 _ g s0_0 t319 t320 from zI101 HI0) (zR HO318) (by decide)) hk (fun _ h => h.2)) (fun _ h => h.1)); have n1_ := zA0 (Kd.S_mono (Kd.S_keep (IsS101.apartS (show IsS101 w0 _ g s0_0 t319 t320 from zI101 HI0) (zS HO324) (by decide)) hk (fun _ h => h.2)) (fun _ h => h.1)); have n2_ := zA0 (KeepBut.trans (zK HK) hk (.inl rfl)); have n3_ := zA0 (hb); have n4_ := zA0 (hi); replace HO318 := n0_; replace HO324 := n1_; replace HK := n2_; replace HB := n3_; replace HI0 := n4_; clear n0_ n1_ n2_ n3_ n4_; (try clear hb); (try clear hb2); (try clear hk); (try clear hi))); try go_wp2_with (first | (go_at_call 178; (with_reducible refine (spec_l1Cur_one.calls g s0_0 t319 t320 4 t325 t326 t327 w0 _ ?side1 ?side2 A11.out).mono ?_); (case side1 => exact zI101 HI0); (case side2 => exact zB HB); rintro e w13 ⟨rfl, hi, hb, hk⟩; have n0_ := zA0 (Kd.R_mono (Kd.R_keep (IsS101.apart (show IsS101 w0 _ g s0_0 t319 t320 from zI101 HI0) (zR HO318) (by decide)) hk (fun _ h => h.2)) (fun _ h => h.1)); have n1_ := zA0 (Kd.S_mono (Kd.S_keep (IsS101.apartS (show IsS101 w0 _ g s0_0 t319 t320 from zI101 HI0) (zS HO324) (by decide)) hk (fun _ h => h.2)) (fun _ h => h.1)); have n2_ := zA0 (KeepBut.trans (zK HK) hk (.inl rfl)); have n3_ := zA0 (hb); have n4_ := zA0 (hi); replace HO318 := n0_; replace HO324 := n1_; replace HK := n2_; replace HB := n3_; replace HI0 := n4_; clear n0_ n1_ n2_ n3_ n4_; (try clear hb); (try clear hb2); (try clear hk); (try clear hi))))
    go_meet
    case rel => exact ⟨_, (!t325), (t326), (t327), (by first | rfl | (simp; done) | (simp [*]; done) | (simp; decide) | (simp; unfold wrap64; omega)), H', ⟨by first | omega | exact Nat.le_refl _⟩, ⟨zR HO318⟩, ⟨by (with_reducible repeat (first | apply zsA | apply zsN | apply zsD)); exact Kd.S_mono HO324.out (fun _ hk => hk.2)⟩, ⟨zI101 HI0⟩, ⟨zK HK⟩, ⟨zB HB⟩⟩
   ·
    rw [if_neg c10] at H
    have c10b0 : decide (0 < (t322.length : Int)) = false := decide_eq_false c10
    have c10b1 : decide (0 < t322.length) = false := decide_eq_false (by omega)
    clear c10
    (first | rw [c10b0] | (simp only [i64_w, i32_w]; rw [c10b0]) | skip)
    have H' := zA0 H
    clear H
    obtain ⟨Ao14, co14, eo14⟩ := Kd.S_slice HO324.out
    subst eo14
    go_wp2
    repeat (go_quiet (fail); try go_wp2)
    go_meet
    case rel => exact ⟨_, (false), (t319), (t320), (by first | rfl | (simp; done) | (simp [*]; done) | (simp; decide) | (simp; unfold wrap64; omega)), H', ⟨by first | omega | exact Nat.le_refl _⟩, ⟨zR HO318⟩, ⟨by (with_reducible repeat (first | apply zsA | apply zsN | apply zsD)); exact Kd.S_mono HO324.out (fun _ hk => hk.2)⟩, ⟨zI101 HI0⟩, ⟨zK HK⟩, ⟨zB HB⟩⟩
  case rest =>
   clear HC6
   try clear c1
   try clear c2
   try clear p2
   try clear c4
   try clear p6
   try clear c10
   try clear c10b0
   try clear c10b1
   obtain ⟨kq, x33_5, x1001_5, x1002_5, rfl, HA, HJ5, HO_7, HO_8, HI0, HK, HB⟩ := hcut
   cases kq with
   | zero => exact absurd HA.out (by simp [spec_l1Cur_door.j0])
   | succ kj5 =>
    have H := HA.out
    clear HA
    simp only [spec_l1Cur_door.j0] at H
    by_cases c15 : x33_5 = true
    ·
     subst c15
     rw [if_pos rfl] at H
     replace H := Option.bind_eq_some_iff.mp H
     obtain ⟨⟨t328, t329, t330⟩, A160, H⟩ := H
     (try dsimp only at H)
     have A16 := zA0 A160
     clear A160
     by_cases c17 : 0 ≤ t328
     ·
      rw [if_pos c17] at H
      have c17b0 : decide (0 ≤ t328) = true := decide_eq_true c17
      clear c17
      by_cases c18 : t328 < (t322.length : Int)
      ·
       rw [if_pos c18] at H
       have c18b0 : decide (t328 < (t322.length : Int)) = true := decide_eq_true c18
       clear c18
       replace H := Option.bind_eq_some_iff.mp H
       obtain ⟨⟨t332, t333, t334⟩, A190, H⟩ := H
       (try dsimp only at H)
       have A19 := zA0 A190
       clear A190
       by_cases c20 : 0 ≤ t332
       ·
        rw [if_pos c20] at H
        have c20b0 : decide (0 ≤ t332) = true := decide_eq_true c20
        clear c20
        by_cases c21 : t332 < ((rd_L2 t322 t328).length : Int)
        ·
         rw [if_pos c21] at H
         have c21b0 : decide (t332 < ((rd_L2 t322 t328).length : Int)) = true := decide_eq_true c21
         clear c21
         obtain ⟨ji22, hji22⟩ : ∃ j_ : Int, (wrap64 (1 - t332)) = j_ := ⟨_, rfl⟩
         replace H : (if 0 ≤ (ji22) then (if (ji22) < ((rd_L2 t322 t328).length : Int) then (some (t315, t316, rd (rd_L2 t322 t328) t332, rd (rd_L2 t322 t328) (ji22), t333, t334)) else (none)) else (none)) = some (r1, r2, r3, r4, r5, r6) := by first | (rw [hji22] at H; exact H) | (simp only [hji22] at H ⊢; exact H)
         (try rw [hji22] at A16)
         (try rw [hji22] at A19)
         have hji22w : (IntKind.i64.wrap (1 - t332)) = ji22 := (i64_w _).trans hji22
         by_cases c23 : 0 ≤ (ji22)
         ·
          rw [if_pos c23] at H
          have c23b0 : decide (0 ≤ (ji22)) = true := decide_eq_true c23
          clear c23
          by_cases c24 : (ji22) < ((rd_L2 t322 t328).length : Int)
          ·
           rw [if_pos c24] at H
           have c24b0 : decide ((ji22) < ((rd_L2 t322 t328).length : Int)) = true := decide_eq_true c24
           clear c24
           simp only [Option.some.injEq, Prod.mk.injEq] at H
           obtain ⟨rfl, rfl, rfl, rfl, rfl, rfl⟩ := H
           obtain ⟨Ao25, co25, eo25⟩ := Kd.S_slice HO_8.out
           subst eo25
           go_wp2_with (first | (go_at_call 177; (with_reducible refine (spec_l1Cur_pick.calls g s0_0 x1001_5 x1002_5 (t322.length : Int) t328 t329 t330 w0 _ ?side1 ?side2 A16.out).mono ?_); (case side1 => exact zI101 HI0); (case side2 => exact zB HB); rintro e w26 ⟨rfl, hi, hb, hk⟩; have n0_ := zA0 (Kd.R_mono (Kd.R_keep (IsS101.apart (show IsS101 w0 _ g s0_0 x1001_5 x1002_5 from zI101 HI0) (zR HO_7) (by decide)) hk (fun _ h => h.2)) (fun _ h => h.1)); have n1_ := zA0 (Kd.S_mono (Kd.S_keep (IsS101.apartS (show IsS101 w0 _ g s0_0 x1001_5 x1002_5 from zI101 HI0) (zS HO_8) (by decide)) hk (fun _ h => h.2)) (fun _ h => h.1)); have n2_ := zA0 (KeepBut.trans (zK HK) hk (.inl rfl)); have n3_ := zA0 (hb); have n4_ := zA0 (hi); replace HO_7 := n0_; replace HO_8 := n1_; replace HK := n2_; replace HB := n3_; replace HI0 := n4_; clear n0_ n1_ n2_ n3_ n4_; (try clear hb); (try clear hb2); (try clear hk); (try clear hi); have p331 : 0 ≤ (t328 : Int) := of_decide_eq_true (by first | (with_reducible assumption) | assumption); have q331 : t328 < (t322.length : Int) := of_decide_eq_true (by first | (with_reducible assumption) | assumption); obtain ⟨ad331, A331_0, c331_0, e331, hx331_0, hl331_0, hi331_0⟩ := at_L2 (Kd.S_reads' HO_8.out).2.2 t328 p331 q331; cases e331; obtain ⟨ce331, hce331, hMe331, hcc331⟩ := Kd.S_get HO_8.out [] t328 p331 (by first | exact q331 | exact of_decide_eq_true (by first | (with_reducible assumption) | assumption) | (have e_ := (Kd.S_reads' HO_8.out).1; omega)); obtain ⟨ve331_0, rfl, ge331_0⟩ := hMe331; have hv331_0 := hcc331 0 _ rfl; rw [Nat.add_zero, show ((Kd.slice 3 (Kd.int .i64))).sz = 1 from rfl, Nat.mul_one] at hv331_0; replace hv331_0 := Option.some.inj (hv331_0.symm.trans hx331_0); rw [hv331_0] at ge331_0; have HL331_0 := zA0 (show Kd.R (Kd.int .i64) 3 _ _ _ _ (rd_L2 t322 t328) from ge331_0); clear hv331_0 ge331_0; clear hcc331 hce331; have HR331_0 := zA0 hi331_0; have HC331_0 := zA0 hl331_0; clear hi331_0 hl331_0; replace p331 := eq_true p331; replace q331 := eq_true q331) | (go_at_call 177; (with_reducible refine (spec_l1Cur_pick.calls g s0_0 t329 t330 2 t332 t333 t334 w0 _ ?side1 ?side2 A19.out).mono ?_); (case side1 => exact zI101 HI0); (case side2 => exact zB HB); rintro e w27 ⟨rfl, hi, hb, hk⟩; have n0_ := zA0 (Kd.R_mono (Kd.R_keep (IsS101.apart (show IsS101 w0 _ g s0_0 t329 t330 from zI101 HI0) (zR HO_7) (by decide)) hk (fun _ h => h.2)) (fun _ h => h.1)); have n1_ := zA0 (Kd.S_mono (Kd.S_keep (IsS101.apartS (show IsS101 w0 _ g s0_0 t329 t330 from zI101 HI0) (zS HO_8) (by decide)) hk (fun _ h => h.2)) (fun _ h => h.1)); have n2_ := zA0 (Kd.R_mono (Kd.R_keep (IsS101.apart (show IsS101 w0 _ g s0_0 t329 t330 from zI101 HI0) (zR HL331_0) (by decide)) hk (fun _ h => h.2)) (fun _ h => h.1)); have n3_ := zA0 (KeepBut.trans (zK HK) hk (.inl rfl)); have n4_ := zA0 (hb); have n5_ := zA0 (hi); replace HO_7 := n0_; replace HO_8 := n1_; replace HL331_0 := n2_; replace HK := n3_; replace HB := n4_; replace HI0 := n5_; clear n0_ n1_ n2_ n3_ n4_ n5_; (try clear hb); (try clear hb2); (try clear hk); (try clear hi); have p335 : 0 ≤ (t332 : Int) := of_decide_eq_true (by first | (with_reducible assumption) | assumption); have q335 : t332 < ((rd_L2 t322 t328).length : Int) := of_decide_eq_true (by first | (with_reducible assumption) | assumption); obtain ⟨ad335, e335, hx335_0⟩ := Kd.at_int ((Kd.R_reads' HL331_0.out).2.2) t332 p335 q335; cases e335; replace p335 := eq_true p335; replace q335 := eq_true q335; have p336 : 0 ≤ ((ji22) : Int) := of_decide_eq_true (by first | (with_reducible assumption) | assumption); have q336 : (ji22) < ((rd_L2 t322 t328).length : Int) := of_decide_eq_true (by first | (with_reducible assumption) | assumption); obtain ⟨ad336, e336, hx336_0⟩ := Kd.at_int ((Kd.R_reads' HL331_0.out).2.2) (ji22) p336 q336; obtain rfl : ad335 = ad336 := (by injection e336); replace p336 := eq_true p336; replace q336 := eq_true q336))
           repeat (go_quiet (first | (go_at_call 177; (with_reducible refine (spec_l1Cur_pick.calls g s0_0 x1001_5 x1002_5 (t322.length : Int) t328 t329 t330 w0 _ ?side1 ?side2 A16.out).mono ?_); (case side1 => exact zI101 HI0); (case side2 => exact zB HB); rintro e w26 ⟨rfl, hi, hb, hk⟩; have n0_ := zA0 (Kd.R_mono (Kd.R_keep (IsS101.apart (show IsS101 w0 _ g s0_0 x1001_5 x1002_5 from zI101 HI0) (zR HO_7) (by decide)) hk (fun _ h => h.2)) (fun _ h => h.1)); have n1_ := zA0 (Kd.S_mono (Kd.S_keep (IsS101.apartS (show IsS101 w0 _ g s0_0 x1001_5 x1002_5 from zI101 HI0) (zS HO_8) (by decide)) hk (fun _ h => h.2)) (fun _ h => h.1)); have n2_ := zA0 (KeepBut.trans (zK HK) hk (.inl rfl)); have n3_ := zA0 (hb); have n4_ := zA0 (hi); replace HO_7 := n0_; replace HO_8 := n1_; replace HK := n2_; replace HB := n3_; replace HI0 := n4_; clear n0_ n1_ n2_ n3_ n4_; (try clear hb); (try clear hb2); (try clear hk); (try clear hi); have p331 : 0 ≤ (t328 : Int) := of_decide_eq_true (by first | (with_reducible assumption) | assumption); have q331 : t328 < (t322.length : Int) := of_decide_eq_true (by first | (with_reducible assumption) | assumption); obtain ⟨ad331, A331_0, c331_0, e331, hx331_0, hl331_0, hi331_0⟩ := at_L2 (Kd.S_reads' HO_8.out).2.2 t328 p331 q331; cases e331; obtain ⟨ce331, hce331, hMe331, hcc331⟩ := Kd.S_get HO_8.out [] t328 p331 (by first | exact q331 | exact of_decide_eq_true (by first | (with_reducible assumption) | assumption) | (have e_ := (Kd.S_reads' HO_8.out).1; omega)); obtain ⟨ve331_0, rfl, ge331_0⟩ := hMe331; have hv331_0 := hcc331 0 _ rfl; rw [Nat.add_zero, show ((Kd.slice 3 (Kd.int .i64))).sz = 1 from rfl, Nat.mul_one] at hv331_0; replace hv331_0 := Option.some.inj (hv331_0.symm.trans hx331_0); rw [hv331_0] at ge331_0; have HL331_0 := zA0 (show Kd.R (Kd.int .i64) 3 _ _ _ _ (rd_L2 t322 t328) from ge331_0); clear hv331_0 ge331_0; clear hcc331 hce331; have HR331_0 := zA0 hi331_0; have HC331_0 := zA0 hl331_0; clear hi331_0 hl331_0; replace p331 := eq_true p331; replace q331 := eq_true q331) | (go_at_call 177; (with_reducible refine (spec_l1Cur_pick.calls g s0_0 t329 t330 2 t332 t333 t334 w0 _ ?side1 ?side2 A19.out).mono ?_); (case side1 => exact zI101 HI0); (case side2 => exact zB HB); rintro e w27 ⟨rfl, hi, hb, hk⟩; have n0_ := zA0 (Kd.R_mono (Kd.R_keep (IsS101.apart (show IsS101 w0 _ g s0_0 t329 t330 from zI101 HI0) (zR HO_7) (by decide)) hk (fun _ h => h.2)) (fun _ h => h.1)); have n1_ := zA0 (Kd.S_mono (Kd.S_keep (IsS101.apartS (show IsS101 w0 _ g s0_0 t329 t330 from zI101 HI0) (zS HO_8) (by decide)) hk (fun _ h => h.2)) (fun _ h => h.1)); have n2_ := zA0 (Kd.R_mono (Kd.R_keep (IsS101.apart (show IsS101 w0 _ g s0_0 t329 t330 from zI101 HI0) (zR HL331_0) (by decide)) hk (fun _ h => h.2)) (fun _ h => h.1)); have n3_ := zA0 (KeepBut.trans (zK HK) hk (.inl rfl)); have n4_ := zA0 (hb); have n5_ := zA0 (hi); replace HO_7 := n0_; replace HO_8 := n1_; replace HL331_0 := n2_; replace HK := n3_; replace HB := n4_; replace HI0 := n5_; clear n0_ n1_ n2_ n3_ n4_ n5_; (try clear hb); (try clear hb2); (try clear hk); (try clear hi); have p335 : 0 ≤ (t332 : Int) := of_decide_eq_true (by first | (with_reducible assumption) | assumption); have q335 : t332 < ((rd_L2 t322 t328).length : Int) := of_decide_eq_true (by first | (with_reducible assumption) | assumption); obtain ⟨ad335, e335, hx335_0⟩ := Kd.at_int ((Kd.R_reads' HL331_0.out).2.2) t332 p335 q335; cases e335; replace p335 := eq_true p335; replace q335 := eq_true q335; have p336 : 0 ≤ ((ji22) : Int) := of_decide_eq_true (by first | (with_reducible assumption) | assumption); have q336 : (ji22) < ((rd_L2 t322 t328).length : Int) := of_decide_eq_true (by first | (with_reducible assumption) | assumption); obtain ⟨ad336, e336, hx336_0⟩ := Kd.at_int ((Kd.R_reads' HL331_0.out).2.2) (ji22) p336 q336; obtain rfl : ad335 = ad336 := (by injection e336); replace p336 := eq_true p336; replace q336 := eq_true q336)); try go_wp2_with (first | (go_at_call 177; (with_reducible refine (spec_l1Cur_pick.calls g s0_0 x1001_5 x1002_5 (t322.length : Int) t328 t329 t330 w0 _ ?side1 ?side2 A16.out).mono ?_); (case side1 => exact zI101 HI0); (case side2 => exact zB HB); rintro e w26 ⟨rfl, hi, hb, hk⟩; have n0_ := zA0 (Kd.R_mono (Kd.R_keep (IsS101.apart (show IsS101 w0 _ g s0_0 x1001_5 x1002_5 from zI101 HI0) (zR HO_7) (by decide)) hk (fun _ h => h.2)) (fun _ h => h.1)); have n1_ := zA0 (Kd.S_mono (Kd.S_keep (IsS101.apartS (show IsS101 w0 _ g s0_0 x1001_5 x1002_5 from zI101 HI0) (zS HO_8) (by decide)) hk (fun _ h => h.2)) (fun _ h => h.1)); have n2_ := zA0 (KeepBut.trans (zK HK) hk (.inl rfl)); have n3_ := zA0 (hb); have n4_ := zA0 (hi); replace HO_7 := n0_; replace HO_8 := n1_; replace HK := n2_; replace HB := n3_; replace HI0 := n4_; clear n0_ n1_ n2_ n3_ n4_; (try clear hb); (try clear hb2); (try clear hk); (try clear hi); have p331 : 0 ≤ (t328 : Int) := of_decide_eq_true (by first | (with_reducible assumption) | assumption); have q331 : t328 < (t322.length : Int) := of_decide_eq_true (by first | (with_reducible assumption) | assumption); obtain ⟨ad331, A331_0, c331_0, e331, hx331_0, hl331_0, hi331_0⟩ := at_L2 (Kd.S_reads' HO_8.out).2.2 t328 p331 q331; cases e331; obtain ⟨ce331, hce331, hMe331, hcc331⟩ := Kd.S_get HO_8.out [] t328 p331 (by first | exact q331 | exact of_decide_eq_true (by first | (with_reducible assumption) | assumption) | (have e_ := (Kd.S_reads' HO_8.out).1; omega)); obtain ⟨ve331_0, rfl, ge331_0⟩ := hMe331; have hv331_0 := hcc331 0 _ rfl; rw [Nat.add_zero, show ((Kd.slice 3 (Kd.int .i64))).sz = 1 from rfl, Nat.mul_one] at hv331_0; replace hv331_0 := Option.some.inj (hv331_0.symm.trans hx331_0); rw [hv331_0] at ge331_0; have HL331_0 := zA0 (show Kd.R (Kd.int .i64) 3 _ _ _ _ (rd_L2 t322 t328) from ge331_0); clear hv331_0 ge331_0; clear hcc331 hce331; have HR331_0 := zA0 hi331_0; have HC331_0 := zA0 hl331_0; clear hi331_0 hl331_0; replace p331 := eq_true p331; replace q331 := eq_true q331) | (go_at_call 177; (with_reducible refine (spec_l1Cur_pick.calls g s0_0 t329 t330 2 t332 t333 t334 w0 _ ?side1 ?side2 A19.out).mono ?_); (case side1 => exact zI101 HI0); (case side2 => exact zB HB); rintro e w27 ⟨rfl, hi, hb, hk⟩; have n0_ := zA0 (Kd.R_mono (Kd.R_keep (IsS101.apart (show IsS101 w0 _ g s0_0 t329 t330 from zI101 HI0) (zR HO_7) (by decide)) hk (fun _ h => h.2)) (fun _ h => h.1)); have n1_ := zA0 (Kd.S_mono (Kd.S_keep (IsS101.apartS (show IsS101 w0 _ g s0_0 t329 t330 from zI101 HI0) (zS HO_8) (by decide)) hk (fun _ h => h.2)) (fun _ h => h.1)); have n2_ := zA0 (Kd.R_mono (Kd.R_keep (IsS101.apart (show IsS101 w0 _ g s0_0 t329 t330 from zI101 HI0) (zR HL331_0) (by decide)) hk (fun _ h => h.2)) (fun _ h => h.1)); have n3_ := zA0 (KeepBut.trans (zK HK) hk (.inl rfl)); have n4_ := zA0 (hb); have n5_ := zA0 (hi); replace HO_7 := n0_; replace HO_8 := n1_; replace HL331_0 := n2_; replace HK := n3_; replace HB := n4_; replace HI0 := n5_; clear n0_ n1_ n2_ n3_ n4_ n5_; (try clear hb); (try clear hb2); (try clear hk); (try clear hi); have p335 : 0 ≤ (t332 : Int) := of_decide_eq_true (by first | (with_reducible assumption) | assumption); have q335 : t332 < ((rd_L2 t322 t328).length : Int) := of_decide_eq_true (by first | (with_reducible assumption) | assumption); obtain ⟨ad335, e335, hx335_0⟩ := Kd.at_int ((Kd.R_reads' HL331_0.out).2.2) t332 p335 q335; cases e335; replace p335 := eq_true p335; replace q335 := eq_true q335; have p336 : 0 ≤ ((ji22) : Int) := of_decide_eq_true (by first | (with_reducible assumption) | assumption); have q336 : (ji22) < ((rd_L2 t322 t328).length : Int) := of_decide_eq_true (by first | (with_reducible assumption) | assumption); obtain ⟨ad336, e336, hx336_0⟩ := Kd.at_int ((Kd.R_reads' HL331_0.out).2.2) (ji22) p336 q336; obtain rfl : ad335 = ad336 := (by injection e336); replace p336 := eq_true p336; replace q336 := eq_true q336)))
           refine bodyPost_ret (results_list (rs := [.tmp 2, .tmp 3, .tmp 4, .tmp 5]) rfl (by simp) (.tmp (.tmp (.tmp (.tmp .nil))))) rfl ?_
           exact ⟨_, by first | rfl | (simp [errW_none, errW_some] <;> rfl) | (simp only [← hji22]; first | rfl | (simp [errW_none, errW_some] <;> rfl)) | (simp [*, errW_none, errW_some] <;> rfl), zR HO_7, zI101 HI0, zB HB, zK HK⟩
          ·
           rw [if_neg c24] at H
           exact absurd H (by simp)
         ·
          rw [if_neg c23] at H
          exact absurd H (by simp)
        ·
         rw [if_neg c21] at H
         exact absurd H (by simp)
       ·
        rw [if_neg c20] at H
        exact absurd H (by simp)
      ·
       rw [if_neg c18] at H
       exact absurd H (by simp)
     ·
      rw [if_neg c17] at H
      exact absurd H (by simp)
    ·
     replace c15 := Bool.eq_false_iff.mpr c15
     subst c15
     rw [if_neg (show ¬ (false = true) by decide)] at H
     replace H := Option.bind_eq_some_iff.mp H
     obtain ⟨⟨t337, t338, t339⟩, A280, H⟩ := H
     (try dsimp only at H)
     have A28 := zA0 A280
     clear A280
     obtain ⟨y340, hy340⟩ : ∃ y_ : List Int, y_ = (([1, 2, 3, (-1), 0] : List Int)) := ⟨_, rfl⟩
     replace H : ((spec_l1Cur_among.f s0_0 t338 t339 y340).bind fun bt343 => (some (t315, t316, t337, wrap64 (t337 + bt343.1), bt343.2.1, bt343.2.2))) = some (r1, r2, r3, r4, r5, r6) := by first | (rw [hy340]; with_reducible exact H) | (have H2_ := (Option.bind_some _ _).symm.trans H; rw [hy340]; with_reducible exact H2_) | (have H2_ := (Option.bind_some _ _).symm.trans H; with_reducible exact H2_) | with_reducible exact H | (rw [hy340]; exact H) | exact H
     have Ny340 := zA0 hy340
     clear hy340
     replace H := Option.bind_eq_some_iff.mp H
     obtain ⟨⟨t343, t344, t345⟩, A290, H⟩ := H
     (try dsimp only at H)
     have A29 := zA0 A290
     clear A290
     simp only [Option.some.injEq, Prod.mk.injEq] at H
     obtain ⟨rfl, rfl, rfl, rfl, rfl, rfl⟩ := H
     go_wp2_with (first | (go_at_call 177; (with_reducible refine (spec_l1Cur_pick.calls g s0_0 x1001_5 x1002_5 (t316.length : Int) t337 t338 t339 w0 _ ?side1 ?side2 A28.out).mono ?_); (case side1 => exact zI101 HI0); (case side2 => exact zB HB); rintro e w30 ⟨rfl, hi, hb, hk⟩; have n0_ := zA0 (Kd.R_mono (Kd.R_keep (IsS101.apart (show IsS101 w0 _ g s0_0 x1001_5 x1002_5 from zI101 HI0) (zR HO_7) (by decide)) hk (fun _ h => h.2)) (fun _ h => h.1)); have n1_ := zA0 (Kd.S_mono (Kd.S_keep (IsS101.apartS (show IsS101 w0 _ g s0_0 x1001_5 x1002_5 from zI101 HI0) (zS HO_8) (by decide)) hk (fun _ h => h.2)) (fun _ h => h.1)); have n2_ := zA0 (KeepBut.trans (zK HK) hk (.inl rfl)); have n3_ := zA0 (hb); have n4_ := zA0 (hi); replace HO_7 := n0_; replace HO_8 := n1_; replace HK := n2_; replace HB := n3_; replace HI0 := n4_; clear n0_ n1_ n2_ n3_ n4_; (try clear hb); (try clear hb2); (try clear hk); (try clear hi)) | ((with_reducible refine gate_dst (N := 63) rfl ?_); refine Kd.R_lit (Kd.int .i64) _ 3 ?hg (N := 63) ?hd (xs := ([1, 2, 3, (-1), 0] : List Int)) (inner := [.int .i64 1, .int .i64 2, .int .i64 3, .int .i64 (-1), .int .i64 0]) (ok := fun _ => True) (okp := fun _ => True) ?hr ?hp (fun _ hk => hk) trivial (Below.refl _ _) (Nat.le_refl _) (by simp) ?_; (case hd => rfl); (case hg => rfl); (case hr => first | (go_simp; done) | (go_simp; rfl)); (case hp => exact (Reps.one (show Kd.M (Kd.int .i64) _ _ _ 1 [.int .i64 1] from rfl) (Reps.one (show Kd.M (Kd.int .i64) _ _ _ 2 [.int .i64 2] from rfl) (Reps.one (show Kd.M (Kd.int .i64) _ _ _ 3 [.int .i64 3] from rfl) (Reps.one (show Kd.M (Kd.int .i64) _ _ _ (-1) [.int .i64 (-1)] from rfl) (Reps.one (show Kd.M (Kd.int .i64) _ _ _ 0 [.int .i64 0] from rfl) (Reps.none _ _))))))); intro v341 w31 ho32 hb hg_ hnew_; clear hg_ hnew_; (first | rw [← Ny340.out] at ho32 | (simp only [Int.reduceToNat] at ho32; rw [← Ny340.out] at ho32)); have n0_ := zA0 (Kd.R_elder' (zR HO_7) (Kd.R_base ho32) hb); have n1_ := zA0 (Kd.S_elder' (zS HO_8) (Kd.R_base ho32) hb); have n2_ := zA0 (Kd.R_lower (Kd.R_new' ho32 (Kd.R_lt (zR HO_7))) (keep_size (w := w) (g := g) (row := none) (zK HK))); have n3_ := zA0 (IsS101.below (zI101 HI0) hb); have n4_ := zA0 (KeepBut.trans (zK HK) (KeepBut.of_below hb g none) (.inl rfl)); have n5_ := zA0 (below_step (zB HB) hb); replace HO_7 := n0_; replace HO_8 := n1_; have HO342 := n2_; replace HI0 := n3_; replace HK := n4_; replace HB := n5_; clear n0_ n1_ n2_ n3_ n4_ n5_; clear hb ho32; obtain ⟨Ao33, co33, eo33⟩ := Kd.R_slice HO342.out; subst eo33) | (go_at_call 179; (with_reducible refine (spec_l1Cur_among.calls g s0_0 t338 t339 _ _ y340 t343 t344 t345 w0 _ ?side1 ?side2 ?side3 ?side4 ?side5 A29.out).mono ?_); (case side1 => exact zI101 HI0); (case side2 => exact zB HB); (case side3 => exact zC (Kd.R_reads' HO342.out).2.2); (case side4 => exact (Kd.R_reads' HO342.out).2.1); (case side5 => exact far_slice (IsS101.own_ne HI0.out HO342.out (by decide))); rintro e w34 ⟨rfl, hi, hb, hk⟩; have n0_ := zA0 (Kd.R_mono (Kd.R_keep (IsS101.apart (show IsS101 w0 _ g s0_0 t338 t339 from zI101 HI0) (zR HO_7) (by decide)) hk (fun _ h => h.2)) (fun _ h => h.1)); have n1_ := zA0 (Kd.S_mono (Kd.S_keep (IsS101.apartS (show IsS101 w0 _ g s0_0 t338 t339 from zI101 HI0) (zS HO_8) (by decide)) hk (fun _ h => h.2)) (fun _ h => h.1)); have n2_ := zA0 (Kd.R_mono (Kd.R_keep (IsS101.apart (show IsS101 w0 _ g s0_0 t338 t339 from zI101 HI0) (zR HO342) (by decide)) hk (fun _ h => h.2)) (fun _ h => h.1)); have n3_ := zA0 (KeepBut.trans (zK HK) hk (.inl rfl)); have n4_ := zA0 (hb); have n5_ := zA0 (hi); replace HO_7 := n0_; replace HO_8 := n1_; replace HO342 := n2_; replace HK := n3_; replace HB := n4_; replace HI0 := n5_; clear n0_ n1_ n2_ n3_ n4_ n5_; (try clear hb); (try clear hb2); (try clear hk); (try clear hi)))
     repeat (go_quiet (first | (go_at_call 177; (with_reducible refine (spec_l1Cur_pick.calls g s0_0 x1001_5 x1002_5 (t316.length : Int) t337 t338 t339 w0 _ ?side1 ?side2 A28.out).mono ?_); (case side1 => exact zI101 HI0); (case side2 => exact zB HB); rintro e w30 ⟨rfl, hi, hb, hk⟩; have n0_ := zA0 (Kd.R_mono (Kd.R_keep (IsS101.apart (show IsS101 w0 _ g s0_0 x1001_5 x1002_5 from zI101 HI0) (zR HO_7) (by decide)) hk (fun _ h => h.2)) (fun _ h => h.1)); have n1_ := zA0 (Kd.S_mono (Kd.S_keep (IsS101.apartS (show IsS101 w0 _ g s0_0 x1001_5 x1002_5 from zI101 HI0) (zS HO_8) (by decide)) hk (fun _ h => h.2)) (fun _ h => h.1)); have n2_ := zA0 (KeepBut.trans (zK HK) hk (.inl rfl)); have n3_ := zA0 (hb); have n4_ := zA0 (hi); replace HO_7 := n0_; replace HO_8 := n1_; replace HK := n2_; replace HB := n3_; replace HI0 := n4_; clear n0_ n1_ n2_ n3_ n4_; (try clear hb); (try clear hb2); (try clear hk); (try clear hi)) | ((with_reducible refine gate_dst (N := 63) rfl ?_); refine Kd.R_lit (Kd.int .i64) _ 3 ?hg (N := 63) ?hd (xs := ([1, 2, 3, (-1), 0] : List Int)) (inner := [.int .i64 1, .int .i64 2, .int .i64 3, .int .i64 (-1), .int .i64 0]) (ok := fun _ => True) (okp := fun _ => True) ?hr ?hp (fun _ hk => hk) trivial (Below.refl _ _) (Nat.le_refl _) (by simp) ?_; (case hd => rfl); (case hg => rfl); (case hr => first | (go_simp; done) | (go_simp; rfl)); (case hp => exact (Reps.one (show Kd.M (Kd.int .i64) _ _ _ 1 [.int .i64 1] from rfl) (Reps.one (show Kd.M (Kd.int .i64) _ _ _ 2 [.int .i64 2] from rfl) (Reps.one (show Kd.M (Kd.int .i64) _ _ _ 3 [.int .i64 3] from rfl) (Reps.one (show Kd.M (Kd.int .i64) _ _ _ (-1) [.int .i64 (-1)] from rfl) (Reps.one (show Kd.M (Kd.int .i64) _ _ _ 0 [.int .i64 0] from rfl) (Reps.none _ _))))))); intro v341 w31 ho32 hb hg_ hnew_; clear hg_ hnew_; (first | rw [← Ny340.out] at ho32 | (simp only [Int.reduceToNat] at ho32; rw [← Ny340.out] at ho32)); have n0_ := zA0 (Kd.R_elder' (zR HO_7) (Kd.R_base ho32) hb); have n1_ := zA0 (Kd.S_elder' (zS HO_8) (Kd.R_base ho32) hb); have n2_ := zA0 (Kd.R_lower (Kd.R_new' ho32 (Kd.R_lt (zR HO_7))) (keep_size (w := w) (g := g) (row := none) (zK HK))); have n3_ := zA0 (IsS101.below (zI101 HI0) hb); have n4_ := zA0 (KeepBut.trans (zK HK) (KeepBut.of_below hb g none) (.inl rfl)); have n5_ := zA0 (below_step (zB HB) hb); replace HO_7 := n0_; replace HO_8 := n1_; have HO342 := n2_; replace HI0 := n3_; replace HK := n4_; replace HB := n5_; clear n0_ n1_ n2_ n3_ n4_ n5_; clear hb ho32; obtain ⟨Ao33, co33, eo33⟩ := Kd.R_slice HO342.out; subst eo33) | (go_at_call 179; (with_reducible refine (spec_l1Cur_among.calls g s0_0 t338 t339 _ _ y340 t343 t344 t345 w0 _ ?side1 ?side2 ?side3 ?side4 ?side5 A29.out).mono ?_); (case side1 => exact zI101 HI0); (case side2 => exact zB HB); (case side3 => exact zC (Kd.R_reads' HO342.out).2.2); (case side4 => exact (Kd.R_reads' HO342.out).2.1); (case side5 => exact far_slice (IsS101.own_ne HI0.out HO342.out (by decide))); rintro e w34 ⟨rfl, hi, hb, hk⟩; have n0_ := zA0 (Kd.R_mono (Kd.R_keep (IsS101.apart (show IsS101 w0 _ g s0_0 t338 t339 from zI101 HI0) (zR HO_7) (by decide)) hk (fun _ h => h.2)) (fun _ h => h.1)); have n1_ := zA0 (Kd.S_mono (Kd.S_keep (IsS101.apartS (show IsS101 w0 _ g s0_0 t338 t339 from zI101 HI0) (zS HO_8) (by decide)) hk (fun _ h => h.2)) (fun _ h => h.1)); have n2_ := zA0 (Kd.R_mono (Kd.R_keep (IsS101.apart (show IsS101 w0 _ g s0_0 t338 t339 from zI101 HI0) (zR HO342) (by decide)) hk (fun _ h => h.2)) (fun _ h => h.1)); have n3_ := zA0 (KeepBut.trans (zK HK) hk (.inl rfl)); have n4_ := zA0 (hb); have n5_ := zA0 (hi); replace HO_7 := n0_; replace HO_8 := n1_; replace HO342 := n2_; replace HK := n3_; replace HB := n4_; replace HI0 := n5_; clear n0_ n1_ n2_ n3_ n4_ n5_; (try clear hb); (try clear hb2); (try clear hk); (try clear hi))); try go_wp2_with (first | (go_at_call 177; (with_reducible refine (spec_l1Cur_pick.calls g s0_0 x1001_5 x1002_5 (t316.length : Int) t337 t338 t339 w0 _ ?side1 ?side2 A28.out).mono ?_); (case side1 => exact zI101 HI0); (case side2 => exact zB HB); rintro e w30 ⟨rfl, hi, hb, hk⟩; have n0_ := zA0 (Kd.R_mono (Kd.R_keep (IsS101.apart (show IsS101 w0 _ g s0_0 x1001_5 x1002_5 from zI101 HI0) (zR HO_7) (by decide)) hk (fun _ h => h.2)) (fun _ h => h.1)); have n1_ := zA0 (Kd.S_mono (Kd.S_keep (IsS101.apartS (show IsS101 w0 _ g s0_0 x1001_5 x1002_5 from zI101 HI0) (zS HO_8) (by decide)) hk (fun _ h => h.2)) (fun _ h => h.1)); have n2_ := zA0 (KeepBut.trans (zK HK) hk (.inl rfl)); have n3_ := zA0 (hb); have n4_ := zA0 (hi); replace HO_7 := n0_; replace HO_8 := n1_; replace HK := n2_; replace HB := n3_; replace HI0 := n4_; clear n0_ n1_ n2_ n3_ n4_; (try clear hb); (try clear hb2); (try clear hk); (try clear hi)) | ((with_reducible refine gate_dst (N := 63) rfl ?_); refine Kd.R_lit (Kd.int .i64) _ 3 ?hg (N := 63) ?hd (xs := ([1, 2, 3, (-1), 0] : List Int)) (inner := [.int .i64 1, .int .i64 2, .int .i64 3, .int .i64 (-1), .int .i64 0]) (ok := fun _ => True) (okp := fun _ => True) ?hr ?hp (fun _ hk => hk) trivial (Below.refl _ _) (Nat.le_refl _) (by simp) ?_; (case hd => rfl); (case hg => rfl); (case hr => first | (go_simp; done) | (go_simp; rfl)); (case hp => exact (Reps.one (show Kd.M (Kd.int .i64) _ _ _ 1 [.int .i64 1] from rfl) (Reps.one (show Kd.M (Kd.int .i64) _ _ _ 2 [.int .i64 2] from rfl) (Reps.one (show Kd.M (Kd.int .i64) _ _ _ 3 [.int .i64 3] from rfl) (Reps.one (show Kd.M (Kd.int .i64) _ _ _ (-1) [.int .i64 (-1)] from rfl) (Reps.one (show Kd.M (Kd.int .i64) _ _ _ 0 [.int .i64 0] from rfl) (Reps.none _ _))))))); intro v341 w31 ho32 hb hg_ hnew_; clear hg_ hnew_; (first | rw [← Ny340.out] at ho32 | (simp only [Int.reduceToNat] at ho32; rw [← Ny340.out] at ho32)); have n0_ := zA0 (Kd.R_elder' (zR HO_7) (Kd.R_base ho32) hb); have n1_ := zA0 (Kd.S_elder' (zS HO_8) (Kd.R_base ho32) hb); have n2_ := zA0 (Kd.R_lower (Kd.R_new' ho32 (Kd.R_lt (zR HO_7))) (keep_size (w := w) (g := g) (row := none) (zK HK))); have n3_ := zA0 (IsS101.below (zI101 HI0) hb); have n4_ := zA0 (KeepBut.trans (zK HK) (KeepBut.of_below hb g none) (.inl rfl)); have n5_ := zA0 (below_step (zB HB) hb); replace HO_7 := n0_; replace HO_8 := n1_; have HO342 := n2_; replace HI0 := n3_; replace HK := n4_; replace HB := n5_; clear n0_ n1_ n2_ n3_ n4_ n5_; clear hb ho32; obtain ⟨Ao33, co33, eo33⟩ := Kd.R_slice HO342.out; subst eo33) | (go_at_call 179; (with_reducible refine (spec_l1Cur_among.calls g s0_0 t338 t339 _ _ y340 t343 t344 t345 w0 _ ?side1 ?side2 ?side3 ?side4 ?side5 A29.out).mono ?_); (case side1 => exact zI101 HI0); (case side2 => exact zB HB); (case side3 => exact zC (Kd.R_reads' HO342.out).2.2); (case side4 => exact (Kd.R_reads' HO342.out).2.1); (case side5 => exact far_slice (IsS101.own_ne HI0.out HO342.out (by decide))); rintro e w34 ⟨rfl, hi, hb, hk⟩; have n0_ := zA0 (Kd.R_mono (Kd.R_keep (IsS101.apart (show IsS101 w0 _ g s0_0 t338 t339 from zI101 HI0) (zR HO_7) (by decide)) hk (fun _ h => h.2)) (fun _ h => h.1)); have n1_ := zA0 (Kd.S_mono (Kd.S_keep (IsS101.apartS (show IsS101 w0 _ g s0_0 t338 t339 from zI101 HI0) (zS HO_8) (by decide)) hk (fun _ h => h.2)) (fun _ h => h.1)); have n2_ := zA0 (Kd.R_mono (Kd.R_keep (IsS101.apart (show IsS101 w0 _ g s0_0 t338 t339 from zI101 HI0) (zR HO342) (by decide)) hk (fun _ h => h.2)) (fun _ h => h.1)); have n3_ := zA0 (KeepBut.trans (zK HK) hk (.inl rfl)); have n4_ := zA0 (hb); have n5_ := zA0 (hi); replace HO_7 := n0_; replace HO_8 := n1_; replace HO342 := n2_; replace HK := n3_; replace HB := n4_; replace HI0 := n5_; clear n0_ n1_ n2_ n3_ n4_ n5_; (try clear hb); (try clear hb2); (try clear hk); (try clear hi))))
     refine bodyPost_ret (results_list (rs := [.tmp 2, .tmp 3, .tmp 4, .tmp 5]) rfl (by simp) (.tmp (.tmp (.tmp (.tmp .nil))))) rfl ?_
     exact ⟨_, by first | rfl | (simp [errW_none, errW_some] <;> rfl) | (simp [*, errW_none, errW_some] <;> rfl), by (with_reducible repeat (first | apply zrA | apply zrN | apply zrD)); exact Kd.R_mono HO_7.out (fun _ hk => trivial), zI101 HI0, zB HB, zK HK⟩
 ·
  replace c4 := Bool.eq_false_iff.mpr c4
  subst c4
  rw [if_neg (show ¬ (false = true) by decide)] at H
  simp only [Option.some.injEq, Prod.mk.injEq] at H
  obtain ⟨rfl, rfl, rfl, rfl, rfl, rfl⟩ := H
  go_enter Try.func218, Try.ntmps218
  go_wp2_with (first | (go_at_call 213; (with_reducible refine (spec_l1Cur_anyLabels.calls k g s0_0 s0_1 s0_2 4 t315 t316 t319 t320 w0 _ ?side1 ?side2 A2.out).mono ?_); (case side1 => exact zI101 HI0); (case side2 => exact zB HB); rintro e w35 ⟨v317, rfl, ho0, hi, hb, hk⟩; have n0_ := zA0 (Kd.R_lower ho0 (keep_size (w := w) (g := g) (row := none) (zK HK))); have n1_ := zA0 (KeepBut.trans (zK HK) hk (.inl rfl)); have n2_ := zA0 (hb); have n3_ := zA0 (hi); have HO318 := n0_; replace HK := n1_; replace HB := n2_; replace HI0 := n3_; clear n0_ n1_ n2_ n3_; (try clear hb); (try clear hb2); (try clear hk); (try clear hi); (try clear ho0); obtain ⟨Ao36, co36, eo36⟩ := Kd.R_slice HO318.out; subst eo36) | (go_at_call 214; (with_reducible refine (spec_meLabels.calls k t315 _ _ t316 false _ ?side1 ?side2 A3.out).mono ?_); (case side1 => exact zC (Kd.R_reads' HO318.out).2.2); (case side2 => exact (Kd.R_reads' HO318.out).2.1); rintro e w' ⟨rfl, ⟨nd, rfl⟩⟩; (try first | exact ⟨rfl, _, World.drewN_drewN _ _ _⟩ | exact ⟨rfl, _, Eq.trans (World.drewN_drewN _ _ _) (congrArg (World.drewN _) (Nat.add_assoc _ _ _))⟩)))
  repeat (go_quiet (first | (go_at_call 213; (with_reducible refine (spec_l1Cur_anyLabels.calls k g s0_0 s0_1 s0_2 4 t315 t316 t319 t320 w0 _ ?side1 ?side2 A2.out).mono ?_); (case side1 => exact zI101 HI0); (case side2 => exact zB HB); rintro e w35 ⟨v317, rfl, ho0, hi, hb, hk⟩; have n0_ := zA0 (Kd.R_lower ho0 (keep_size (w := w) (g := g) (row := none) (zK HK))); have n1_ := zA0 (KeepBut.trans (zK HK) hk (.inl rfl)); have n2_ := zA0 (hb); have n3_ := zA0 (hi); have HO318 := n0_; replace HK := n1_; replace HB := n2_; replace HI0 := n3_; clear n0_ n1_ n2_ n3_; (try clear hb); (try clear hb2); (try clear hk); (try clear hi); (try clear ho0); obtain ⟨Ao36, co36, eo36⟩ := Kd.R_slice HO318.out; subst eo36) | (go_at_call 214; (with_reducible refine (spec_meLabels.calls k t315 _ _ t316 false _ ?side1 ?side2 A3.out).mono ?_); (case side1 => exact zC (Kd.R_reads' HO318.out).2.2); (case side2 => exact (Kd.R_reads' HO318.out).2.1); rintro e w' ⟨rfl, ⟨nd, rfl⟩⟩; (try first | exact ⟨rfl, _, World.drewN_drewN _ _ _⟩ | exact ⟨rfl, _, Eq.trans (World.drewN_drewN _ _ _) (congrArg (World.drewN _) (Nat.add_assoc _ _ _))⟩))); try go_wp2_with (first | (go_at_call 213; (with_reducible refine (spec_l1Cur_anyLabels.calls k g s0_0 s0_1 s0_2 4 t315 t316 t319 t320 w0 _ ?side1 ?side2 A2.out).mono ?_); (case side1 => exact zI101 HI0); (case side2 => exact zB HB); rintro e w35 ⟨v317, rfl, ho0, hi, hb, hk⟩; have n0_ := zA0 (Kd.R_lower ho0 (keep_size (w := w) (g := g) (row := none) (zK HK))); have n1_ := zA0 (KeepBut.trans (zK HK) hk (.inl rfl)); have n2_ := zA0 (hb); have n3_ := zA0 (hi); have HO318 := n0_; replace HK := n1_; replace HB := n2_; replace HI0 := n3_; clear n0_ n1_ n2_ n3_; (try clear hb); (try clear hb2); (try clear hk); (try clear hi); (try clear ho0); obtain ⟨Ao36, co36, eo36⟩ := Kd.R_slice HO318.out; subst eo36) | (go_at_call 214; (with_reducible refine (spec_meLabels.calls k t315 _ _ t316 false _ ?side1 ?side2 A3.out).mono ?_); (case side1 => exact zC (Kd.R_reads' HO318.out).2.2); (case side2 => exact (Kd.R_reads' HO318.out).2.1); rintro e w' ⟨rfl, ⟨nd, rfl⟩⟩; (try first | exact ⟨rfl, _, World.drewN_drewN _ _ _⟩ | exact ⟨rfl, _, Eq.trans (World.drewN_drewN _ _ _) (congrArg (World.drewN _) (Nat.add_assoc _ _ _))⟩))))
  refine bodyPost_ret (results_list (rs := [.tmp 2, .tmp 3, .tmp 4, .tmp 5]) rfl (by simp) (.tmp (.tmp (.tmp (.tmp .nil))))) rfl ?_
  exact ⟨_, by first | rfl | (simp [errW_none, errW_some] <;> rfl) | (simp [*, errW_none, errW_some] <;> rfl), zR HO318, zI101 HI0, zB HB, zK HK⟩
end Go.Proofs.Ytckiebdehlcjoaa.P
