/- A part of the proof of the law FnDoorsOfRooms. -/
import Derived.Test.YtckiebdehlcjoaaTFnDoorsOfRooms4
namespace Go.Proofs.Ytckiebdehlcjoaa.P
open Go.Proofs.Ytckiebdehlcjoaa.Own
open Go.RowKit Go.Proofs.YtckiebdehlcjoaaW.PrintWords Go.Proofs.YtckiebdehlcjoaaW.PrintLast Go.Proofs.YtckiebdehlcjoaaW.PrintMore
attribute [local go_sem] max2_int min2_int max_two min_two max_three min_three max_four min_four   -- for this text's walks alone
set_option linter.unusedVariables false
set_option linter.unusedSimpArgs false
def spec_meLabels.f (k : Nat) (a0 : Int) (l1 : List Int) : Option (Bool) := (spec_meSide.f a0).bind fun t101 => (if t101 = true then ((spec_meCount.f a0).bind fun t102 => (if (l1.length : Int) = t102 then ((spec_l1All.f k l1 0 2).bind fun t103 => (some t103)) else (some false))) else (some false))
set_option maxHeartbeats 8000000 in
set_option maxRecDepth 100000 in
theorem spec_meLabels.calls (k : Nat) (a0 : Int) (A1 : Option Addr) (c1 : Nat) (l1 : List Int) (r : Bool) (w : World) (hr1 : Kd.C (Kd.int .i64) w A1 l1.length l1) (hc1 : l1.length ≤ c1) (h : spec_meLabels.f k a0 l1 = some r) :
  Calls Try.prog 214 #[.int .i64 a0, .slice A1 l1.length c1] w fun e w' => e = .returned (.bool r) ∧ Drawn0 w w' := by
 have HR1 := zA0 hr1
 have HC1 := zA0 hc1
 clear hr1 hc1
 have H : ((spec_meSide.f a0).bind fun t101 => (if t101 = true then ((spec_meCount.f a0).bind fun t102 => (if (l1.length : Int) = t102 then ((spec_l1All.f k l1 0 2).bind fun t103 => (some t103)) else (some false))) else (some false))) = some r := h
 clear h
 replace H := Option.bind_eq_some_iff.mp H
 obtain ⟨t101, A30, H⟩ := H
 (try dsimp only at H)
 have A3 := zA0 A30
 clear A30
 by_cases c4 : t101 = true
 ·
  subst c4
  rw [if_pos rfl] at H
  replace H := Option.bind_eq_some_iff.mp H
  obtain ⟨t102, A50, H⟩ := H
  (try dsimp only at H)
  have A5 := zA0 A50
  clear A50
  by_cases c6 : (l1.length : Int) = t102
  ·
   rw [if_pos c6] at H
   have c6b0 : ((l1.length : Int) == t102) = true := beq_iff_eq.mpr c6
   have c6b1 : ((l1.length : Int) != t102) = false := bne_eq_false_iff_eq.mpr c6
   clear c6
   replace H := Option.bind_eq_some_iff.mp H
   obtain ⟨t103, A70, H⟩ := H
   (try dsimp only at H)
   have A7 := zA0 A70
   clear A70
   obtain rfl := Option.some.inj H
   go_enter Try.func214, Try.ntmps214
   go_wp2_with (first | ((with_reducible refine gate_callee (f := 158) rfl ?_); refine goesL_ (some 6) rfl rfl Try.func158 (by kernel_rfl) rfl #[.int .i64 a0] rfl (by (try simp only [List.map_toArray, List.map_cons, List.map_nil]); first | done | rfl) ?_; (with_reducible refine (spec_meSide.calls a0 true _ A3.out).mono ?_); rintro e w' ⟨rfl, ⟨nd, rfl⟩⟩; refine ⟨_, rfl, ?_⟩) | (go_at_call 160; (with_reducible refine (spec_meCount.calls a0 t102 _ A5.out).mono ?_); rintro e w' ⟨rfl, ⟨nd, rfl⟩⟩) | (go_at_call 198; (with_reducible refine (spec_l1All.calls k _ _ l1 0 2 t103 _ ?side1 ?side2 A7.out).mono ?_); (case side1 => exact zC HR1.out); (case side2 => exact HC1.out); rintro e w' ⟨rfl, ⟨nd, rfl⟩⟩))
   go_ret
   exact ⟨by first | rfl | (simp; done) | (simp [*]; done) | (simp; decide) | (simp; unfold wrap64; omega), by repeat (first | exact Drawn0.refl _ | apply Drawn0.step)⟩
  ·
   rw [if_neg c6] at H
   have c6b0 : ((l1.length : Int) == t102) = false := beq_eq_false_iff_ne.mpr c6
   have c6b1 : ((l1.length : Int) != t102) = true := bne_iff_ne.mpr c6
   obtain rfl := Option.some.inj H
   go_enter Try.func214, Try.ntmps214
   go_wp2_with (first | ((with_reducible refine gate_callee (f := 158) rfl ?_); refine goesL_ (some 6) rfl rfl Try.func158 (by kernel_rfl) rfl #[.int .i64 a0] rfl (by (try simp only [List.map_toArray, List.map_cons, List.map_nil]); first | done | rfl) ?_; (with_reducible refine (spec_meSide.calls a0 true _ A3.out).mono ?_); rintro e w' ⟨rfl, ⟨nd, rfl⟩⟩; refine ⟨_, rfl, ?_⟩) | (go_at_call 160; (with_reducible refine (spec_meCount.calls a0 t102 _ A5.out).mono ?_); rintro e w' ⟨rfl, ⟨nd, rfl⟩⟩))
   go_ret
   exact ⟨by first | rfl | (simp; done) | (simp [*]; done) | (simp; decide) | (simp; unfold wrap64; omega), by repeat (first | exact Drawn0.refl _ | apply Drawn0.step)⟩
 ·
  replace c4 := Bool.eq_false_iff.mpr c4
  subst c4
  rw [if_neg (show ¬ (false = true) by decide)] at H
  obtain rfl := Option.some.inj H
  go_enter Try.func214, Try.ntmps214
  go_wp2_with (first | ((with_reducible refine gate_callee (f := 158) rfl ?_); refine goesL_ (some 6) rfl rfl Try.func158 (by kernel_rfl) rfl #[.int .i64 a0] rfl (by (try simp only [List.map_toArray, List.map_cons, List.map_nil]); first | done | rfl) ?_; (with_reducible refine (spec_meSide.calls a0 false _ A3.out).mono ?_); rintro e w' ⟨rfl, ⟨nd, rfl⟩⟩; refine ⟨_, rfl, ?_⟩))
  go_ret
  exact ⟨by first | rfl | (simp; done) | (simp [*]; done) | (simp; decide) | (simp; unfold wrap64; omega), by repeat (first | exact Drawn0.refl _ | apply Drawn0.step)⟩
mutual
def spec_l1Cur_sureLabels.l0 : Nat → Int → List Int → Int → List Int → Int → Int → Option (List Int × Int × Int)
  | 0, _, _, _, _, _, _ => none
  | k + 1, x1, x5, x6, x1000, x1001, x1002 => (spec_meCount.f x1).bind fun t104 => (if x6 < t104 then ((spec_meAt.f k x1 x6).bind fun t105 => (spec_l1Cur_sureLabels.l1 k x1 x5 x6 ([] : List Int) t105 (t105.length : Int) 0 x1000 x1001 x1002)) else (some (x5, x1001, x1002)))
def spec_l1Cur_sureLabels.l1 : Nat → Int → List Int → Int → List Int → List Int → Int → Int → List Int → Int → Int → Option (List Int × Int × Int)
  | 0, _, _, _, _, _, _, _, _, _, _ => none
  | k + 1, x1, x5, x6, x7, x18, x19, x20, x1000, x1001, x1002 => if x20 < x19 then (if 0 ≤ x20 then (if x20 < (x18.length : Int) then (if (rd x18 x20) > 0 then (if x7.length < 17592186044416 then (spec_l1Cur_sureLabels.l1 k x1 x5 x6 (x7 ++ [x20]) x18 x19 (wrap64 (x20 + 1)) x1000 x1001 x1002) else (none)) else (spec_l1Cur_sureLabels.l1 k x1 x5 x6 x7 x18 x19 (wrap64 (x20 + 1)) x1000 x1001 x1002)) else (none)) else (none)) else ((spec_l1Cur_pick.f x1000 x1001 x1002 (x7.length : Int)).bind fun bt112 => (if 0 ≤ bt112.1 then (if bt112.1 < (x7.length : Int) then (if x5.length < 17592186044416 then (spec_l1Cur_sureLabels.l0 k x1 (x5 ++ [rd x7 bt112.1]) (wrap64 (x6 + 1)) x1000 bt112.2.1 bt112.2.2) else (none)) else (none)) else (none)))
end
def spec_l1Cur_sureLabels.f (k : Nat) (s0_0 : List Int) (s0_1 : Int) (s0_2 : Int) (a1 : Int) : Option (List Int × Int × Int) := spec_l1Cur_sureLabels.l0 k a1 ([] : List Int) 0 s0_0 s0_1 s0_2
set_option maxHeartbeats 8000000 in
set_option maxRecDepth 100000 in
theorem spec_l1Cur_sureLabels.calls (k : Nat) (g : Nat) (s0_0 : List Int) (s0_1 : Int) (s0_2 : Int) (a1 : Int) (r1 : List Int) (r2 : Int) (r3 : Int) (w0 w : World) (hI : IsS101 w0 w g s0_0 s0_1 s0_2) (hB : Below w0.heap.size w0 w) (h : spec_l1Cur_sureLabels.f k s0_0 s0_1 s0_2 a1 = some (r1, r2, r3)) :
  Calls Try.prog 341 #[.pointer (some ⟨g, 0, none⟩), .int .i64 a1] w fun e w' => ∃ v0_ : Value, e = .returned (v0_) ∧ Kd.R (Kd.int .i64) 3 w' w.heap.size (fun _ => True) v0_ r1 ∧ IsS101 w0 w' g s0_0 r2 r3 ∧ Below w0.heap.size w0 w' ∧ KeepBut w w' g none := by
 have HI0 := zA0 hI
 have HK := zA0 (KeepBut.refl w g none)
 have HL := zA0 hB.size
 clear hI
 have HW0 := zA0 hB.size
 have HB := zA0 hB
 clear hB
 have H : (spec_l1Cur_sureLabels.l0 k a1 ([] : List Int) 0 s0_0 s0_1 s0_2) = some (r1, r2, r3) := h
 clear h
 have H' := zA0 H
 clear H
 go_enter Try.func341, Try.ntmps341
 go_wp2
 go_loopg [5, 6] k (fun kq v5 v6 w' => ∃ (x5_1 : List Int) (x6_1 : Int) (x1001_1 : Int) (x1002_1 : Int), v6 = .int .i64 x6_1 ∧ Aside0 (spec_l1Cur_sureLabels.l0 kq a1 x5_1 x6_1 s0_0 x1001_1 x1002_1 = some (r1, r2, r3)) ∧ Aside0 (kq ≤ k) ∧ Aside0 (Kd.R (Kd.int .i64) 3 w' w.heap.size (fun _ => True) v5 x5_1) ∧ Aside0 (IsS101 w0 w' g s0_0 x1001_1 x1002_1) ∧ Aside0 (KeepBut w w' g none) ∧ Aside0 (Below w0.heap.size w0 w'))
 case atStart => exact ⟨(([] : List Int)), (0), (s0_1), (s0_2), (by first | rfl | (simp; done) | (simp [*]; done) | (simp; decide) | (simp; unfold wrap64; omega)), H', ⟨Nat.le_refl _⟩, ⟨by first | exact Kd.R_nil _ _ _ _ _ | exact Kd.N_nil _ _ _ _ _ | exact Kd.V_nil _ _ _ _ _ | exact Kd.Q_nil _ _ _ _ _ | exact Kd.S_nil _ _ _ _ _⟩, ⟨zI101 HI0⟩, ⟨zK HK⟩, ⟨zB HB⟩⟩
 case round =>
  clear H'
  try clear p2
  obtain ⟨x5_1, x6_1, x1001_1, x1002_1, rfl, HA, HK1, HO_5, HI0, HK, HB⟩ := hrel
  cases gk with
  | zero => exact absurd HA.out (by simp [spec_l1Cur_sureLabels.l0])
  | succ k1 =>
   have H := HA.out
   clear HA
   simp only [spec_l1Cur_sureLabels.l0] at H
   replace H := Option.bind_eq_some_iff.mp H
   obtain ⟨t104, A30, H⟩ := H
   (try dsimp only at H)
   have A3 := zA0 A30
   clear A30
   by_cases c4 : x6_1 < t104
   ·
    rw [if_pos c4] at H
    have c4b0 : decide (x6_1 < t104) = true := decide_eq_true c4
    clear c4
    replace H := Option.bind_eq_some_iff.mp H
    obtain ⟨t105, A50, H⟩ := H
    (try dsimp only at H)
    have A5 := zA0 A50
    clear A50
    have H' := zA0 H
    clear H
    go_wp2_with (first | ((with_reducible refine gate_callee (f := 160) rfl ?_); refine goesL_ (some 12) rfl rfl Try.func160 (by kernel_rfl) rfl #[.int .i64 a1] rfl (by (try simp only [List.map_toArray, List.map_cons, List.map_nil]); first | done | rfl) ?_; (with_reducible refine (spec_meCount.calls a1 t104 _ A3.out).mono ?_); rintro e w' ⟨rfl, ⟨nd, rfl⟩⟩; refine ⟨_, rfl, ?_⟩) | ((with_reducible refine gate_callee (f := 190) rfl ?_); refine goesL_ (some 18) rfl rfl Try.func190 (by kernel_rfl) rfl #[.int .i64 a1, .int .i64 x6_1] rfl (by (try simp only [List.map_toArray, List.map_cons, List.map_nil]); first | done | rfl) ?_; (with_reducible refine (spec_meAt.calls k1 a1 x6_1 t105 _ A5.out).mono ?_); rintro e w6 ⟨v106, rfl, ho0, hb⟩; refine ⟨_, rfl, ?_⟩; have n0_ := zA0 (Kd.R_elder' (zR HO_5) (Kd.R_base ho0) hb); have n1_ := zA0 (Kd.R_lower (Kd.R_new' ho0 (Kd.R_lt (zR HO_5))) (keep_size (w := w) (g := g) (row := none) (zK HK))); have n2_ := zA0 (IsS101.below (zI101 HI0) hb); have n3_ := zA0 (KeepBut.trans (zK HK) (KeepBut.of_below hb g none) (.inl rfl)); have n4_ := zA0 (below_step (zB HB) hb); replace HO_5 := n0_; have HO107 := n1_; replace HI0 := n2_; replace HK := n3_; replace HB := n4_; clear n0_ n1_ n2_ n3_ n4_; (try clear hb); (try clear hb2); (try clear hk); (try clear hi); (try clear ho0); obtain ⟨Ao7, co7, eo7⟩ := Kd.R_slice HO107.out; subst eo7))
    go_loopg [7, 20] k1 (fun kq v7 v20 w' => ∃ (x7_2 : List Int) (x20_2 : Int), v20 = .int .i64 x20_2 ∧ Aside0 (spec_l1Cur_sureLabels.l1 kq a1 x5_1 x6_1 x7_2 t105 (t105.length : Int) x20_2 s0_0 x1001_1 x1002_1 = some (r1, r2, r3)) ∧ Aside0 (kq ≤ k1) ∧ Aside0 (Kd.R (Kd.int .i64) 3 w' w.heap.size (fun k_ => some k_ ≠ (v7 : Value).ownBlock ∧ some k_ ≠ ((.slice Ao7 t105.length co7) : Value).ownBlock) u5 x5_1) ∧ Aside0 (Kd.R (Kd.int .i64) 3 w' w.heap.size (fun k_ => some k_ ≠ (u5 : Value).ownBlock ∧ some k_ ≠ ((.slice Ao7 t105.length co7) : Value).ownBlock) v7 x7_2) ∧ Aside0 (Kd.R (Kd.int .i64) 3 w' w.heap.size (fun k_ => some k_ ≠ (u5 : Value).ownBlock ∧ some k_ ≠ (v7 : Value).ownBlock) (.slice Ao7 t105.length co7) t105) ∧ Aside0 (IsS101 w0 w' g s0_0 x1001_1 x1002_1) ∧ Aside0 (KeepBut w w' g none) ∧ Aside0 (Below w0.heap.size w0 w'))
    case atStart => exact ⟨(([] : List Int)), (0), (by first | rfl | (simp; done) | (simp [*]; done) | (simp; decide) | (simp; unfold wrap64; omega)), H', ⟨Nat.le_refl _⟩, ⟨by (with_reducible repeat (first | apply zrA | apply zrN | apply zrD)); exact Kd.R_mono HO_5.out (fun _ hk => ⟨(by simp [Value.ownBlock]), hk.2⟩)⟩, ⟨by first | exact Kd.R_nil _ _ _ _ _ | exact Kd.N_nil _ _ _ _ _ | exact Kd.V_nil _ _ _ _ _ | exact Kd.Q_nil _ _ _ _ _ | exact Kd.S_nil _ _ _ _ _⟩, ⟨by (with_reducible repeat (first | apply zrA | apply zrN | apply zrD)); exact Kd.R_mono HO107.out (fun _ hk => ⟨hk.2, (by simp [Value.ownBlock])⟩)⟩, ⟨zI101 HI0⟩, ⟨zK HK⟩, ⟨zB HB⟩⟩
    case round =>
     clear H'
     try clear c1
     try clear p2
     try clear c3
     try clear c4
     try clear c4b0
     try clear p6
     try clear p2
     obtain ⟨x7_2, x20_2, rfl, HA, HK2, HO_5, HO_7, HO_18, HI0, HK, HB⟩ := hrel
     cases gk with
     | zero => exact absurd HA.out (by simp [spec_l1Cur_sureLabels.l1])
     | succ k2 =>
      have H := HA.out
      clear HA
      simp only [spec_l1Cur_sureLabels.l1] at H
      by_cases c8 : x20_2 < (t105.length : Int)
      ·
       rw [if_pos c8] at H
       have c8b0 : decide (x20_2 < (t105.length : Int)) = true := decide_eq_true c8
       clear c8
       by_cases c9 : 0 ≤ x20_2
       ·
        rw [if_pos c9] at H
        have c9b0 : decide (0 ≤ x20_2) = true := decide_eq_true c9
        clear c9
        by_cases c10 : x20_2 < (t105.length : Int)
        ·
         rw [if_pos c10] at H
         have c10b0 : decide (x20_2 < (t105.length : Int)) = true := decide_eq_true c10
         clear c10
         by_cases c11 : (rd t105 x20_2) > 0
         ·
          rw [if_pos c11] at H
          have c11b0 : decide (0 < (rd t105 x20_2)) = true := decide_eq_true c11
          clear c11
          by_cases c12 : x7_2.length < 17592186044416
          ·
           rw [if_pos c12] at H
           have LMc12 := zA0 c12
           clear c12
           obtain ⟨y109, hy109⟩ : ∃ y_ : List Int, y_ = (x7_2 ++ [x20_2]) := ⟨_, rfl⟩
           replace H : (spec_l1Cur_sureLabels.l1 k2 a1 x5_1 x6_1 y109 t105 (t105.length : Int) (wrap64 (x20_2 + 1)) s0_0 x1001_1 x1002_1) = some (r1, r2, r3) := by first | (rw [hy109]; with_reducible exact H) | (have H2_ := (Option.bind_some _ _).symm.trans H; rw [hy109]; with_reducible exact H2_) | (have H2_ := (Option.bind_some _ _).symm.trans H; with_reducible exact H2_) | with_reducible exact H | (rw [hy109]; exact H) | exact H
           have Ny109 := zA0 hy109
           clear hy109
           have H' := zA0 H
           clear H
           have p108 : 0 ≤ (x20_2 : Int) := of_decide_eq_true (by first | (with_reducible assumption) | assumption)
           have q108 : x20_2 < (t105.length : Int) := of_decide_eq_true (by first | (with_reducible assumption) | assumption)
           obtain ⟨ad108, e108, hx108_0⟩ := Kd.at_int (Kd.R_reads' HO_18.out).2.2 x20_2 p108 q108
           cases e108
           replace p108 := eq_true p108
           replace q108 := eq_true q108
           go_wp2_with (first | ((with_reducible refine gate_builtin (b := .append) (xs := #[.tmp 27, .tmp 29]) rfl ?_); at_builtin; refine Kd.R_append (Kd.int .i64) w.heap.size rfl (.tmp 27) (.tmp 29) 22 3 (.int .i64 0) 8 rfl Try.underlying22 info3 rfl (by decide) (by omega) u7 x7_2 x20_2 [.int .i64 x20_2] (fun k_ => some k_ ≠ (u5 : Value).ownBlock ∧ some k_ ≠ (.slice (some ad108) t105.length co7 : Value).ownBlock) (fun _ => False) rfl rfl ?aP (fun _ hk => hk.elim) ?aF ?aO (Below.refl _ _) ?aS ?aL ?_; (case aP => exact rfl); (case aF => exact (fun k_ hk => ⟨Kd.fresh' (Kd.R_lt (zR HO_5)) k_ hk, Kd.fresh' (Kd.R_lt (zR HO_18)) k_ hk⟩)); (case aO => exact (zR HO_7)); (case aS => exact (keep_size (w := w) (g := g) (row := none) (zK HK))); (case aL => have := LMc12.out; omega); intro v110 w13 ho hb hg hat; rw [← Ny109.out] at ho; have n0_ := zA0 (Kd.R_after (ok := (fun k_ => some k_ ≠ (.slice (some ad108) t105.length co7 : Value).ownBlock)) (by (with_reducible repeat (first | apply zrA | apply zrN | apply zrD)); exact Kd.R_mono HO_5.out (fun _ hk => ⟨hk.2, hk.1⟩)) hg hat); have n1_ := zA0 (Kd.R_after (ok := (fun k_ => some k_ ≠ (u5 : Value).ownBlock)) (zR HO_18) hg hat); have n2_ := zA0 (IsS101.grown (zI101 HI0) hg (IsS101.own_ne HI0.out HO_7.out (by decide))); have n3_ := zA0 (below_weaken (zB HB) HL.out hb); have n4_ := zA0 (KeepBut.trans (zK HK) (KeepBut.of_grown hg g) (Kd.R_base2 HO_7.out)); have n5_ := zA0 (ho); clear HO_7; replace HO_5 := n0_; replace HO_18 := n1_; replace HI0 := n2_; replace HB := n3_; replace HK := n4_; have HO111 := n5_; clear n0_ n1_ n2_ n3_ n4_ n5_; clear ho hb hg hat))
           go_roundg k2
           case measure => have := HK1.out; have := HK2.out; omega
           case rel => exact ⟨(y109), (wrap64 (x20_2 + 1)), (by first | rfl | (simp; done) | (simp [*]; done) | (simp; decide) | (simp; unfold wrap64; omega)), H', ⟨by have := HK1.out; have := HK2.out; omega⟩, ⟨by (with_reducible repeat (first | apply zrA | apply zrN | apply zrD)); exact Kd.R_mono HO_5.out (fun _ hk => ⟨hk.2, hk.1⟩)⟩, ⟨zR HO111⟩, ⟨zR HO_18⟩, ⟨zI101 HI0⟩, ⟨zK HK⟩, ⟨zB HB⟩⟩
          ·
           rw [if_neg c12] at H
           exact absurd H (by simp)
         ·
          rw [if_neg c11] at H
          have c11b0 : decide (0 < (rd t105 x20_2)) = false := decide_eq_false c11
          clear c11
          have H' := zA0 H
          clear H
          have p108 : 0 ≤ (x20_2 : Int) := of_decide_eq_true (by first | (with_reducible assumption) | assumption)
          have q108 : x20_2 < (t105.length : Int) := of_decide_eq_true (by first | (with_reducible assumption) | assumption)
          obtain ⟨ad108, e108, hx108_0⟩ := Kd.at_int (Kd.R_reads' HO_18.out).2.2 x20_2 p108 q108
          cases e108
          replace p108 := eq_true p108
          replace q108 := eq_true q108
          go_wp2
          go_roundg k2
          case measure => have := HK1.out; have := HK2.out; omega
          case rel => exact ⟨(x7_2), (wrap64 (x20_2 + 1)), (by first | rfl | (simp; done) | (simp [*]; done) | (simp; decide) | (simp; unfold wrap64; omega)), H', ⟨by have := HK1.out; have := HK2.out; omega⟩, ⟨zR HO_5⟩, ⟨zR HO_7⟩, ⟨zR HO_18⟩, ⟨zI101 HI0⟩, ⟨zK HK⟩, ⟨zB HB⟩⟩
        ·
         rw [if_neg c10] at H
         exact absurd H (by simp)
       ·
        rw [if_neg c9] at H
        exact absurd H (by simp)
      ·
       rw [if_neg c8] at H
       have c8b0 : decide (x20_2 < (t105.length : Int)) = false := decide_eq_false c8
       clear c8
       replace H := Option.bind_eq_some_iff.mp H
       obtain ⟨⟨t112, t113, t114⟩, A140, H⟩ := H
       (try dsimp only at H)
       have A14 := zA0 A140
       clear A140
       by_cases c15 : 0 ≤ t112
       ·
        rw [if_pos c15] at H
        have c15b0 : decide (0 ≤ t112) = true := decide_eq_true c15
        clear c15
        by_cases c16 : t112 < (x7_2.length : Int)
        ·
         rw [if_pos c16] at H
         have c16b0 : decide (t112 < (x7_2.length : Int)) = true := decide_eq_true c16
         clear c16
         by_cases c17 : x5_1.length < 17592186044416
         ·
          rw [if_pos c17] at H
          have LMc17 := zA0 c17
          clear c17
          obtain ⟨y116, hy116⟩ : ∃ y_ : List Int, y_ = (x5_1 ++ [rd x7_2 t112]) := ⟨_, rfl⟩
          replace H : (spec_l1Cur_sureLabels.l0 k2 a1 y116 (wrap64 (x6_1 + 1)) s0_0 t113 t114) = some (r1, r2, r3) := by first | (rw [hy116]; with_reducible exact H) | (have H2_ := (Option.bind_some _ _).symm.trans H; rw [hy116]; with_reducible exact H2_) | (have H2_ := (Option.bind_some _ _).symm.trans H; with_reducible exact H2_) | with_reducible exact H | (rw [hy116]; exact H) | exact H
          have Ny116 := zA0 hy116
          clear hy116
          have H' := zA0 H
          clear H
          obtain ⟨Ao18, co18, eo18⟩ := Kd.R_slice HO_7.out
          subst eo18
          go_wp2_with (first | ((with_reducible refine gate_callee (f := 177) rfl ?_); refine goesL_ (some 37) rfl rfl Try.func177 (by kernel_rfl) rfl #[.pointer (some ⟨g, 0, none⟩), .int .i64 (x7_2.length : Int)] rfl (by (try simp only [List.map_toArray, List.map_cons, List.map_nil]); first | done | rfl) ?_; (with_reducible refine (spec_l1Cur_pick.calls g s0_0 x1001_1 x1002_1 (x7_2.length : Int) t112 t113 t114 w0 _ ?side1 ?side2 A14.out).mono ?_); (case side1 => exact zI101 HI0); (case side2 => exact zB HB); rintro e w19 ⟨rfl, hi, hb, hk⟩; refine ⟨_, rfl, ?_⟩; have n0_ := zA0 (Kd.R_mono (Kd.R_keep (IsS101.apart (show IsS101 w0 _ g s0_0 x1001_1 x1002_1 from zI101 HI0) (zR HO_5) (by decide)) hk (fun _ h => h.2)) (fun _ h => h.1)); have n1_ := zA0 (Kd.R_mono (Kd.R_keep (IsS101.apart (show IsS101 w0 _ g s0_0 x1001_1 x1002_1 from zI101 HI0) (zR HO_7) (by decide)) hk (fun _ h => h.2)) (fun _ h => h.1)); have n2_ := zA0 (Kd.R_mono (Kd.R_keep (IsS101.apart (show IsS101 w0 _ g s0_0 x1001_1 x1002_1 from zI101 HI0) (zR HO_18) (by decide)) hk (fun _ h => h.2)) (fun _ h => h.1)); have n3_ := zA0 (KeepBut.trans (zK HK) hk (.inl rfl)); have n4_ := zA0 (hb); have n5_ := zA0 (hi); replace HO_5 := n0_; replace HO_7 := n1_; replace HO_18 := n2_; replace HK := n3_; replace HB := n4_; replace HI0 := n5_; clear n0_ n1_ n2_ n3_ n4_ n5_; (try clear hb); (try clear hb2); (try clear hk); (try clear hi); have p115 : 0 ≤ (t112 : Int) := of_decide_eq_true (by first | (with_reducible assumption) | assumption); have q115 : t112 < (x7_2.length : Int) := of_decide_eq_true (by first | (with_reducible assumption) | assumption); obtain ⟨ad115, e115, hx115_0⟩ := Kd.at_int (Kd.R_reads' HO_7.out).2.2 t112 p115 q115; cases e115; replace p115 := eq_true p115; replace q115 := eq_true q115) | ((with_reducible refine gate_builtin (b := .append) (xs := #[.tmp 32, .tmp 40]) rfl ?_); at_builtin; refine Kd.R_append (Kd.int .i64) w.heap.size rfl (.tmp 32) (.tmp 40) 22 3 (.int .i64 0) 8 rfl Try.underlying22 info3 rfl (by decide) (by omega) u5 x5_1 (rd x7_2 t112) [.int .i64 (rd x7_2 t112)] (fun k_ => some k_ ≠ (.slice (some ad115) x7_2.length co18 : Value).ownBlock ∧ some k_ ≠ (.slice Ao7 t105.length co7 : Value).ownBlock) (fun _ => False) rfl rfl ?aP (fun _ hk => hk.elim) ?aF ?aO (Below.refl _ _) ?aS ?aL ?_; (case aP => exact rfl); (case aF => exact (fun k_ hk => ⟨Kd.fresh' (Kd.R_lt (zR HO_7)) k_ hk, Kd.fresh' (Kd.R_lt (zR HO_18)) k_ hk⟩)); (case aO => exact (zR HO_5)); (case aS => exact (keep_size (w := w) (g := g) (row := none) (zK HK))); (case aL => have := LMc17.out; omega); intro v117 w20 ho hb hg hat; rw [← Ny116.out] at ho; have n0_ := zA0 (Kd.R_after (ok := (fun k_ => some k_ ≠ (.slice Ao7 t105.length co7 : Value).ownBlock)) (by (with_reducible repeat (first | apply zrA | apply zrN | apply zrD)); exact Kd.R_mono HO_7.out (fun _ hk => ⟨hk.2, hk.1⟩)) hg hat); have n1_ := zA0 (Kd.R_after (ok := (fun k_ => some k_ ≠ (.slice (some ad115) x7_2.length co18 : Value).ownBlock)) (by (with_reducible repeat (first | apply zrA | apply zrN | apply zrD)); exact Kd.R_mono HO_18.out (fun _ hk => ⟨hk.2, hk.1⟩)) hg hat); have n2_ := zA0 (IsS101.grown (zI101 HI0) hg (IsS101.own_ne HI0.out HO_5.out (by decide))); have n3_ := zA0 (below_weaken (zB HB) HL.out hb); have n4_ := zA0 (KeepBut.trans (zK HK) (KeepBut.of_grown hg g) (Kd.R_base2 HO_5.out)); have n5_ := zA0 (ho); clear HO_5; replace HO_7 := n0_; replace HO_18 := n1_; replace HI0 := n2_; replace HB := n3_; replace HK := n4_; have HO118 := n5_; clear n0_ n1_ n2_ n3_ n4_ n5_; clear ho hb hg hat))
          go_roundg k2
          case measure => have := HK1.out; have := HK2.out; omega
          case rel => exact ⟨(y116), (wrap64 (x6_1 + 1)), (t113), (t114), (by first | rfl | (simp; done) | (simp [*]; done) | (simp; decide) | (simp; unfold wrap64; omega)), H', ⟨by have := HK1.out; have := HK2.out; omega⟩, ⟨by (with_reducible repeat (first | apply zrA | apply zrN | apply zrD)); exact Kd.R_mono HO118.out (fun _ hk => trivial)⟩, ⟨zI101 HI0⟩, ⟨zK HK⟩, ⟨zB HB⟩⟩
         ·
          rw [if_neg c17] at H
          exact absurd H (by simp)
        ·
         rw [if_neg c16] at H
         exact absurd H (by simp)
       ·
        rw [if_neg c15] at H
        exact absurd H (by simp)
   ·
    rw [if_neg c4] at H
    have c4b0 : decide (x6_1 < t104) = false := decide_eq_false c4
    clear c4
    simp only [Option.some.injEq, Prod.mk.injEq] at H
    obtain ⟨rfl, rfl, rfl⟩ := H
    go_wp2_with (first | ((with_reducible refine gate_callee (f := 160) rfl ?_); refine goesL_ (some 12) rfl rfl Try.func160 (by kernel_rfl) rfl #[.int .i64 a1] rfl (by (try simp only [List.map_toArray, List.map_cons, List.map_nil]); first | done | rfl) ?_; (with_reducible refine (spec_meCount.calls a1 t104 _ A3.out).mono ?_); rintro e w' ⟨rfl, ⟨nd, rfl⟩⟩; refine ⟨_, rfl, ?_⟩))
    go_ret
    exact ⟨_, by first | rfl | (simp [errW_none, errW_some] <;> rfl) | (simp [*, errW_none, errW_some] <;> rfl), zR HO_5, zI101 HI0, zB HB, zK HK⟩
def spec_l1Cur_labels.l0 : Nat → Int → List Int → Int → Int → List Int → Int → Int → Option (Int × List Int × Int × Int)
  | 0, _, _, _, _, _, _, _ => none
  | k + 1, x6, x7, x46, x47, x1000, x1001, x1002 => if x47 < x46 then ((spec_l1Cur_pick.f x1000 x1001 x1002 3).bind fun bt151 => (if 0 ≤ x47 then (if x47 < (x7.length : Int) then (spec_l1Cur_labels.l0 k x6 (x7.set (x47 : Int).toNat bt151.1) x46 (wrap64 (x47 + 1)) x1000 bt151.2.1 bt151.2.2) else (none)) else (none))) else (some (x6, x7, x1001, x1002))
def spec_l1Cur_labels.f (k : Nat) (s0_0 : List Int) (s0_1 : Int) (s0_2 : Int) (a1 : Int) : Option (Int × List Int × Int × Int) := (spec_l1Cur_side.f s0_0 s0_1 s0_2 a1).bind fun bt119 => ((spec_meSide.f bt119.1).bind fun t122 => (if t122 = true then ((spec_l1Cur_sureLabels.f k s0_0 bt119.2.1 bt119.2.2 bt119.1).bind fun bt126 => ((spec_l1Cur_pick.f s0_0 bt126.2.1 bt126.2.2 10).bind fun bt131 => (if bt131.1 = 0 then ((spec_l1Cur_pick.f s0_0 bt131.2.1 bt131.2.2 (bt126.1.length : Int)).bind fun bt134 => ((spec_l1Cur_pick.f s0_0 bt134.2.1 bt134.2.2 3).bind fun bt137 => (if 0 ≤ bt134.1 then (if bt134.1 < (bt126.1.length : Int) then (some (bt119.1, (bt126.1.set (bt134.1 : Int).toNat bt137.1), bt137.2.1, bt137.2.2)) else (none)) else (none)))) else (if bt131.1 = 1 then ((spec_l1Cur_pick.f s0_0 bt131.2.1 bt131.2.2 (bt126.1.length : Int)).bind fun bt141 => ((spec_l1Cur_among.f s0_0 bt141.2.1 bt141.2.2 (([(-1), 3, 4611686018427387904] : List Int))).bind fun bt147 => (if 0 ≤ bt141.1 then (if bt141.1 < (bt126.1.length : Int) then (some (bt119.1, (bt126.1.set (bt141.1 : Int).toNat bt147.1), bt147.2.1, bt147.2.2)) else (none)) else (none)))) else (if bt131.1 = 2 then (spec_l1Cur_labels.l0 k bt119.1 bt126.1 (bt126.1.length : Int) 0 s0_0 bt131.2.1 bt131.2.2) else (if bt131.1 = 3 then (if bt126.1.length < 17592186044416 then (some (bt119.1, (bt126.1 ++ [0]), bt131.2.1, bt131.2.2)) else (none)) else (some (bt119.1, bt126.1, bt131.2.1, bt131.2.2)))))))) else (some (bt119.1, (([0, 1, 2] : List Int)), bt119.2.1, bt119.2.2))))
set_option maxHeartbeats 8000000 in
set_option maxRecDepth 100000 in
theorem spec_l1Cur_labels.calls (k : Nat) (g : Nat) (s0_0 : List Int) (s0_1 : Int) (s0_2 : Int) (a1 : Int) (r1 : Int) (r2 : List Int) (r3 : Int) (r4 : Int) (w0 w : World) (hI : IsS101 w0 w g s0_0 s0_1 s0_2) (hB : Below w0.heap.size w0 w) (h : spec_l1Cur_labels.f k s0_0 s0_1 s0_2 a1 = some (r1, r2, r3, r4)) :
  Calls Try.prog 296 #[.pointer (some ⟨g, 0, none⟩), .int .i64 a1] w fun e w' => ∃ v1_ : Value, e = .returned (.tuple #[.int .i64 r1, v1_]) ∧ Kd.R (Kd.int .i64) 3 w' w.heap.size (fun _ => True) v1_ r2 ∧ IsS101 w0 w' g s0_0 r3 r4 ∧ Below w0.heap.size w0 w' ∧ KeepBut w w' g none := by
 have HI0 := zA0 hI
 have HK := zA0 (KeepBut.refl w g none)
 have HL := zA0 hB.size
 clear hI
 have HW0 := zA0 hB.size
 have HB := zA0 hB
 clear hB
 have H : ((spec_l1Cur_side.f s0_0 s0_1 s0_2 a1).bind fun bt119 => ((spec_meSide.f bt119.1).bind fun t122 => (if t122 = true then ((spec_l1Cur_sureLabels.f k s0_0 bt119.2.1 bt119.2.2 bt119.1).bind fun bt126 => ((spec_l1Cur_pick.f s0_0 bt126.2.1 bt126.2.2 10).bind fun bt131 => (if bt131.1 = 0 then ((spec_l1Cur_pick.f s0_0 bt131.2.1 bt131.2.2 (bt126.1.length : Int)).bind fun bt134 => ((spec_l1Cur_pick.f s0_0 bt134.2.1 bt134.2.2 3).bind fun bt137 => (if 0 ≤ bt134.1 then (if bt134.1 < (bt126.1.length : Int) then (some (bt119.1, (bt126.1.set (bt134.1 : Int).toNat bt137.1), bt137.2.1, bt137.2.2)) else (none)) else (none)))) else (if bt131.1 = 1 then ((spec_l1Cur_pick.f s0_0 bt131.2.1 bt131.2.2 (bt126.1.length : Int)).bind fun bt141 => ((spec_l1Cur_among.f s0_0 bt141.2.1 bt141.2.2 (([(-1), 3, 4611686018427387904] : List Int))).bind fun bt147 => (if 0 ≤ bt141.1 then (if bt141.1 < (bt126.1.length : Int) then (some (bt119.1, (bt126.1.set (bt141.1 : Int).toNat bt147.1), bt147.2.1, bt147.2.2)) else (none)) else (none)))) else (if bt131.1 = 2 then (spec_l1Cur_labels.l0 k bt119.1 bt126.1 (bt126.1.length : Int) 0 s0_0 bt131.2.1 bt131.2.2) else (if bt131.1 = 3 then (if bt126.1.length < 17592186044416 then (some (bt119.1, (bt126.1 ++ [0]), bt131.2.1, bt131.2.2)) else (none)) else (some (bt119.1, bt126.1, bt131.2.1, bt131.2.2)))))))) else (some (bt119.1, (([0, 1, 2] : List Int)), bt119.2.1, bt119.2.2))))) = some (r1, r2, r3, r4) := h
 clear h
 replace H := Option.bind_eq_some_iff.mp H
 obtain ⟨⟨t119, t120, t121⟩, A30, H⟩ := H
 (try dsimp only at H)
 have A3 := zA0 A30
 clear A30
 replace H := Option.bind_eq_some_iff.mp H
 obtain ⟨t122, A40, H⟩ := H
 (try dsimp only at H)
 have A4 := zA0 A40
 clear A40
 by_cases c5 : t122 = true
 ·
  subst c5
  rw [if_pos rfl] at H
  replace H := Option.bind_eq_some_iff.mp H
  obtain ⟨⟨t126, t129, t130⟩, A60, H⟩ := H
  (try dsimp only at H)
  have A6 := zA0 A60
  clear A60
  replace H := Option.bind_eq_some_iff.mp H
  obtain ⟨⟨t131, t132, t133⟩, A70, H⟩ := H
  (try dsimp only at H)
  have A7 := zA0 A70
  clear A70
  by_cases c8 : t131 = 0
  ·
   rw [if_pos c8] at H
   have c8b0 : (t131 == 0) = true := beq_iff_eq.mpr c8
   have c8b1 : (t131 != 0) = false := bne_eq_false_iff_eq.mpr c8
   clear c8
   replace H := Option.bind_eq_some_iff.mp H
   obtain ⟨⟨t134, t135, t136⟩, A90, H⟩ := H
   (try dsimp only at H)
   have A9 := zA0 A90
   clear A90
   replace H := Option.bind_eq_some_iff.mp H
   obtain ⟨⟨t137, t138, t139⟩, A100, H⟩ := H
   (try dsimp only at H)
   have A10 := zA0 A100
   clear A100
   by_cases c11 : 0 ≤ t134
   ·
    rw [if_pos c11] at H
    have c11b0 : decide (0 ≤ t134) = true := decide_eq_true c11
    clear c11
    by_cases c12 : t134 < (t126.length : Int)
    ·
     rw [if_pos c12] at H
     have c12b0 : decide (t134 < (t126.length : Int)) = true := decide_eq_true c12
     clear c12
     obtain ⟨y140, hy140⟩ : ∃ y_ : List Int, y_ = (t126.set (t134 : Int).toNat t137) := ⟨_, rfl⟩
     replace H : (some (t119, y140, t138, t139)) = some (r1, r2, r3, r4) := by first | (rw [hy140]; with_reducible exact H) | (have H2_ := (Option.bind_some _ _).symm.trans H; rw [hy140]; with_reducible exact H2_) | (have H2_ := (Option.bind_some _ _).symm.trans H; with_reducible exact H2_) | with_reducible exact H | (rw [hy140]; exact H) | exact H
     have Ny140 := zA0 hy140
     clear hy140
     simp only [Option.some.injEq, Prod.mk.injEq] at H
     obtain ⟨rfl, rfl, rfl, rfl⟩ := H
     go_enter Try.func296, Try.ntmps296
     go_wp2_with (first | ((with_reducible refine gate_callee (f := 151) rfl ?_); refine goesL_ (some 11) rfl rfl Try.func151 (by kernel_rfl) rfl #[.pointer (some ⟨g, 0, none⟩), .int .i64 a1] rfl (by (try simp only [List.map_toArray, List.map_cons, List.map_nil]); first | done | rfl) ?_; (with_reducible refine (spec_l1Cur_side.calls g s0_0 s0_1 s0_2 a1 t119 t120 t121 w0 _ ?side1 ?side2 A3.out).mono ?_); (case side1 => exact zI101 HI0); (case side2 => exact zB HB); rintro e w14 ⟨rfl, hi, hb, hk⟩; refine ⟨_, rfl, ?_⟩; have n0_ := zA0 (KeepBut.trans (zK HK) hk (.inl rfl)); have n1_ := zA0 (hb); have n2_ := zA0 (hi); replace HK := n0_; replace HB := n1_; replace HI0 := n2_; clear n0_ n1_ n2_; (try clear hb); (try clear hb2); (try clear hk); (try clear hi)) | ((with_reducible refine gate_callee (f := 158) rfl ?_); refine goesL_ (some 13) rfl rfl Try.func158 (by kernel_rfl) rfl #[.int .i64 t119] rfl (by (try simp only [List.map_toArray, List.map_cons, List.map_nil]); first | done | rfl) ?_; (with_reducible refine (spec_meSide.calls t119 true _ A4.out).mono ?_); rintro e w' ⟨rfl, ⟨nd, rfl⟩⟩; refine ⟨_, rfl, ?_⟩; (try (rw [drewN_self w14]; generalize hq_ : World.drewN w14 _ = w14; have n0_ : Aside0 (IsS101 w0 w14 g s0_0 t120 t121) := ⟨by rw [← hq_]; exact (zI101 HI0)⟩; have n1_ : Aside0 (KeepBut w w14 g none) := ⟨by rw [← hq_]; exact (zK HK)⟩; have n2_ : Aside0 (Below w0.heap.size w0 w14) := ⟨by rw [← hq_]; exact (zB HB)⟩; clear HI0 HK HB hq_; have HI0 := n0_; have HK := n1_; have HB := n2_; clear n0_ n1_ n2_))) | ((with_reducible refine gate_callee (f := 341) rfl ?_); refine goesL_ (some 19) rfl rfl Try.func341 (by kernel_rfl) rfl #[.pointer (some ⟨g, 0, none⟩), .int .i64 t119] rfl (by (try simp only [List.map_toArray, List.map_cons, List.map_nil]); first | done | rfl) ?_; (with_reducible refine (spec_l1Cur_sureLabels.calls k g s0_0 t120 t121 t119 t126 t129 t130 w0 _ ?side1 ?side2 A6.out).mono ?_); (case side1 => exact zI101 HI0); (case side2 => exact zB HB); rintro e w15 ⟨v127, rfl, ho0, hi, hb, hk⟩; refine ⟨_, rfl, ?_⟩; have n0_ := zA0 (Kd.R_lower ho0 (keep_size (w := w) (g := g) (row := none) (zK HK))); have n1_ := zA0 (KeepBut.trans (zK HK) hk (.inl rfl)); have n2_ := zA0 (hb); have n3_ := zA0 (hi); have HO128 := n0_; replace HK := n1_; replace HB := n2_; replace HI0 := n3_; clear n0_ n1_ n2_ n3_; (try clear hb); (try clear hb2); (try clear hk); (try clear hi); (try clear ho0)) | ((with_reducible refine gate_callee (f := 177) rfl ?_); refine goesL_ (some 21) rfl rfl Try.func177 (by kernel_rfl) rfl #[.pointer (some ⟨g, 0, none⟩), .int .i64 10] rfl (by (try simp only [List.map_toArray, List.map_cons, List.map_nil]); first | done | rfl) ?_; (with_reducible refine (spec_l1Cur_pick.calls g s0_0 t129 t130 10 t131 t132 t133 w0 _ ?side1 ?side2 A7.out).mono ?_); (case side1 => exact zI101 HI0); (case side2 => exact zB HB); rintro e w16 ⟨rfl, hi, hb, hk⟩; refine ⟨_, rfl, ?_⟩; have n0_ := zA0 (Kd.R_mono (Kd.R_keep (IsS101.apart (show IsS101 w0 _ g s0_0 t129 t130 from zI101 HI0) (zR HO128) (by decide)) hk (fun _ h => h.2)) (fun _ h => h.1)); have n1_ := zA0 (KeepBut.trans (zK HK) hk (.inl rfl)); have n2_ := zA0 (hb); have n3_ := zA0 (hi); replace HO128 := n0_; replace HK := n1_; replace HB := n2_; replace HI0 := n3_; clear n0_ n1_ n2_ n3_; (try clear hb); (try clear hb2); (try clear hk); (try clear hi); obtain ⟨Ao17, co17, eo17⟩ := Kd.R_slice HO128.out; subst eo17) | ((with_reducible refine gate_callee (f := 177) rfl ?_); refine goesL_ (some 28) rfl rfl Try.func177 (by kernel_rfl) rfl #[.pointer (some ⟨g, 0, none⟩), .int .i64 (t126.length : Int)] rfl (by (try simp only [List.map_toArray, List.map_cons, List.map_nil]); first | done | rfl) ?_; (with_reducible refine (spec_l1Cur_pick.calls g s0_0 t132 t133 (t126.length : Int) t134 t135 t136 w0 _ ?side1 ?side2 A9.out).mono ?_); (case side1 => exact zI101 HI0); (case side2 => exact zB HB); rintro e w18 ⟨rfl, hi, hb, hk⟩; refine ⟨_, rfl, ?_⟩; have n0_ := zA0 (Kd.R_mono (Kd.R_keep (IsS101.apart (show IsS101 w0 _ g s0_0 t132 t133 from zI101 HI0) (zR HO128) (by decide)) hk (fun _ h => h.2)) (fun _ h => h.1)); have n1_ := zA0 (KeepBut.trans (zK HK) hk (.inl rfl)); have n2_ := zA0 (hb); have n3_ := zA0 (hi); replace HO128 := n0_; replace HK := n1_; replace HB := n2_; replace HI0 := n3_; clear n0_ n1_ n2_ n3_; (try clear hb); (try clear hb2); (try clear hk); (try clear hi)) | ((with_reducible refine gate_callee (f := 177) rfl ?_); refine goesL_ (some 30) rfl rfl Try.func177 (by kernel_rfl) rfl #[.pointer (some ⟨g, 0, none⟩), .int .i64 3] rfl (by (try simp only [List.map_toArray, List.map_cons, List.map_nil]); first | done | rfl) ?_; (with_reducible refine (spec_l1Cur_pick.calls g s0_0 t135 t136 3 t137 t138 t139 w0 _ ?side1 ?side2 A10.out).mono ?_); (case side1 => exact zI101 HI0); (case side2 => exact zB HB); rintro e w19 ⟨rfl, hi, hb, hk⟩; refine ⟨_, rfl, ?_⟩; have n0_ := zA0 (Kd.R_mono (Kd.R_keep (IsS101.apart (show IsS101 w0 _ g s0_0 t135 t136 from zI101 HI0) (zR HO128) (by decide)) hk (fun _ h => h.2)) (fun _ h => h.1)); have n1_ := zA0 (KeepBut.trans (zK HK) hk (.inl rfl)); have n2_ := zA0 (hb); have n3_ := zA0 (hi); replace HO128 := n0_; replace HK := n1_; replace HB := n2_; replace HI0 := n3_; clear n0_ n1_ n2_ n3_; (try clear hb); (try clear hb2); (try clear hk); (try clear hi); have p13 : 0 ≤ (t134 : Int) := of_decide_eq_true (by first | (with_reducible assumption) | assumption); have q13 : (t134 : Int) < ((t126.length : Int) : Int) := of_decide_eq_true (by first | (with_reducible assumption) | assumption); obtain ⟨go13, co13, eo13, gb13, gl13, cl13, HG13⟩ := Kd.R_form HO128.out (by omega); (first | cases eo13 | (injection eo13 with ea_ en_ ec_; (first | subst ea_ | (injection ea_ with ea_; subst ea_)); subst ec_; clear en_)); have GB13 := zA0 gb13; have GG13 := zA0 HG13; clear gb13 gl13 HG13; obtain ⟨hx13_0, hf13_0⟩ := Kd.R_celln 0 HO128.out (t134 : Int) p13 q13; replace p13 := eq_true p13; replace q13 := eq_true q13; obtain ⟨hy20_, hz20_⟩ := Kd.R_celln 0 HO128.out (t134 : Int) (of_decide_eq_true (by first | (with_reducible assumption) | assumption)) (of_decide_eq_true (by first | (with_reducible assumption) | assumption)); have HP20 := Kd.R_putg HO128.out (t134 : Int) t137) | ((with_reducible refine gate_store (t := 3) (p := 31) rfl ?_); refine store_event (t := 3) (p := 31) (v := ?vo_w21) (w1 := (w19.setCell ⟨go13, (t134 : Int).toNat, none⟩ (.int .i64 t137))) ?hg ?ho ?hn ?hr ?_; (case ho => rfl); (case hg => rfl); (case hn => rfl); (case hr => first | (go_simp; done) | (go_simp; rfl)); intro w21 hw; have hg : w19.grownBy w21 (some go13) := (by rw [hw]; exact HP20.2); have hp_ : Kd.R (Kd.int .i64) 3 w21 w.heap.size (fun _ => True) (.slice (some ⟨go13, 0, none⟩) t126.length co17) y140 := (by rw [hw, Ny140.out]; exact HP20.1); clear HP20; have n0_ := zA0 (IsS101.grown (zI101 HI0) hg (IsS101.own_ne HI0.out HO128.out (by decide))); have n1_ := zA0 (hp_); have n2_ := zA0 ((by rw [hw]; exact below_set (HB.out) (Nat.le_trans HL.out GB13.out) : Below w0.heap.size w0 w21)); have n3_ := zA0 (KeepBut.trans (zK HK) (KeepBut.of_grown hg g) (Kd.R_base2 HO128.out)); replace HI0 := n0_; replace HO128 := n1_; replace HB := n2_; replace HK := n3_; clear n0_ n1_ n2_ n3_; clear hg hw hp_))
     go_ret2
     exact ⟨_, by first | rfl | (simp [errW_none, errW_some] <;> rfl) | (simp [*, errW_none, errW_some] <;> rfl), zR HO128, zI101 HI0, zB HB, zK HK⟩
    ·
     rw [if_neg c12] at H
     exact absurd H (by simp)
   ·
    rw [if_neg c11] at H
    exact absurd H (by simp)
  ·
   rw [if_neg c8] at H
   have c8b0 : (t131 == 0) = false := beq_eq_false_iff_ne.mpr c8
   have c8b1 : (t131 != 0) = true := bne_iff_ne.mpr c8
   by_cases c22 : t131 = 1
   ·
    rw [if_pos c22] at H
    have c22b0 : (t131 == 1) = true := beq_iff_eq.mpr c22
    have c22b1 : (t131 != 1) = false := bne_eq_false_iff_eq.mpr c22
    clear c22
    replace H := Option.bind_eq_some_iff.mp H
    obtain ⟨⟨t141, t142, t143⟩, A230, H⟩ := H
    (try dsimp only at H)
    have A23 := zA0 A230
    clear A230
    obtain ⟨y144, hy144⟩ : ∃ y_ : List Int, y_ = (([(-1), 3, 4611686018427387904] : List Int)) := ⟨_, rfl⟩
    replace H : ((spec_l1Cur_among.f s0_0 t142 t143 y144).bind fun bt147 => (if 0 ≤ t141 then (if t141 < (t126.length : Int) then (some (t119, (t126.set (t141 : Int).toNat bt147.1), bt147.2.1, bt147.2.2)) else (none)) else (none))) = some (r1, r2, r3, r4) := by first | (rw [hy144]; with_reducible exact H) | (have H2_ := (Option.bind_some _ _).symm.trans H; rw [hy144]; with_reducible exact H2_) | (have H2_ := (Option.bind_some _ _).symm.trans H; with_reducible exact H2_) | with_reducible exact H | (rw [hy144]; exact H) | exact H
    have Ny144 := zA0 hy144
    clear hy144
    replace H := Option.bind_eq_some_iff.mp H
    obtain ⟨⟨t147, t148, t149⟩, A240, H⟩ := H
    (try dsimp only at H)
    have A24 := zA0 A240
    clear A240
    by_cases c25 : 0 ≤ t141
    ·
     rw [if_pos c25] at H
     have c25b0 : decide (0 ≤ t141) = true := decide_eq_true c25
     clear c25
     by_cases c26 : t141 < (t126.length : Int)
     ·
      rw [if_pos c26] at H
      have c26b0 : decide (t141 < (t126.length : Int)) = true := decide_eq_true c26
      clear c26
      obtain ⟨y150, hy150⟩ : ∃ y_ : List Int, y_ = (t126.set (t141 : Int).toNat t147) := ⟨_, rfl⟩
      replace H : (some (t119, y150, t148, t149)) = some (r1, r2, r3, r4) := by first | (rw [hy150]; with_reducible exact H) | (have H2_ := (Option.bind_some _ _).symm.trans H; rw [hy150]; with_reducible exact H2_) | (have H2_ := (Option.bind_some _ _).symm.trans H; with_reducible exact H2_) | with_reducible exact H | (rw [hy150]; exact H) | exact H
      have Ny150 := zA0 hy150
      clear hy150
      simp only [Option.some.injEq, Prod.mk.injEq] at H
      obtain ⟨rfl, rfl, rfl, rfl⟩ := H
      go_enter Try.func296, Try.ntmps296
      go_wp2_with (first | ((with_reducible refine gate_callee (f := 151) rfl ?_); refine goesL_ (some 11) rfl rfl Try.func151 (by kernel_rfl) rfl #[.pointer (some ⟨g, 0, none⟩), .int .i64 a1] rfl (by (try simp only [List.map_toArray, List.map_cons, List.map_nil]); first | done | rfl) ?_; (with_reducible refine (spec_l1Cur_side.calls g s0_0 s0_1 s0_2 a1 t119 t120 t121 w0 _ ?side1 ?side2 A3.out).mono ?_); (case side1 => exact zI101 HI0); (case side2 => exact zB HB); rintro e w28 ⟨rfl, hi, hb, hk⟩; refine ⟨_, rfl, ?_⟩; have n0_ := zA0 (KeepBut.trans (zK HK) hk (.inl rfl)); have n1_ := zA0 (hb); have n2_ := zA0 (hi); replace HK := n0_; replace HB := n1_; replace HI0 := n2_; clear n0_ n1_ n2_; (try clear hb); (try clear hb2); (try clear hk); (try clear hi)) | ((with_reducible refine gate_callee (f := 158) rfl ?_); refine goesL_ (some 13) rfl rfl Try.func158 (by kernel_rfl) rfl #[.int .i64 t119] rfl (by (try simp only [List.map_toArray, List.map_cons, List.map_nil]); first | done | rfl) ?_; (with_reducible refine (spec_meSide.calls t119 true _ A4.out).mono ?_); rintro e w' ⟨rfl, ⟨nd, rfl⟩⟩; refine ⟨_, rfl, ?_⟩; (try (rw [drewN_self w28]; generalize hq_ : World.drewN w28 _ = w28; have n0_ : Aside0 (IsS101 w0 w28 g s0_0 t120 t121) := ⟨by rw [← hq_]; exact (zI101 HI0)⟩; have n1_ : Aside0 (KeepBut w w28 g none) := ⟨by rw [← hq_]; exact (zK HK)⟩; have n2_ : Aside0 (Below w0.heap.size w0 w28) := ⟨by rw [← hq_]; exact (zB HB)⟩; clear HI0 HK HB hq_; have HI0 := n0_; have HK := n1_; have HB := n2_; clear n0_ n1_ n2_))) | ((with_reducible refine gate_callee (f := 341) rfl ?_); refine goesL_ (some 19) rfl rfl Try.func341 (by kernel_rfl) rfl #[.pointer (some ⟨g, 0, none⟩), .int .i64 t119] rfl (by (try simp only [List.map_toArray, List.map_cons, List.map_nil]); first | done | rfl) ?_; (with_reducible refine (spec_l1Cur_sureLabels.calls k g s0_0 t120 t121 t119 t126 t129 t130 w0 _ ?side1 ?side2 A6.out).mono ?_); (case side1 => exact zI101 HI0); (case side2 => exact zB HB); rintro e w29 ⟨v127, rfl, ho0, hi, hb, hk⟩; refine ⟨_, rfl, ?_⟩; have n0_ := zA0 (Kd.R_lower ho0 (keep_size (w := w) (g := g) (row := none) (zK HK))); have n1_ := zA0 (KeepBut.trans (zK HK) hk (.inl rfl)); have n2_ := zA0 (hb); have n3_ := zA0 (hi); have HO128 := n0_; replace HK := n1_; replace HB := n2_; replace HI0 := n3_; clear n0_ n1_ n2_ n3_; (try clear hb); (try clear hb2); (try clear hk); (try clear hi); (try clear ho0)) | ((with_reducible refine gate_callee (f := 177) rfl ?_); refine goesL_ (some 21) rfl rfl Try.func177 (by kernel_rfl) rfl #[.pointer (some ⟨g, 0, none⟩), .int .i64 10] rfl (by (try simp only [List.map_toArray, List.map_cons, List.map_nil]); first | done | rfl) ?_; (with_reducible refine (spec_l1Cur_pick.calls g s0_0 t129 t130 10 t131 t132 t133 w0 _ ?side1 ?side2 A7.out).mono ?_); (case side1 => exact zI101 HI0); (case side2 => exact zB HB); rintro e w30 ⟨rfl, hi, hb, hk⟩; refine ⟨_, rfl, ?_⟩; have n0_ := zA0 (Kd.R_mono (Kd.R_keep (IsS101.apart (show IsS101 w0 _ g s0_0 t129 t130 from zI101 HI0) (zR HO128) (by decide)) hk (fun _ h => h.2)) (fun _ h => h.1)); have n1_ := zA0 (KeepBut.trans (zK HK) hk (.inl rfl)); have n2_ := zA0 (hb); have n3_ := zA0 (hi); replace HO128 := n0_; replace HK := n1_; replace HB := n2_; replace HI0 := n3_; clear n0_ n1_ n2_ n3_; (try clear hb); (try clear hb2); (try clear hk); (try clear hi); obtain ⟨Ao31, co31, eo31⟩ := Kd.R_slice HO128.out; subst eo31) | ((with_reducible refine gate_callee (f := 177) rfl ?_); refine goesL_ (some 38) rfl rfl Try.func177 (by kernel_rfl) rfl #[.pointer (some ⟨g, 0, none⟩), .int .i64 (t126.length : Int)] rfl (by (try simp only [List.map_toArray, List.map_cons, List.map_nil]); first | done | rfl) ?_; (with_reducible refine (spec_l1Cur_pick.calls g s0_0 t132 t133 (t126.length : Int) t141 t142 t143 w0 _ ?side1 ?side2 A23.out).mono ?_); (case side1 => exact zI101 HI0); (case side2 => exact zB HB); rintro e w32 ⟨rfl, hi, hb, hk⟩; refine ⟨_, rfl, ?_⟩; have n0_ := zA0 (Kd.R_mono (Kd.R_keep (IsS101.apart (show IsS101 w0 _ g s0_0 t132 t133 from zI101 HI0) (zR HO128) (by decide)) hk (fun _ h => h.2)) (fun _ h => h.1)); have n1_ := zA0 (KeepBut.trans (zK HK) hk (.inl rfl)); have n2_ := zA0 (hb); have n3_ := zA0 (hi); replace HO128 := n0_; replace HK := n1_; replace HB := n2_; replace HI0 := n3_; clear n0_ n1_ n2_ n3_; (try clear hb); (try clear hb2); (try clear hk); (try clear hi)) | ((with_reducible refine gate_dst (N := 40) rfl ?_); refine Kd.R_lit (Kd.int .i64) _ 3 ?hg (N := 40) ?hd (xs := ([(-1), 3, 4611686018427387904] : List Int)) (inner := [.int .i64 (-1), .int .i64 3, .int .i64 4611686018427387904]) (ok := fun _ => True) (okp := fun _ => True) ?hr ?hp (fun _ hk => hk) trivial (Below.refl _ _) (Nat.le_refl _) (by simp) ?_; (case hd => rfl); (case hg => rfl); (case hr => first | (go_simp; done) | (go_simp; rfl)); (case hp => exact (Reps.one (show Kd.M (Kd.int .i64) _ _ _ (-1) [.int .i64 (-1)] from rfl) (Reps.one (show Kd.M (Kd.int .i64) _ _ _ 3 [.int .i64 3] from rfl) (Reps.one (show Kd.M (Kd.int .i64) _ _ _ 4611686018427387904 [.int .i64 4611686018427387904] from rfl) (Reps.none _ _))))); intro v145 w33 ho34 hb hg_ hnew_; clear hg_ hnew_; (first | rw [← Ny144.out] at ho34 | (simp only [Int.reduceToNat] at ho34; rw [← Ny144.out] at ho34)); have n0_ := zA0 (Kd.R_elder' (zR HO128) (Kd.R_base ho34) hb); have n1_ := zA0 (Kd.R_lower (Kd.R_new' ho34 (Kd.R_lt (zR HO128))) (keep_size (w := w) (g := g) (row := none) (zK HK))); have n2_ := zA0 (IsS101.below (zI101 HI0) hb); have n3_ := zA0 (KeepBut.trans (zK HK) (KeepBut.of_below hb g none) (.inl rfl)); have n4_ := zA0 (below_step (zB HB) hb); replace HO128 := n0_; have HO146 := n1_; replace HI0 := n2_; replace HK := n3_; replace HB := n4_; clear n0_ n1_ n2_ n3_ n4_; clear hb ho34; obtain ⟨Ao35, co35, eo35⟩ := Kd.R_slice HO146.out; subst eo35) | ((with_reducible refine gate_callee (f := 179) rfl ?_); refine goesL_ (some 41) rfl rfl Try.func179 (by kernel_rfl) rfl #[.pointer (some ⟨g, 0, none⟩), .slice Ao35 y144.length co35] rfl (by (try simp only [List.map_toArray, List.map_cons, List.map_nil]); first | done | rfl) ?_; (with_reducible refine (spec_l1Cur_among.calls g s0_0 t142 t143 _ _ y144 t147 t148 t149 w0 _ ?side1 ?side2 ?side3 ?side4 ?side5 A24.out).mono ?_); (case side1 => exact zI101 HI0); (case side2 => exact zB HB); (case side3 => exact zC (Kd.R_reads' HO146.out).2.2); (case side4 => exact (Kd.R_reads' HO146.out).2.1); (case side5 => exact far_slice (IsS101.own_ne HI0.out HO146.out (by decide))); rintro e w36 ⟨rfl, hi, hb, hk⟩; refine ⟨_, rfl, ?_⟩; have n0_ := zA0 (Kd.R_mono (Kd.R_keep (IsS101.apart (show IsS101 w0 _ g s0_0 t142 t143 from zI101 HI0) (zR HO128) (by decide)) hk (fun _ h => h.2)) (fun _ h => h.1)); have n1_ := zA0 (Kd.R_mono (Kd.R_keep (IsS101.apart (show IsS101 w0 _ g s0_0 t142 t143 from zI101 HI0) (zR HO146) (by decide)) hk (fun _ h => h.2)) (fun _ h => h.1)); have n2_ := zA0 (KeepBut.trans (zK HK) hk (.inl rfl)); have n3_ := zA0 (hb); have n4_ := zA0 (hi); replace HO128 := n0_; replace HO146 := n1_; replace HK := n2_; replace HB := n3_; replace HI0 := n4_; clear n0_ n1_ n2_ n3_ n4_; (try clear hb); (try clear hb2); (try clear hk); (try clear hi); have p27 : 0 ≤ (t141 : Int) := of_decide_eq_true (by first | (with_reducible assumption) | assumption); have q27 : (t141 : Int) < ((t126.length : Int) : Int) := of_decide_eq_true (by first | (with_reducible assumption) | assumption); obtain ⟨go27, co27, eo27, gb27, gl27, cl27, HG27⟩ := Kd.R_form HO128.out (by omega); (first | cases eo27 | (injection eo27 with ea_ en_ ec_; (first | subst ea_ | (injection ea_ with ea_; subst ea_)); subst ec_; clear en_)); have GB27 := zA0 gb27; have GG27 := zA0 HG27; clear gb27 gl27 HG27; obtain ⟨hx27_0, hf27_0⟩ := Kd.R_celln 0 HO128.out (t141 : Int) p27 q27; replace p27 := eq_true p27; replace q27 := eq_true q27; have n_ := zA0 (Kd.R_mono (ok' := (fun k_ => some k_ ≠ (.slice Ao35 y144.length co35 : Value).ownBlock)) HO128.out (fun k_ hk => hk.2)); clear HO128; have HO128 := n_; clear n_; obtain ⟨hy37_, hz37_⟩ := Kd.R_celln 0 HO128.out (t141 : Int) (of_decide_eq_true (by first | (with_reducible assumption) | assumption)) (of_decide_eq_true (by first | (with_reducible assumption) | assumption)); have HP37 := Kd.R_putg HO128.out (t141 : Int) t147) | ((with_reducible refine gate_store (t := 3) (p := 42) rfl ?_); refine store_event (t := 3) (p := 42) (v := ?vo_w38) (w1 := (w36.setCell ⟨go27, (t141 : Int).toNat, none⟩ (.int .i64 t147))) ?hg ?ho ?hn ?hr ?_; (case ho => rfl); (case hg => rfl); (case hn => rfl); (case hr => first | (go_simp; done) | (go_simp; rfl)); intro w38 hw; have hg : w36.grownBy w38 (some go27) := (by rw [hw]; exact HP37.2); have hp_ : Kd.R (Kd.int .i64) 3 w38 w.heap.size (fun k_ => some k_ ≠ (.slice Ao35 y144.length co35 : Value).ownBlock) (.slice (some ⟨go27, 0, none⟩) t126.length co31) y150 := (by rw [hw, Ny150.out]; exact HP37.1); clear HP37; have n0_ := zA0 (IsS101.grown (zI101 HI0) hg (IsS101.own_ne HI0.out HO128.out (by decide))); have n1_ := zA0 (hp_); have n2_ := zA0 (Kd.R_after (v := (.slice (some ⟨go27, 0, none⟩) t126.length co31)) (v1 := (.slice (some ⟨go27, 0, none⟩) t126.length co31)) (ok := (fun _ => True)) (zR HO146) hg (.inl rfl)); have n3_ := zA0 ((by rw [hw]; exact below_set (HB.out) (Nat.le_trans HL.out GB27.out) : Below w0.heap.size w0 w38)); have n4_ := zA0 (KeepBut.trans (zK HK) (KeepBut.of_grown hg g) (Kd.R_base2 HO128.out)); replace HI0 := n0_; replace HO128 := n1_; replace HO146 := n2_; replace HB := n3_; replace HK := n4_; clear n0_ n1_ n2_ n3_ n4_; clear hg hw hp_))
      go_ret2
      exact ⟨_, by first | rfl | (simp [errW_none, errW_some] <;> rfl) | (simp [*, errW_none, errW_some] <;> rfl), by (with_reducible repeat (first | apply zrA | apply zrN | apply zrD)); exact Kd.R_mono HO128.out (fun _ hk => trivial), zI101 HI0, zB HB, zK HK⟩
     ·
      rw [if_neg c26] at H
      exact absurd H (by simp)
    ·
     rw [if_neg c25] at H
     exact absurd H (by simp)
   ·
    rw [if_neg c22] at H
    have c22b0 : (t131 == 1) = false := beq_eq_false_iff_ne.mpr c22
    have c22b1 : (t131 != 1) = true := bne_iff_ne.mpr c22
    by_cases c39 : t131 = 2
    ·
     rw [if_pos c39] at H
     have c39b0 : (t131 == 2) = true := beq_iff_eq.mpr c39
     have c39b1 : (t131 != 2) = false := bne_eq_false_iff_eq.mpr c39
     clear c39
     have H' := zA0 H
     clear H
     go_enter Try.func296, Try.ntmps296
     go_wp2_with (first | ((with_reducible refine gate_callee (f := 151) rfl ?_); refine goesL_ (some 11) rfl rfl Try.func151 (by kernel_rfl) rfl #[.pointer (some ⟨g, 0, none⟩), .int .i64 a1] rfl (by (try simp only [List.map_toArray, List.map_cons, List.map_nil]); first | done | rfl) ?_; (with_reducible refine (spec_l1Cur_side.calls g s0_0 s0_1 s0_2 a1 t119 t120 t121 w0 _ ?side1 ?side2 A3.out).mono ?_); (case side1 => exact zI101 HI0); (case side2 => exact zB HB); rintro e w40 ⟨rfl, hi, hb, hk⟩; refine ⟨_, rfl, ?_⟩; have n0_ := zA0 (KeepBut.trans (zK HK) hk (.inl rfl)); have n1_ := zA0 (hb); have n2_ := zA0 (hi); replace HK := n0_; replace HB := n1_; replace HI0 := n2_; clear n0_ n1_ n2_; (try clear hb); (try clear hb2); (try clear hk); (try clear hi)) | ((with_reducible refine gate_callee (f := 158) rfl ?_); refine goesL_ (some 13) rfl rfl Try.func158 (by kernel_rfl) rfl #[.int .i64 t119] rfl (by (try simp only [List.map_toArray, List.map_cons, List.map_nil]); first | done | rfl) ?_; (with_reducible refine (spec_meSide.calls t119 true _ A4.out).mono ?_); rintro e w' ⟨rfl, ⟨nd, rfl⟩⟩; refine ⟨_, rfl, ?_⟩) | ((with_reducible refine gate_callee (f := 341) rfl ?_); refine goesL_ (some 19) rfl rfl Try.func341 (by kernel_rfl) rfl #[.pointer (some ⟨g, 0, none⟩), .int .i64 t119] rfl (by (try simp only [List.map_toArray, List.map_cons, List.map_nil]); first | done | rfl) ?_; (with_reducible refine (spec_l1Cur_sureLabels.calls k g s0_0 t120 t121 t119 t126 t129 t130 w0 _ ?side1 ?side2 A6.out).mono ?_); (case side1 => exact zI101 HI0); (case side2 => exact zB HB); rintro e w41 ⟨v127, rfl, ho0, hi, hb, hk⟩; refine ⟨_, rfl, ?_⟩; have n0_ := zA0 (Kd.R_lower ho0 (keep_size (w := w) (g := g) (row := none) (zK HK))); have n1_ := zA0 (KeepBut.trans (zK HK) hk (.inl rfl)); have n2_ := zA0 (hb); have n3_ := zA0 (hi); have HO128 := n0_; replace HK := n1_; replace HB := n2_; replace HI0 := n3_; clear n0_ n1_ n2_ n3_; (try clear hb); (try clear hb2); (try clear hk); (try clear hi); (try clear ho0)) | ((with_reducible refine gate_callee (f := 177) rfl ?_); refine goesL_ (some 21) rfl rfl Try.func177 (by kernel_rfl) rfl #[.pointer (some ⟨g, 0, none⟩), .int .i64 10] rfl (by (try simp only [List.map_toArray, List.map_cons, List.map_nil]); first | done | rfl) ?_; (with_reducible refine (spec_l1Cur_pick.calls g s0_0 t129 t130 10 t131 t132 t133 w0 _ ?side1 ?side2 A7.out).mono ?_); (case side1 => exact zI101 HI0); (case side2 => exact zB HB); rintro e w42 ⟨rfl, hi, hb, hk⟩; refine ⟨_, rfl, ?_⟩; have n0_ := zA0 (Kd.R_mono (Kd.R_keep (IsS101.apart (show IsS101 w0 _ g s0_0 t129 t130 from zI101 HI0) (zR HO128) (by decide)) hk (fun _ h => h.2)) (fun _ h => h.1)); have n1_ := zA0 (KeepBut.trans (zK HK) hk (.inl rfl)); have n2_ := zA0 (hb); have n3_ := zA0 (hi); replace HO128 := n0_; replace HK := n1_; replace HB := n2_; replace HI0 := n3_; clear n0_ n1_ n2_ n3_; (try clear hb); (try clear hb2); (try clear hk); (try clear hi); obtain ⟨Ao43, co43, eo43⟩ := Kd.R_slice HO128.out; subst eo43))
     go_loopg [47] k (fun kq v47 w' => ∃ (x7_1 : List Int) (x47_1 : Int) (x1001_1 : Int) (x1002_1 : Int), v47 = .int .i64 x47_1 ∧ Aside0 (spec_l1Cur_labels.l0 kq t119 x7_1 (t126.length : Int) x47_1 s0_0 x1001_1 x1002_1 = some (r1, r2, r3, r4)) ∧ Aside0 (kq ≤ k) ∧ Aside0 (Kd.R (Kd.int .i64) 3 w' w.heap.size (fun _ => True) (.slice Ao43 t126.length co43) x7_1) ∧ Aside0 (IsS101 w0 w' g s0_0 x1001_1 x1002_1) ∧ Aside0 (KeepBut w w' g none) ∧ Aside0 (Below w0.heap.size w0 w'))
     case atStart => exact ⟨(t126), (0), (t132), (t133), (by first | rfl | (simp; done) | (simp [*]; done) | (simp; decide) | (simp; unfold wrap64; omega)), H', ⟨Nat.le_refl _⟩, ⟨zR HO128⟩, ⟨zI101 HI0⟩, ⟨zK HK⟩, ⟨zB HB⟩⟩
     case round =>
      clear H'
      try clear c1
      try clear p1
      try clear q1
      try clear hx1
      try clear c2
      try clear p2
      try clear q2
      try clear hx2
      try clear hf2
      try clear c3
      try clear c5
      try clear p6
      try clear c8
      try clear c8b0
      try clear c8b1
      try clear c11
      try clear c11b0
      try clear c12
      try clear c12b0
      try clear p13
      try clear q13
      try clear hx13
      try clear hf13
      try clear c15
      try clear c17
      try clear c22
      try clear c22b0
      try clear c22b1
      try clear c25
      try clear c25b0
      try clear c26
      try clear c26b0
      try clear p27
      try clear q27
      try clear hx27
      try clear hf27
      try clear c29
      try clear c34
      try clear c39
      try clear c39b0
      try clear c39b1
      try clear hx13_0
      try clear hx27_0
      try clear p13
      try clear p27
      try clear q13
      try clear q27
      obtain ⟨x7_1, x47_1, x1001_1, x1002_1, rfl, HA, HK1, HO_7, HI0, HK, HB⟩ := hrel
      have hl7_1 := (Kd.R_reads' HO_7.out).1
      rw [hl7_1] at HO_7
      (try simp only [hl7_1])
      cases gk with
      | zero => exact absurd HA.out (by simp [spec_l1Cur_labels.l0])
      | succ k1 =>
       have H := HA.out
       clear HA
       simp only [spec_l1Cur_labels.l0] at H
       by_cases c44 : x47_1 < (t126.length : Int)
       ·
        rw [if_pos c44] at H
        have c44b0 : decide (x47_1 < (t126.length : Int)) = true := decide_eq_true c44
        clear c44
        replace H := Option.bind_eq_some_iff.mp H
        obtain ⟨⟨t151, t152, t153⟩, A450, H⟩ := H
        (try dsimp only at H)
        have A45 := zA0 A450
        clear A450
        by_cases c46 : 0 ≤ x47_1
        ·
         rw [if_pos c46] at H
         have c46b0 : decide (0 ≤ x47_1) = true := decide_eq_true c46
         clear c46
         by_cases c47 : x47_1 < (x7_1.length : Int)
         ·
          rw [if_pos c47] at H
          have c47b0 : decide (x47_1 < (x7_1.length : Int)) = true := decide_eq_true c47
          clear c47
          obtain ⟨y154, hy154⟩ : ∃ y_ : List Int, y_ = (x7_1.set (x47_1 : Int).toNat t151) := ⟨_, rfl⟩
          replace H : (spec_l1Cur_labels.l0 k1 t119 y154 (t126.length : Int) (wrap64 (x47_1 + 1)) s0_0 t152 t153) = some (r1, r2, r3, r4) := by first | (rw [hy154]; with_reducible exact H) | (have H2_ := (Option.bind_some _ _).symm.trans H; rw [hy154]; with_reducible exact H2_) | (have H2_ := (Option.bind_some _ _).symm.trans H; with_reducible exact H2_) | with_reducible exact H | (rw [hy154]; exact H) | exact H
          have Ny154 := zA0 hy154
          clear hy154
          have H' := zA0 H
          clear H
          go_wp2_with (first | ((with_reducible refine gate_callee (f := 177) rfl ?_); refine goesL_ (some 53) rfl rfl Try.func177 (by kernel_rfl) rfl #[.pointer (some ⟨g, 0, none⟩), .int .i64 3] rfl (by (try simp only [List.map_toArray, List.map_cons, List.map_nil]); first | done | rfl) ?_; (with_reducible refine (spec_l1Cur_pick.calls g s0_0 x1001_1 x1002_1 3 t151 t152 t153 w0 _ ?side1 ?side2 A45.out).mono ?_); (case side1 => exact zI101 HI0); (case side2 => exact zB HB); rintro e w49 ⟨rfl, hi, hb, hk⟩; refine ⟨_, rfl, ?_⟩; have n0_ := zA0 (Kd.R_mono (Kd.R_keep (IsS101.apart (show IsS101 w0 _ g s0_0 x1001_1 x1002_1 from zI101 HI0) (zR HO_7) (by decide)) hk (fun _ h => h.2)) (fun _ h => h.1)); have n1_ := zA0 (KeepBut.trans (zK HK) hk (.inl rfl)); have n2_ := zA0 (hb); have n3_ := zA0 (hi); replace HO_7 := n0_; replace HK := n1_; replace HB := n2_; replace HI0 := n3_; clear n0_ n1_ n2_ n3_; (try clear hb); (try clear hb2); (try clear hk); (try clear hi); have p48 : 0 ≤ (x47_1 : Int) := of_decide_eq_true (by first | (with_reducible assumption) | assumption); have q48 : (x47_1 : Int) < ((x7_1.length : Int) : Int) := of_decide_eq_true (by first | (with_reducible assumption) | assumption); obtain ⟨go48, co48, eo48, gb48, gl48, cl48, HG48⟩ := Kd.R_form HO_7.out (by omega); (first | cases eo48 | (injection eo48 with ea_ en_ ec_; (first | subst ea_ | (injection ea_ with ea_; subst ea_)); subst ec_; clear en_)); have GB48 := zA0 gb48; have GG48 := zA0 HG48; clear gb48 gl48 HG48; obtain ⟨hx48_0, hf48_0⟩ := Kd.R_celln 0 HO_7.out (x47_1 : Int) p48 q48; replace p48 := eq_true p48; replace q48 := eq_true q48; obtain ⟨hy50_, hz50_⟩ := Kd.R_celln 0 HO_7.out (x47_1 : Int) (of_decide_eq_true (by first | (with_reducible assumption) | assumption)) (of_decide_eq_true (by first | (with_reducible assumption) | assumption)); have HP50 := Kd.R_putg HO_7.out (x47_1 : Int) t151) | ((with_reducible refine gate_store (t := 3) (p := 54) rfl ?_); refine store_event (t := 3) (p := 54) (v := ?vo_w51) (w1 := (w49.setCell ⟨go48, (x47_1 : Int).toNat, none⟩ (.int .i64 t151))) ?hg ?ho ?hn ?hr ?_; (case ho => rfl); (case hg => rfl); (case hn => rfl); (case hr => first | (go_simp; done) | (go_simp; rfl)); intro w51 hw; have hg : w49.grownBy w51 (some go48) := (by rw [hw]; exact HP50.2); have hp_ : Kd.R (Kd.int .i64) 3 w51 w.heap.size (fun _ => True) (.slice (some ⟨go48, 0, none⟩) x7_1.length co43) y154 := (by rw [hw, Ny154.out]; exact HP50.1); clear HP50; have n0_ := zA0 (hp_); have n1_ := zA0 (IsS101.grown (zI101 HI0) hg (IsS101.own_ne HI0.out HO_7.out (by decide))); have n2_ := zA0 ((by rw [hw]; exact below_set (HB.out) (Nat.le_trans HL.out GB48.out) : Below w0.heap.size w0 w51)); have n3_ := zA0 (KeepBut.trans (zK HK) (KeepBut.of_grown hg g) (Kd.R_base2 HO_7.out)); replace HO_7 := n0_; replace HI0 := n1_; replace HB := n2_; replace HK := n3_; clear n0_ n1_ n2_ n3_; clear hg hw hp_))
          (try simp only [← hl7_1])
          go_roundg k1
          case measure => have := HK1.out; omega
          case rel => exact ⟨(y154), (wrap64 (x47_1 + 1)), (t152), (t153), (by first | rfl | (simp; done) | (simp [*]; done) | (simp; decide) | (simp; unfold wrap64; omega)), H', ⟨by have := HK1.out; omega⟩, ⟨by (try simp only [hl7_1]); (with_reducible repeat (first | apply zrA | apply zrN | apply zrD)); exact HO_7.out⟩, ⟨zI101 HI0⟩, ⟨zK HK⟩, ⟨zB HB⟩⟩
         ·
          rw [if_neg c47] at H
          exact absurd H (by simp)
        ·
         rw [if_neg c46] at H
         exact absurd H (by simp)
       ·
        rw [if_neg c44] at H
        have c44b0 : decide (x47_1 < (t126.length : Int)) = false := decide_eq_false c44
        (try (have c44b9 := c44b0; rw [hl7_1] at c44b9))
        clear c44
        simp only [Option.some.injEq, Prod.mk.injEq] at H
        obtain ⟨rfl, rfl, rfl, rfl⟩ := H
        go_wp2
        go_ret2
        exact ⟨_, by first | rfl | (simp [errW_none, errW_some] <;> rfl) | (simp [*, errW_none, errW_some] <;> rfl), zR HO_7, zI101 HI0, zB HB, zK HK⟩
    ·
     rw [if_neg c39] at H
     have c39b0 : (t131 == 2) = false := beq_eq_false_iff_ne.mpr c39
     have c39b1 : (t131 != 2) = true := bne_iff_ne.mpr c39
     by_cases c52 : t131 = 3
     ·
      rw [if_pos c52] at H
      have c52b0 : (t131 == 3) = true := beq_iff_eq.mpr c52
      have c52b1 : (t131 != 3) = false := bne_eq_false_iff_eq.mpr c52
      clear c52
      by_cases c53 : t126.length < 17592186044416
      ·
       rw [if_pos c53] at H
       have LMc53 := zA0 c53
       clear c53
       obtain ⟨y155, hy155⟩ : ∃ y_ : List Int, y_ = (t126 ++ [0]) := ⟨_, rfl⟩
       replace H : (some (t119, y155, t132, t133)) = some (r1, r2, r3, r4) := by first | (rw [hy155]; with_reducible exact H) | (have H2_ := (Option.bind_some _ _).symm.trans H; rw [hy155]; with_reducible exact H2_) | (have H2_ := (Option.bind_some _ _).symm.trans H; with_reducible exact H2_) | with_reducible exact H | (rw [hy155]; exact H) | exact H
       have Ny155 := zA0 hy155
       clear hy155
       simp only [Option.some.injEq, Prod.mk.injEq] at H
       obtain ⟨rfl, rfl, rfl, rfl⟩ := H
       go_enter Try.func296, Try.ntmps296
       go_wp2_with (first | ((with_reducible refine gate_callee (f := 151) rfl ?_); refine goesL_ (some 11) rfl rfl Try.func151 (by kernel_rfl) rfl #[.pointer (some ⟨g, 0, none⟩), .int .i64 a1] rfl (by (try simp only [List.map_toArray, List.map_cons, List.map_nil]); first | done | rfl) ?_; (with_reducible refine (spec_l1Cur_side.calls g s0_0 s0_1 s0_2 a1 t119 t120 t121 w0 _ ?side1 ?side2 A3.out).mono ?_); (case side1 => exact zI101 HI0); (case side2 => exact zB HB); rintro e w54 ⟨rfl, hi, hb, hk⟩; refine ⟨_, rfl, ?_⟩; have n0_ := zA0 (KeepBut.trans (zK HK) hk (.inl rfl)); have n1_ := zA0 (hb); have n2_ := zA0 (hi); replace HK := n0_; replace HB := n1_; replace HI0 := n2_; clear n0_ n1_ n2_; (try clear hb); (try clear hb2); (try clear hk); (try clear hi)) | ((with_reducible refine gate_callee (f := 158) rfl ?_); refine goesL_ (some 13) rfl rfl Try.func158 (by kernel_rfl) rfl #[.int .i64 t119] rfl (by (try simp only [List.map_toArray, List.map_cons, List.map_nil]); first | done | rfl) ?_; (with_reducible refine (spec_meSide.calls t119 true _ A4.out).mono ?_); rintro e w' ⟨rfl, ⟨nd, rfl⟩⟩; refine ⟨_, rfl, ?_⟩) | ((with_reducible refine gate_callee (f := 341) rfl ?_); refine goesL_ (some 19) rfl rfl Try.func341 (by kernel_rfl) rfl #[.pointer (some ⟨g, 0, none⟩), .int .i64 t119] rfl (by (try simp only [List.map_toArray, List.map_cons, List.map_nil]); first | done | rfl) ?_; (with_reducible refine (spec_l1Cur_sureLabels.calls k g s0_0 t120 t121 t119 t126 t129 t130 w0 _ ?side1 ?side2 A6.out).mono ?_); (case side1 => exact zI101 HI0); (case side2 => exact zB HB); rintro e w55 ⟨v127, rfl, ho0, hi, hb, hk⟩; refine ⟨_, rfl, ?_⟩; have n0_ := zA0 (Kd.R_lower ho0 (keep_size (w := w) (g := g) (row := none) (zK HK))); have n1_ := zA0 (KeepBut.trans (zK HK) hk (.inl rfl)); have n2_ := zA0 (hb); have n3_ := zA0 (hi); have HO128 := n0_; replace HK := n1_; replace HB := n2_; replace HI0 := n3_; clear n0_ n1_ n2_ n3_; (try clear hb); (try clear hb2); (try clear hk); (try clear hi); (try clear ho0)) | ((with_reducible refine gate_callee (f := 177) rfl ?_); refine goesL_ (some 21) rfl rfl Try.func177 (by kernel_rfl) rfl #[.pointer (some ⟨g, 0, none⟩), .int .i64 10] rfl (by (try simp only [List.map_toArray, List.map_cons, List.map_nil]); first | done | rfl) ?_; (with_reducible refine (spec_l1Cur_pick.calls g s0_0 t129 t130 10 t131 t132 t133 w0 _ ?side1 ?side2 A7.out).mono ?_); (case side1 => exact zI101 HI0); (case side2 => exact zB HB); rintro e w56 ⟨rfl, hi, hb, hk⟩; refine ⟨_, rfl, ?_⟩; have n0_ := zA0 (Kd.R_mono (Kd.R_keep (IsS101.apart (show IsS101 w0 _ g s0_0 t129 t130 from zI101 HI0) (zR HO128) (by decide)) hk (fun _ h => h.2)) (fun _ h => h.1)); have n1_ := zA0 (KeepBut.trans (zK HK) hk (.inl rfl)); have n2_ := zA0 (hb); have n3_ := zA0 (hi); replace HO128 := n0_; replace HK := n1_; replace HB := n2_; replace HI0 := n3_; clear n0_ n1_ n2_ n3_; (try clear hb); (try clear hb2); (try clear hk); (try clear hi)) | ((with_reducible refine gate_builtin (b := .append) (xs := #[.tmp 58, .tmp 59]) rfl ?_); at_builtin; refine Kd.R_append (Kd.int .i64) w.heap.size rfl (.tmp 58) (.tmp 59) 22 3 (.int .i64 0) 8 rfl Try.underlying22 info3 rfl (by decide) (by omega) v127 t126 0 [.int .i64 0] (fun _ => True) (fun _ => False) rfl rfl ?aP (fun _ hk => hk.elim) ?aF ?aO (Below.refl _ _) ?aS ?aL ?_; (case aP => exact rfl); (case aF => exact (fun _ _ => trivial)); (case aO => exact (zR HO128)); (case aS => exact (keep_size (w := w) (g := g) (row := none) (zK HK))); (case aL => have := LMc53.out; omega); intro v156 w57 ho hb hg hat; rw [← Ny155.out] at ho; have n0_ := zA0 (IsS101.grown (zI101 HI0) hg (IsS101.own_ne HI0.out HO128.out (by decide))); have n1_ := zA0 (below_weaken (zB HB) HL.out hb); have n2_ := zA0 (KeepBut.trans (zK HK) (KeepBut.of_grown hg g) (Kd.R_base2 HO128.out)); have n3_ := zA0 (ho); clear HO128; replace HI0 := n0_; replace HB := n1_; replace HK := n2_; have HO157 := n3_; clear n0_ n1_ n2_ n3_; clear ho hb hg hat))
       go_ret2
       exact ⟨_, by first | rfl | (simp [errW_none, errW_some] <;> rfl) | (simp [*, errW_none, errW_some] <;> rfl), zR HO157, zI101 HI0, zB HB, zK HK⟩
      ·
       rw [if_neg c53] at H
       exact absurd H (by simp)
     ·
      rw [if_neg c52] at H
      have c52b0 : (t131 == 3) = false := beq_eq_false_iff_ne.mpr c52
      have c52b1 : (t131 != 3) = true := bne_iff_ne.mpr c52
      simp only [Option.some.injEq, Prod.mk.injEq] at H
      obtain ⟨rfl, rfl, rfl, rfl⟩ := H
      go_enter Try.func296, Try.ntmps296
      go_wp2_with (first | ((with_reducible refine gate_callee (f := 151) rfl ?_); refine goesL_ (some 11) rfl rfl Try.func151 (by kernel_rfl) rfl #[.pointer (some ⟨g, 0, none⟩), .int .i64 a1] rfl (by (try simp only [List.map_toArray, List.map_cons, List.map_nil]); first | done | rfl) ?_; (with_reducible refine (spec_l1Cur_side.calls g s0_0 s0_1 s0_2 a1 t119 t120 t121 w0 _ ?side1 ?side2 A3.out).mono ?_); (case side1 => exact zI101 HI0); (case side2 => exact zB HB); rintro e w58 ⟨rfl, hi, hb, hk⟩; refine ⟨_, rfl, ?_⟩; have n0_ := zA0 (KeepBut.trans (zK HK) hk (.inl rfl)); have n1_ := zA0 (hb); have n2_ := zA0 (hi); replace HK := n0_; replace HB := n1_; replace HI0 := n2_; clear n0_ n1_ n2_; (try clear hb); (try clear hb2); (try clear hk); (try clear hi)) | ((with_reducible refine gate_callee (f := 158) rfl ?_); refine goesL_ (some 13) rfl rfl Try.func158 (by kernel_rfl) rfl #[.int .i64 t119] rfl (by (try simp only [List.map_toArray, List.map_cons, List.map_nil]); first | done | rfl) ?_; (with_reducible refine (spec_meSide.calls t119 true _ A4.out).mono ?_); rintro e w' ⟨rfl, ⟨nd, rfl⟩⟩; refine ⟨_, rfl, ?_⟩) | ((with_reducible refine gate_callee (f := 341) rfl ?_); refine goesL_ (some 19) rfl rfl Try.func341 (by kernel_rfl) rfl #[.pointer (some ⟨g, 0, none⟩), .int .i64 t119] rfl (by (try simp only [List.map_toArray, List.map_cons, List.map_nil]); first | done | rfl) ?_; (with_reducible refine (spec_l1Cur_sureLabels.calls k g s0_0 t120 t121 t119 t126 t129 t130 w0 _ ?side1 ?side2 A6.out).mono ?_); (case side1 => exact zI101 HI0); (case side2 => exact zB HB); rintro e w59 ⟨v127, rfl, ho0, hi, hb, hk⟩; refine ⟨_, rfl, ?_⟩; have n0_ := zA0 (Kd.R_lower ho0 (keep_size (w := w) (g := g) (row := none) (zK HK))); have n1_ := zA0 (KeepBut.trans (zK HK) hk (.inl rfl)); have n2_ := zA0 (hb); have n3_ := zA0 (hi); have HO128 := n0_; replace HK := n1_; replace HB := n2_; replace HI0 := n3_; clear n0_ n1_ n2_ n3_; (try clear hb); (try clear hb2); (try clear hk); (try clear hi); (try clear ho0)) | ((with_reducible refine gate_callee (f := 177) rfl ?_); refine goesL_ (some 21) rfl rfl Try.func177 (by kernel_rfl) rfl #[.pointer (some ⟨g, 0, none⟩), .int .i64 10] rfl (by (try simp only [List.map_toArray, List.map_cons, List.map_nil]); first | done | rfl) ?_; (with_reducible refine (spec_l1Cur_pick.calls g s0_0 t129 t130 10 t131 t132 t133 w0 _ ?side1 ?side2 A7.out).mono ?_); (case side1 => exact zI101 HI0); (case side2 => exact zB HB); rintro e w60 ⟨rfl, hi, hb, hk⟩; refine ⟨_, rfl, ?_⟩; have n0_ := zA0 (Kd.R_mono (Kd.R_keep (IsS101.apart (show IsS101 w0 _ g s0_0 t129 t130 from zI101 HI0) (zR HO128) (by decide)) hk (fun _ h => h.2)) (fun _ h => h.1)); have n1_ := zA0 (KeepBut.trans (zK HK) hk (.inl rfl)); have n2_ := zA0 (hb); have n3_ := zA0 (hi); replace HO128 := n0_; replace HK := n1_; replace HB := n2_; replace HI0 := n3_; clear n0_ n1_ n2_ n3_; (try clear hb); (try clear hb2); (try clear hk); (try clear hi)))
      go_ret2
      exact ⟨_, by first | rfl | (simp [errW_none, errW_some] <;> rfl) | (simp [*, errW_none, errW_some] <;> rfl), zR HO128, zI101 HI0, zB HB, zK HK⟩
 ·
  replace c5 := Bool.eq_false_iff.mpr c5
  subst c5
  rw [if_neg (show ¬ (false = true) by decide)] at H
  obtain ⟨y123, hy123⟩ : ∃ y_ : List Int, y_ = (([0, 1, 2] : List Int)) := ⟨_, rfl⟩
  replace H : (some (t119, y123, t120, t121)) = some (r1, r2, r3, r4) := by first | (rw [hy123]; with_reducible exact H) | (have H2_ := (Option.bind_some _ _).symm.trans H; rw [hy123]; with_reducible exact H2_) | (have H2_ := (Option.bind_some _ _).symm.trans H; with_reducible exact H2_) | with_reducible exact H | (rw [hy123]; exact H) | exact H
  have Ny123 := zA0 hy123
  clear hy123
  simp only [Option.some.injEq, Prod.mk.injEq] at H
  obtain ⟨rfl, rfl, rfl, rfl⟩ := H
  go_enter Try.func296, Try.ntmps296
  go_wp2_with (first | ((with_reducible refine gate_callee (f := 151) rfl ?_); refine goesL_ (some 11) rfl rfl Try.func151 (by kernel_rfl) rfl #[.pointer (some ⟨g, 0, none⟩), .int .i64 a1] rfl (by (try simp only [List.map_toArray, List.map_cons, List.map_nil]); first | done | rfl) ?_; (with_reducible refine (spec_l1Cur_side.calls g s0_0 s0_1 s0_2 a1 t119 t120 t121 w0 _ ?side1 ?side2 A3.out).mono ?_); (case side1 => exact zI101 HI0); (case side2 => exact zB HB); rintro e w61 ⟨rfl, hi, hb, hk⟩; refine ⟨_, rfl, ?_⟩; have n0_ := zA0 (KeepBut.trans (zK HK) hk (.inl rfl)); have n1_ := zA0 (hb); have n2_ := zA0 (hi); replace HK := n0_; replace HB := n1_; replace HI0 := n2_; clear n0_ n1_ n2_; (try clear hb); (try clear hb2); (try clear hk); (try clear hi)) | ((with_reducible refine gate_callee (f := 158) rfl ?_); refine goesL_ (some 13) rfl rfl Try.func158 (by kernel_rfl) rfl #[.int .i64 t119] rfl (by (try simp only [List.map_toArray, List.map_cons, List.map_nil]); first | done | rfl) ?_; (with_reducible refine (spec_meSide.calls t119 false _ A4.out).mono ?_); rintro e w' ⟨rfl, ⟨nd, rfl⟩⟩; refine ⟨_, rfl, ?_⟩) | ((with_reducible refine gate_dst (N := 16) rfl ?_); refine Kd.R_lit (Kd.int .i64) _ 3 ?hg (N := 16) ?hd (xs := ([0, 1, 2] : List Int)) (inner := [.int .i64 0, .int .i64 1, .int .i64 2]) (ok := fun _ => True) (okp := fun _ => True) ?hr ?hp (fun _ hk => hk) trivial (Below.refl _ _) (Nat.le_refl _) (by simp) ?_; (case hd => rfl); (case hg => rfl); (case hr => first | (go_simp; done) | (go_simp; rfl)); (case hp => exact (Reps.one (show Kd.M (Kd.int .i64) _ _ _ 0 [.int .i64 0] from rfl) (Reps.one (show Kd.M (Kd.int .i64) _ _ _ 1 [.int .i64 1] from rfl) (Reps.one (show Kd.M (Kd.int .i64) _ _ _ 2 [.int .i64 2] from rfl) (Reps.none _ _))))); intro v124 w62 ho63 hb hg_ hnew_; clear hg_ hnew_; (first | rw [← Ny123.out] at ho63 | (simp only [Int.reduceToNat] at ho63; rw [← Ny123.out] at ho63)); have n0_ := zA0 (Kd.R_lower ho63 (keep_size (w := w) (g := g) (row := none) (zK HK))); have n1_ := zA0 (IsS101.below (zI101 HI0) hb); have n2_ := zA0 (KeepBut.trans (zK HK) (KeepBut.of_below hb g none) (.inl rfl)); have n3_ := zA0 (below_step (zB HB) hb); have HO125 := n0_; replace HI0 := n1_; replace HK := n2_; replace HB := n3_; clear n0_ n1_ n2_ n3_; clear hb ho63))
  go_ret2
  exact ⟨_, by first | rfl | (simp [errW_none, errW_some] <;> rfl) | (simp [*, errW_none, errW_some] <;> rfl), zR HO125, zI101 HI0, zB HB, zK HK⟩
mutual
def spec_l1Cur_anyLabels.j0 : Nat → Int → List Int → Bool → List Int → Int → Int → Option (Int × List Int × Int × Int)
  | 0, _, _, _, _, _, _ => none
  | k + 1, x6, x7, x21, x1000, x1001, x1002 => if x21 = true then ((spec_l1Cur_pick.f x1000 x1001 x1002 8).bind fun bt168 => (spec_l1Cur_anyLabels.l0 k x6 x7 bt168.1 x1000 bt168.2.1 bt168.2.2)) else (some (x6, x7, x1001, x1002))
def spec_l1Cur_anyLabels.l0 : Nat → Int → List Int → Int → List Int → Int → Int → Option (Int × List Int × Int × Int)
  | 0, _, _, _, _, _, _ => none
  | k + 1, x6, x7, x8, x1000, x1001, x1002 => if x8 > 0 then ((spec_l1Cur_pick.f x1000 x1001 x1002 (x7.length : Int)).bind fun bt171 => ((spec_l1Cur_pick.f x1000 bt171.2.1 bt171.2.2 3).bind fun bt174 => (if 0 ≤ bt171.1 then (if bt171.1 < (x7.length : Int) then (spec_l1Cur_anyLabels.l0 k x6 (x7.set (bt171.1 : Int).toNat bt174.1) (wrap64 (x8 - 1)) x1000 bt174.2.1 bt174.2.2) else (none)) else (none)))) else (some (x6, x7, x1001, x1002))
end
def spec_l1Cur_anyLabels.f (k : Nat) (s0_0 : List Int) (s0_1 : Int) (s0_2 : Int) (a1 : Int) : Option (Int × List Int × Int × Int) := (spec_l1Cur_labels.f k s0_0 s0_1 s0_2 a1).bind fun bt158 => ((spec_meLabels.f k bt158.1 bt158.2.1).bind fun t164 => (if t164 = true then ((spec_l1Cur_one.f s0_0 bt158.2.2.1 bt158.2.2.2 2).bind fun bt165 => (spec_l1Cur_anyLabels.j0 k bt158.1 bt158.2.1 bt165.1 s0_0 bt165.2.1 bt165.2.2)) else (spec_l1Cur_anyLabels.j0 k bt158.1 bt158.2.1 false s0_0 bt158.2.2.1 bt158.2.2.2)))
set_option maxHeartbeats 8000000 in
set_option maxRecDepth 100000 in
theorem spec_l1Cur_anyLabels.calls (k : Nat) (g : Nat) (s0_0 : List Int) (s0_1 : Int) (s0_2 : Int) (a1 : Int) (r1 : Int) (r2 : List Int) (r3 : Int) (r4 : Int) (w0 w : World) (hI : IsS101 w0 w g s0_0 s0_1 s0_2) (hB : Below w0.heap.size w0 w) (h : spec_l1Cur_anyLabels.f k s0_0 s0_1 s0_2 a1 = some (r1, r2, r3, r4)) :
  Calls Try.prog 213 #[.pointer (some ⟨g, 0, none⟩), .int .i64 a1] w fun e w' => ∃ v1_ : Value, e = .returned (.tuple #[.int .i64 r1, v1_]) ∧ Kd.R (Kd.int .i64) 3 w' w.heap.size (fun _ => True) v1_ r2 ∧ IsS101 w0 w' g s0_0 r3 r4 ∧ Below w0.heap.size w0 w' ∧ KeepBut w w' g none := by
 have HI0 := zA0 hI
 have HK := zA0 (KeepBut.refl w g none)
 have HL := zA0 hB.size
 clear hI
 have HW0 := zA0 hB.size
 have HB := zA0 hB
 clear hB
 have H : ((spec_l1Cur_labels.f k s0_0 s0_1 s0_2 a1).bind fun bt158 => ((spec_meLabels.f k bt158.1 bt158.2.1).bind fun t164 => (if t164 = true then ((spec_l1Cur_one.f s0_0 bt158.2.2.1 bt158.2.2.2 2).bind fun bt165 => (spec_l1Cur_anyLabels.j0 k bt158.1 bt158.2.1 bt165.1 s0_0 bt165.2.1 bt165.2.2)) else (spec_l1Cur_anyLabels.j0 k bt158.1 bt158.2.1 false s0_0 bt158.2.2.1 bt158.2.2.2)))) = some (r1, r2, r3, r4) := h
 clear h
 replace H := Option.bind_eq_some_iff.mp H
 obtain ⟨⟨t158, t159, t162, t163⟩, A30, H⟩ := H
 (try dsimp only at H)
 have A3 := zA0 A30
 clear A30
 have HC4 := zA0 H
 clear H
 go_enter Try.func213, Try.ntmps213
 go_upto_region 2 with (first | ((with_reducible refine gate_callee (f := 296) rfl ?_); refine goesL_ (some 12) rfl rfl Try.func296 (by kernel_rfl) rfl #[.pointer (some ⟨g, 0, none⟩), .int .i64 a1] rfl (by (try simp only [List.map_toArray, List.map_cons, List.map_nil]); first | done | rfl) ?_; (with_reducible refine (spec_l1Cur_labels.calls k g s0_0 s0_1 s0_2 a1 t158 t159 t162 t163 w0 _ ?side1 ?side2 A3.out).mono ?_); (case side1 => exact zI101 HI0); (case side2 => exact zB HB); rintro e w5 ⟨v160, rfl, ho0, hi, hb, hk⟩; refine ⟨_, rfl, ?_⟩; have n0_ := zA0 (Kd.R_lower ho0 (keep_size (w := w) (g := g) (row := none) (zK HK))); have n1_ := zA0 (KeepBut.trans (zK HK) hk (.inl rfl)); have n2_ := zA0 (hb); have n3_ := zA0 (hi); have HO161 := n0_; replace HK := n1_; replace HB := n2_; replace HI0 := n3_; clear n0_ n1_ n2_ n3_; (try clear hb); (try clear hb2); (try clear hk); (try clear hi); (try clear ho0)))
 (try simp only [Act.put, List.setIfInBounds_toArray, List.set_cons_zero, List.set_cons_succ])
 go_cut [21] (fun v21 wc => ∃ (kq : Nat) (x21_3 : Bool) (x1001_3 : Int) (x1002_3 : Int), v21 = .bool x21_3 ∧ Aside0 (spec_l1Cur_anyLabels.j0 kq t158 t159 x21_3 s0_0 x1001_3 x1002_3 = some (r1, r2, r3, r4)) ∧ Aside0 (kq ≤ k) ∧ Aside0 (Kd.R (Kd.int .i64) 3 wc w.heap.size (fun _ => True) v160 t159) ∧ Aside0 (IsS101 w0 wc g s0_0 x1001_3 x1002_3) ∧ Aside0 (KeepBut w wc g none) ∧ Aside0 (Below w0.heap.size w0 wc))
 case first =>
  have H := HC4.out
  clear HC4
  replace H := Option.bind_eq_some_iff.mp H
  obtain ⟨t164, A60, H⟩ := H
  (try dsimp only at H)
  have A6 := zA0 A60
  clear A60
  by_cases c7 : t164 = true
  ·
   subst c7
   rw [if_pos rfl] at H
   replace H := Option.bind_eq_some_iff.mp H
   obtain ⟨⟨t165, t166, t167⟩, A80, H⟩ := H
   (try dsimp only at H)
   have A8 := zA0 A80
   clear A80
   have H' := zA0 H
   clear H
   obtain ⟨Ao9, co9, eo9⟩ := Kd.R_slice HO161.out
   subst eo9
   go_wp2_with (first | ((with_reducible refine gate_callee (f := 214) rfl ?_); refine goesL_ (some 17) rfl rfl Try.func214 (by kernel_rfl) rfl #[.int .i64 t158, .slice Ao9 t159.length co9] rfl (by (try simp only [List.map_toArray, List.map_cons, List.map_nil]); first | done | rfl) ?_; (with_reducible refine (spec_meLabels.calls k t158 _ _ t159 true _ ?side1 ?side2 A6.out).mono ?_); (case side1 => exact zC (Kd.R_reads' HO161.out).2.2); (case side2 => exact (Kd.R_reads' HO161.out).2.1); rintro e w' ⟨rfl, ⟨nd, rfl⟩⟩; refine ⟨_, rfl, ?_⟩) | (go_at_call 178; (with_reducible refine (spec_l1Cur_one.calls g s0_0 t162 t163 2 t165 t166 t167 w0 _ ?side1 ?side2 A8.out).mono ?_); (case side1 => exact zI101 HI0); (case side2 => exact zB HB); rintro e w10 ⟨rfl, hi, hb, hk⟩; have n0_ := zA0 (Kd.R_mono (Kd.R_keep (IsS101.apart (show IsS101 w0 _ g s0_0 t162 t163 from zI101 HI0) (zR HO161) (by decide)) hk (fun _ h => h.2)) (fun _ h => h.1)); have n1_ := zA0 (KeepBut.trans (zK HK) hk (.inl rfl)); have n2_ := zA0 (hb); have n3_ := zA0 (hi); replace HO161 := n0_; replace HK := n1_; replace HB := n2_; replace HI0 := n3_; clear n0_ n1_ n2_ n3_; (try clear hb); (try clear hb2); (try clear hk); (try clear hi)))
   go_meet
   case rel => exact ⟨_, (t165), (t166), (t167), (by first | rfl | (simp; done) | (simp [*]; done) | (simp; decide) | (simp; unfold wrap64; omega)), H', ⟨by first | omega | exact Nat.le_refl _⟩, ⟨zR HO161⟩, ⟨zI101 HI0⟩, ⟨zK HK⟩, ⟨zB HB⟩⟩
  ·
   replace c7 := Bool.eq_false_iff.mpr c7
   subst c7
   rw [if_neg (show ¬ (false = true) by decide)] at H
   have H' := zA0 H
   clear H
   obtain ⟨Ao11, co11, eo11⟩ := Kd.R_slice HO161.out
   subst eo11
   go_wp2_with (first | ((with_reducible refine gate_callee (f := 214) rfl ?_); refine goesL_ (some 17) rfl rfl Try.func214 (by kernel_rfl) rfl #[.int .i64 t158, .slice Ao11 t159.length co11] rfl (by (try simp only [List.map_toArray, List.map_cons, List.map_nil]); first | done | rfl) ?_; (with_reducible refine (spec_meLabels.calls k t158 _ _ t159 false _ ?side1 ?side2 A6.out).mono ?_); (case side1 => exact zC (Kd.R_reads' HO161.out).2.2); (case side2 => exact (Kd.R_reads' HO161.out).2.1); rintro e w' ⟨rfl, ⟨nd, rfl⟩⟩; refine ⟨_, rfl, ?_⟩))
   go_meet
   case rel => exact ⟨_, (false), (t162), (t163), (by first | rfl | (simp; done) | (simp [*]; done) | (simp; decide) | (simp; unfold wrap64; omega)), H', ⟨by first | omega | exact Nat.le_refl _⟩, ⟨zR HO161⟩, ⟨zI101 HI0⟩, ⟨zK HK⟩, ⟨zB HB⟩⟩
 case rest =>
  clear HC4
  try clear c2
  try clear p2
  try clear p6
  try clear c7
  obtain ⟨kq, x21_3, x1001_3, x1002_3, rfl, HA, HJ3, HO_7, HI0, HK, HB⟩ := hcut
  cases kq with
  | zero => exact absurd HA.out (by simp [spec_l1Cur_anyLabels.j0])
  | succ kj3 =>
   have H := HA.out
   clear HA
   simp only [spec_l1Cur_anyLabels.j0] at H
   by_cases c12 : x21_3 = true
   ·
    subst c12
    rw [if_pos rfl] at H
    replace H := Option.bind_eq_some_iff.mp H
    obtain ⟨⟨t168, t169, t170⟩, A130, H⟩ := H
    (try dsimp only at H)
    have A13 := zA0 A130
    clear A130
    have H' := zA0 H
    clear H
    go_wp2_with (first | ((with_reducible refine gate_callee (f := 177) rfl ?_); refine goesL_ (some 23) rfl rfl Try.func177 (by kernel_rfl) rfl #[.pointer (some ⟨g, 0, none⟩), .int .i64 8] rfl (by (try simp only [List.map_toArray, List.map_cons, List.map_nil]); first | done | rfl) ?_; (with_reducible refine (spec_l1Cur_pick.calls g s0_0 x1001_3 x1002_3 8 t168 t169 t170 w0 _ ?side1 ?side2 A13.out).mono ?_); (case side1 => exact zI101 HI0); (case side2 => exact zB HB); rintro e w14 ⟨rfl, hi, hb, hk⟩; refine ⟨_, rfl, ?_⟩; have n0_ := zA0 (Kd.R_mono (Kd.R_keep (IsS101.apart (show IsS101 w0 _ g s0_0 x1001_3 x1002_3 from zI101 HI0) (zR HO_7) (by decide)) hk (fun _ h => h.2)) (fun _ h => h.1)); have n1_ := zA0 (KeepBut.trans (zK HK) hk (.inl rfl)); have n2_ := zA0 (hb); have n3_ := zA0 (hi); replace HO_7 := n0_; replace HK := n1_; replace HB := n2_; replace HI0 := n3_; clear n0_ n1_ n2_ n3_; (try clear hb); (try clear hb2); (try clear hk); (try clear hi)))
    go_loopg [8] kj3 (fun kq v8 w' => ∃ (x7_2 : List Int) (x8_2 : Int) (x1001_2 : Int) (x1002_2 : Int), v8 = .int .i64 x8_2 ∧ Aside0 (spec_l1Cur_anyLabels.l0 kq t158 x7_2 x8_2 s0_0 x1001_2 x1002_2 = some (r1, r2, r3, r4)) ∧ Aside0 (kq ≤ kj3) ∧ Aside0 (Kd.R (Kd.int .i64) 3 w' w.heap.size (fun _ => True) v160 x7_2) ∧ Aside0 (IsS101 w0 w' g s0_0 x1001_2 x1002_2) ∧ Aside0 (KeepBut w w' g none) ∧ Aside0 (Below w0.heap.size w0 w'))
    case atStart => exact ⟨(t159), (t168), (t169), (t170), (by first | rfl | (simp; done) | (simp [*]; done) | (simp; decide) | (simp; unfold wrap64; omega)), H', ⟨Nat.le_refl _⟩, ⟨zR HO_7⟩, ⟨zI101 HI0⟩, ⟨zK HK⟩, ⟨zB HB⟩⟩
    case round =>
     clear H'
     try clear c1
     try clear c2
     try clear p2
     try clear p6
     try clear c7
     try clear c12
     try clear p2
     try clear p6
     obtain ⟨x7_2, x8_2, x1001_2, x1002_2, rfl, HA, HK2, HO_7, HI0, HK, HB⟩ := hrel
     cases gk with
     | zero => exact absurd HA.out (by simp [spec_l1Cur_anyLabels.l0])
     | succ k2 =>
      have H := HA.out
      clear HA
      simp only [spec_l1Cur_anyLabels.l0] at H
      by_cases c15 : x8_2 > 0
      ·
       rw [if_pos c15] at H
       have c15b0 : decide (0 < x8_2) = true := decide_eq_true c15
       clear c15
       replace H := Option.bind_eq_some_iff.mp H
       obtain ⟨⟨t171, t172, t173⟩, A160, H⟩ := H
       (try dsimp only at H)
       have A16 := zA0 A160
       clear A160
       replace H := Option.bind_eq_some_iff.mp H
       obtain ⟨⟨t174, t175, t176⟩, A170, H⟩ := H
       (try dsimp only at H)
       have A17 := zA0 A170
       clear A170
       by_cases c18 : 0 ≤ t171
       ·
        rw [if_pos c18] at H
        have c18b0 : decide (0 ≤ t171) = true := decide_eq_true c18
        clear c18
        by_cases c19 : t171 < (x7_2.length : Int)
        ·
         rw [if_pos c19] at H
         have c19b0 : decide (t171 < (x7_2.length : Int)) = true := decide_eq_true c19
         clear c19
         obtain ⟨y177, hy177⟩ : ∃ y_ : List Int, y_ = (x7_2.set (t171 : Int).toNat t174) := ⟨_, rfl⟩
         replace H : (spec_l1Cur_anyLabels.l0 k2 t158 y177 (wrap64 (x8_2 - 1)) s0_0 t175 t176) = some (r1, r2, r3, r4) := by first | (rw [hy177]; with_reducible exact H) | (have H2_ := (Option.bind_some _ _).symm.trans H; rw [hy177]; with_reducible exact H2_) | (have H2_ := (Option.bind_some _ _).symm.trans H; with_reducible exact H2_) | with_reducible exact H | (rw [hy177]; exact H) | exact H
         have Ny177 := zA0 hy177
         clear hy177
         have H' := zA0 H
         clear H
         obtain ⟨Ao21, co21, eo21⟩ := Kd.R_slice HO_7.out
         subst eo21
         go_wp2_with (first | ((with_reducible refine gate_callee (f := 177) rfl ?_); refine goesL_ (some 32) rfl rfl Try.func177 (by kernel_rfl) rfl #[.pointer (some ⟨g, 0, none⟩), .int .i64 (x7_2.length : Int)] rfl (by (try simp only [List.map_toArray, List.map_cons, List.map_nil]); first | done | rfl) ?_; (with_reducible refine (spec_l1Cur_pick.calls g s0_0 x1001_2 x1002_2 (x7_2.length : Int) t171 t172 t173 w0 _ ?side1 ?side2 A16.out).mono ?_); (case side1 => exact zI101 HI0); (case side2 => exact zB HB); rintro e w22 ⟨rfl, hi, hb, hk⟩; refine ⟨_, rfl, ?_⟩; have n0_ := zA0 (Kd.R_mono (Kd.R_keep (IsS101.apart (show IsS101 w0 _ g s0_0 x1001_2 x1002_2 from zI101 HI0) (zR HO_7) (by decide)) hk (fun _ h => h.2)) (fun _ h => h.1)); have n1_ := zA0 (KeepBut.trans (zK HK) hk (.inl rfl)); have n2_ := zA0 (hb); have n3_ := zA0 (hi); replace HO_7 := n0_; replace HK := n1_; replace HB := n2_; replace HI0 := n3_; clear n0_ n1_ n2_ n3_; (try clear hb); (try clear hb2); (try clear hk); (try clear hi)) | ((with_reducible refine gate_callee (f := 177) rfl ?_); refine goesL_ (some 34) rfl rfl Try.func177 (by kernel_rfl) rfl #[.pointer (some ⟨g, 0, none⟩), .int .i64 3] rfl (by (try simp only [List.map_toArray, List.map_cons, List.map_nil]); first | done | rfl) ?_; (with_reducible refine (spec_l1Cur_pick.calls g s0_0 t172 t173 3 t174 t175 t176 w0 _ ?side1 ?side2 A17.out).mono ?_); (case side1 => exact zI101 HI0); (case side2 => exact zB HB); rintro e w23 ⟨rfl, hi, hb, hk⟩; refine ⟨_, rfl, ?_⟩; have n0_ := zA0 (Kd.R_mono (Kd.R_keep (IsS101.apart (show IsS101 w0 _ g s0_0 t172 t173 from zI101 HI0) (zR HO_7) (by decide)) hk (fun _ h => h.2)) (fun _ h => h.1)); have n1_ := zA0 (KeepBut.trans (zK HK) hk (.inl rfl)); have n2_ := zA0 (hb); have n3_ := zA0 (hi); replace HO_7 := n0_; replace HK := n1_; replace HB := n2_; replace HI0 := n3_; clear n0_ n1_ n2_ n3_; (try clear hb); (try clear hb2); (try clear hk); (try clear hi); have p20 : 0 ≤ (t171 : Int) := of_decide_eq_true (by first | (with_reducible assumption) | assumption); have q20 : (t171 : Int) < ((x7_2.length : Int) : Int) := of_decide_eq_true (by first | (with_reducible assumption) | assumption); obtain ⟨go20, co20, eo20, gb20, gl20, cl20, HG20⟩ := Kd.R_form HO_7.out (by omega); (first | cases eo20 | (injection eo20 with ea_ en_ ec_; (first | subst ea_ | (injection ea_ with ea_; subst ea_)); subst ec_; clear en_)); have GB20 := zA0 gb20; have GG20 := zA0 HG20; clear gb20 gl20 HG20; obtain ⟨hx20_0, hf20_0⟩ := Kd.R_celln 0 HO_7.out (t171 : Int) p20 q20; replace p20 := eq_true p20; replace q20 := eq_true q20; obtain ⟨hy24_, hz24_⟩ := Kd.R_celln 0 HO_7.out (t171 : Int) (of_decide_eq_true (by first | (with_reducible assumption) | assumption)) (of_decide_eq_true (by first | (with_reducible assumption) | assumption)); have HP24 := Kd.R_putg HO_7.out (t171 : Int) t174) | ((with_reducible refine gate_store (t := 3) (p := 35) rfl ?_); refine store_event (t := 3) (p := 35) (v := ?vo_w25) (w1 := (w23.setCell ⟨go20, (t171 : Int).toNat, none⟩ (.int .i64 t174))) ?hg ?ho ?hn ?hr ?_; (case ho => rfl); (case hg => rfl); (case hn => rfl); (case hr => first | (go_simp; done) | (go_simp; rfl)); intro w25 hw; have hg : w23.grownBy w25 (some go20) := (by rw [hw]; exact HP24.2); have hp_ : Kd.R (Kd.int .i64) 3 w25 w.heap.size (fun _ => True) (.slice (some ⟨go20, 0, none⟩) x7_2.length co21) y177 := (by rw [hw, Ny177.out]; exact HP24.1); clear HP24; have n0_ := zA0 (hp_); have n1_ := zA0 (IsS101.grown (zI101 HI0) hg (IsS101.own_ne HI0.out HO_7.out (by decide))); have n2_ := zA0 ((by rw [hw]; exact below_set (HB.out) (Nat.le_trans HL.out GB20.out) : Below w0.heap.size w0 w25)); have n3_ := zA0 (KeepBut.trans (zK HK) (KeepBut.of_grown hg g) (Kd.R_base2 HO_7.out)); replace HO_7 := n0_; replace HI0 := n1_; replace HB := n2_; replace HK := n3_; clear n0_ n1_ n2_ n3_; clear hg hw hp_))
         go_roundg k2
         case measure => have := HJ3.out; have := HK2.out; omega
         case rel => exact ⟨(y177), (wrap64 (x8_2 - 1)), (t175), (t176), (by first | rfl | (simp; done) | (simp [*]; done) | (simp; decide) | (simp; unfold wrap64; omega)), H', ⟨by have := HJ3.out; have := HK2.out; omega⟩, ⟨zR HO_7⟩, ⟨zI101 HI0⟩, ⟨zK HK⟩, ⟨zB HB⟩⟩
        ·
         rw [if_neg c19] at H
         exact absurd H (by simp)
       ·
        rw [if_neg c18] at H
        exact absurd H (by simp)
      ·
       rw [if_neg c15] at H
       have c15b0 : decide (0 < x8_2) = false := decide_eq_false c15
       clear c15
       simp only [Option.some.injEq, Prod.mk.injEq] at H
       obtain ⟨rfl, rfl, rfl, rfl⟩ := H
       go_wp2
       go_ret2
       exact ⟨_, by first | rfl | (simp [errW_none, errW_some] <;> rfl) | (simp [*, errW_none, errW_some] <;> rfl), zR HO_7, zI101 HI0, zB HB, zK HK⟩
   ·
    replace c12 := Bool.eq_false_iff.mpr c12
    subst c12
    rw [if_neg (show ¬ (false = true) by decide)] at H
    simp only [Option.some.injEq, Prod.mk.injEq] at H
    obtain ⟨rfl, rfl, rfl, rfl⟩ := H
    go_wp2
    go_ret2
    exact ⟨_, by first | rfl | (simp [errW_none, errW_some] <;> rfl) | (simp [*, errW_none, errW_some] <;> rfl), zR HO_7, zI101 HI0, zB HB, zK HK⟩
def spec_doFull.l0 : Nat → List Int → Int → List Int → Int → Int → Option (Bool)
  | 0, _, _, _, _, _ => none
  | k + 1, x0, x5, x8, x9, x10 => if x10 < x9 then (if 0 ≤ x10 then (if x10 < (x8.length : Int) then (if 0 ≤ (rd x8 x10) then (if (rd x8 x10) < (x0.length : Int) then (if 0 ≤ (rd x0 (rd x8 x10)) then (spec_doFull.l0 k x0 (Go.bits .or .i64 x5 (shl .i64 1 (rd x0 (rd x8 x10)))) x8 x9 (wrap64 (x10 + 1))) else (none)) else (none)) else (none)) else (none)) else (none)) else (some (x5 == 7))
def spec_doFull.f (k : Nat) (l0 : List Int) (l1 : List Int) : Option (Bool) := spec_doFull.l0 k l0 0 l1 (l1.length : Int) 0
set_option maxHeartbeats 8000000 in
set_option maxRecDepth 100000 in
theorem spec_doFull.calls (k : Nat) (A0 : Option Addr) (c0 : Nat) (l0 : List Int) (A1 : Option Addr) (c1 : Nat) (l1 : List Int) (r : Bool) (w : World) (hr0 : Kd.C (Kd.int .i64) w A0 l0.length l0) (hc0 : l0.length ≤ c0) (hr1 : Kd.C (Kd.int .i64) w A1 l1.length l1) (hc1 : l1.length ≤ c1) (h : spec_doFull.f k l0 l1 = some r) :
  Calls Try.prog 211 #[.slice A0 l0.length c0, .slice A1 l1.length c1] w fun e w' => e = .returned (.bool r) ∧ Drawn0 w w' := by
 have HR0 := zA0 hr0
 have HC0 := zA0 hc0
 clear hr0 hc0
 have HR1 := zA0 hr1
 have HC1 := zA0 hc1
 clear hr1 hc1
 have H : (spec_doFull.l0 k l0 0 l1 (l1.length : Int) 0) = some r := h
 clear h
 have H' := zA0 H
 clear H
 go_enter Try.func211, Try.ntmps211
 go_wp2
 go_loopg [5, 10] k (fun kq v5 v10 w' => ∃ (x5_1 : Int) (x10_1 : Int), v5 = .int .i64 x5_1 ∧ v10 = .int .i64 x10_1 ∧ Aside0 (spec_doFull.l0 kq l0 x5_1 l1 (l1.length : Int) x10_1 = some r) ∧ Aside0 (kq ≤ k) ∧ Drawn0 w w')
 case atStart => exact ⟨(0), (0), (by first | rfl | (simp; done) | (simp [*]; done) | (simp; decide) | (simp; unfold wrap64; omega)), (by first | rfl | (simp; done) | (simp [*]; done) | (simp; decide) | (simp; unfold wrap64; omega)), H', ⟨Nat.le_refl _⟩, by repeat (first | exact Drawn0.refl _ | apply Drawn0.step)⟩
 case round =>
  clear H'
  try clear c1
  try clear c2
  try clear p2
  obtain ⟨x5_1, x10_1, rfl, rfl, HA, HK1, ⟨m1, rfl⟩⟩ := hrel
  cases gk with
  | zero => exact absurd HA.out (by simp [spec_doFull.l0])
  | succ k1 =>
   have H := HA.out
   clear HA
   simp only [spec_doFull.l0] at H
   by_cases c3 : x10_1 < (l1.length : Int)
   ·
    rw [if_pos c3] at H
    have c3b0 : decide (x10_1 < (l1.length : Int)) = true := decide_eq_true c3
    clear c3
    by_cases c4 : 0 ≤ x10_1
    ·
     rw [if_pos c4] at H
     have c4b0 : decide (0 ≤ x10_1) = true := decide_eq_true c4
     clear c4
     by_cases c5 : x10_1 < (l1.length : Int)
     ·
      rw [if_pos c5] at H
      have c5b0 : decide (x10_1 < (l1.length : Int)) = true := decide_eq_true c5
      clear c5
      by_cases c6 : 0 ≤ (rd l1 x10_1)
      ·
       rw [if_pos c6] at H
       have c6b0 : decide (0 ≤ (rd l1 x10_1)) = true := decide_eq_true c6
       clear c6
       by_cases c7 : (rd l1 x10_1) < (l0.length : Int)
       ·
        rw [if_pos c7] at H
        have c7b0 : decide ((rd l1 x10_1) < (l0.length : Int)) = true := decide_eq_true c7
        clear c7
        by_cases c8 : 0 ≤ (rd l0 (rd l1 x10_1))
        ·
         rw [if_pos c8] at H
         have c8b0 := eq_true c8
         have c8b1 : decide (0 ≤ (rd l0 (rd l1 x10_1))) = true := decide_eq_true c8
         clear c8
         obtain ⟨ji9, hji9⟩ : ∃ j_ : Int, (shl .i64 1 (rd l0 (rd l1 x10_1))) = j_ := ⟨_, rfl⟩
         replace H : (spec_doFull.l0 k1 l0 (Go.bits .or .i64 x5_1 (ji9)) l1 (l1.length : Int) (wrap64 (x10_1 + 1))) = some r := by first | (rw [hji9] at H; exact H) | (simp only [hji9] at H ⊢; exact H)
         have hji9_ : (IntKind.i64.wrap (1 * 2 ^ min (rd l0 (rd l1 x10_1)).toNat 64)) = ji9 := hji9
         have hji9z : (rd l0 (rd l1 x10_1)) ≤ 64 → (IntKind.i64.wrap (1 * 2 ^ (rd l0 (rd l1 x10_1)).toNat)) = ji9 := shl_small hji9
         have hji9u : (IntKind.i64.wrap (2 ^ min (rd l0 (rd l1 x10_1)).toNat 64)) = ji9 := by have h_ := hji9_; rw [Int.one_mul] at h_; exact h_
         have hji9v : (rd l0 (rd l1 x10_1)) ≤ 64 → (IntKind.i64.wrap (2 ^ (rd l0 (rd l1 x10_1)).toNat)) = ji9 := fun hle_ => by have h_ := hji9z hle_; rw [Int.one_mul] at h_; exact h_
         have hji9y : (wrap64 (1 * 2 ^ min (rd l0 (rd l1 x10_1)).toNat 64)) = ji9 := (i64_w _).symm.trans hji9_
         have hji9x : (rd l0 (rd l1 x10_1)) ≤ 64 → (wrap64 (1 * 2 ^ (rd l0 (rd l1 x10_1)).toNat)) = ji9 := fun h_ => (i64_w _).symm.trans (hji9z h_)
         have H' := zA0 H
         clear H
         have p178 : 0 ≤ (x10_1 : Int) := of_decide_eq_true (by first | (with_reducible assumption) | assumption)
         have q178 : x10_1 < (l1.length : Int) := of_decide_eq_true (by first | (with_reducible assumption) | assumption)
         obtain ⟨ad178, e178, hx178_0⟩ := Kd.at_int HR1.out x10_1 p178 q178
         cases e178
         replace p178 := eq_true p178
         replace q178 := eq_true q178
         have p179 : 0 ≤ ((rd l1 x10_1) : Int) := of_decide_eq_true (by first | (with_reducible assumption) | assumption)
         have q179 : (rd l1 x10_1) < (l0.length : Int) := of_decide_eq_true (by first | (with_reducible assumption) | assumption)
         obtain ⟨ad179, e179, hx179_0⟩ := Kd.at_int HR0.out (rd l1 x10_1) p179 q179
         cases e179
         replace p179 := eq_true p179
         replace q179 := eq_true q179
         go_wp2
         go_roundg k1
         case measure => have := HK1.out; omega
         case rel => exact ⟨(Go.bits .or .i64 x5_1 (ji9)), (wrap64 (x10_1 + 1)), (by first | rfl | (simp; done) | (simp only [← hji9] <;> (first | rfl | simp)) | (simp [*]; done)), (by first | rfl | (simp; done) | (simp [*]; done) | (simp; decide) | (simp; unfold wrap64; omega)), H', ⟨by have := HK1.out; omega⟩, by repeat (first | exact Drawn0.refl _ | apply Drawn0.step)⟩
        ·
         rw [if_neg c8] at H
         exact absurd H (by simp)
       ·
        rw [if_neg c7] at H
        exact absurd H (by simp)
      ·
       rw [if_neg c6] at H
       exact absurd H (by simp)
     ·
      rw [if_neg c5] at H
      exact absurd H (by simp)
    ·
     rw [if_neg c4] at H
     exact absurd H (by simp)
   ·
    rw [if_neg c3] at H
    have c3b0 : decide (x10_1 < (l1.length : Int)) = false := decide_eq_false c3
    clear c3
    obtain rfl := Option.some.inj H
    go_wp2
    go_ret
    exact ⟨by first | rfl | (simp; done) | (simp [*]; done) | (simp; decide) | (simp; unfold wrap64; omega), by repeat (first | exact Drawn0.refl _ | apply Drawn0.step)⟩
end Go.Proofs.Ytckiebdehlcjoaa.P
