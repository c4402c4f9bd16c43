/- A part of the proof of the law FnDoorsOfRooms. -/
import Derived.Test.YtckiebdehlcjoaaTFnDoorsOfRooms18
namespace Go.Proofs.Ytckiebdehlcjoaa.P
open Go.Proofs.Ytckiebdehlcjoaa.Own
open Go.RowKit Go.Proofs.YtckiebdehlcjoaaW.PrintWords Go.Proofs.YtckiebdehlcjoaaW.PrintLast Go.Proofs.YtckiebdehlcjoaaW.PrintMore
attribute [local go_sem] max2_int min2_int max_two min_two max_three min_three max_four min_four   -- for this text's walks alone
set_option linter.unusedVariables false
set_option linter.unusedSimpArgs false
set_option maxHeartbeats 8000000 in
set_option maxRecDepth 100000 in
theorem laws_FnDoorsOfRooms.calls (k : Nat) (A0 : Option Addr) (c0 : Nat) (l0 : List Int) (A1 : Option Addr) (c1 : Nat) (l1 : List Int) (r : Bool) (w : World) (hr0 : Kd.C (Kd.int .u8) w A0 l0.length l0) (hc0 : l0.length ≤ c0) (hr1 : Kd.C (Kd.int .u8) w A1 l1.length l1) (hc1 : l1.length ≤ c1) (h : laws_FnDoorsOfRooms.f k l0 l1 = some r) :
  Calls Try.prog 8 #[.slice A0 l0.length c0, .slice A1 l1.length c1] w fun e w' => e = .returned (.bool r) ∧ Below w.heap.size w w' := by
 have HR0 := zA0 hr0
 have HC0 := zA0 hc0
 clear hr0 hc0
 have HR1 := zA0 hr1
 have HC1 := zA0 hc1
 clear hr1 hc1
 have HB := zA0 (Below.refl w.heap.size w)
 have H : ((laws_big.f l0 l1).bind fun t361 => (if t361 = true then (some true) else ((spec_DrawDoorsOfCell.f k l0).bind fun bt362 => ((impl_DoorsOfCell.f k bt362.1 bt362.2.1 bt362.2.2).bind fun bt367 => ((spec_DoorsOfCell.f k bt362.1 bt362.2.1 bt362.2.2).bind fun bt371 => ((impl_IsFull.f k bt362.1 bt362.2.1 bt362.2.2).bind fun bt375 => ((spec_IsFull.f k bt362.1 bt362.2.1 bt362.2.2).bind fun bt377 => (if (bt367.2 != bt371.2) = true then (none) else ((laws_uSameRows.f k bt367.1 bt371.1).bind fun t379 => (if t379 = true then (if (bt375.2 != bt377.2) = true then (none) else (if (bt375.1 != bt377.1) = true then (none) else (laws_FnDoorsOfRooms.j0 k l1 bt362.1 bt362.2.1 bt367.1 bt367.2 bt375.1 (bt375.2 != bt367.2)))) else (none))))))))))) = some r := h
 clear h
 replace H := Option.bind_eq_some_iff.mp H
 obtain ⟨t361, A30, H⟩ := H
 (try dsimp only at H)
 have A3 := zA0 A30
 clear A30
 by_cases c4 : t361 = true
 ·
  subst c4
  rw [if_pos rfl] at H
  obtain rfl := Option.some.inj H
  go_enter Try.func8, Try.ntmps8
  go_wp2_with (first | ((with_reducible refine gate_callee (f := 21) rfl ?_); refine goesL_ (some 44) rfl rfl Try.func21 (by kernel_rfl) rfl #[.slice A0 l0.length c0, .slice A1 l1.length c1] rfl (by (try simp only [List.map_toArray, List.map_cons, List.map_nil]); first | done | rfl) ?_; (with_reducible refine (laws_big.calls _ _ l0 _ _ l1 true _ ?side1 ?side2 ?side3 ?side4 A3.out).mono ?_); (case side1 => exact zC HR0.out); (case side2 => exact HC0.out); (case side3 => exact zC HR1.out); (case side4 => exact HC1.out); rintro e w' ⟨rfl, ⟨nd, rfl⟩⟩; refine ⟨_, rfl, ?_⟩))
  go_ret
  exact ⟨by first | rfl | (simp [errW_none, errW_some] <;> rfl) | (simp [*, errW_none, errW_some] <;> rfl), zB HB⟩
 ·
  replace c4 := Bool.eq_false_iff.mpr c4
  subst c4
  rw [if_neg (show ¬ (false = true) by decide)] at H
  replace H := Option.bind_eq_some_iff.mp H
  obtain ⟨⟨t362, t363, t364⟩, A50, H⟩ := H
  (try dsimp only at H)
  have A5 := zA0 A50
  clear A50
  replace H := Option.bind_eq_some_iff.mp H
  obtain ⟨⟨t367, t370⟩, A60, H⟩ := H
  (try dsimp only at H)
  have A6 := zA0 A60
  clear A60
  replace H := Option.bind_eq_some_iff.mp H
  obtain ⟨⟨t371, t372⟩, A70, H⟩ := H
  (try dsimp only at H)
  have A7 := zA0 A70
  clear A70
  replace H := Option.bind_eq_some_iff.mp H
  obtain ⟨⟨t375, t376⟩, A80, H⟩ := H
  (try dsimp only at H)
  have A8 := zA0 A80
  clear A80
  replace H := Option.bind_eq_some_iff.mp H
  obtain ⟨⟨t377, t378⟩, A90, H⟩ := H
  (try dsimp only at H)
  have A9 := zA0 A90
  clear A90
  have HC10 := zA0 H
  clear H
  go_enter Try.func8, Try.ntmps8
  go_upto_region 8 with (first | ((with_reducible refine gate_callee (f := 21) rfl ?_); refine goesL_ (some 44) rfl rfl Try.func21 (by kernel_rfl) rfl #[.slice A0 l0.length c0, .slice A1 l1.length c1] rfl (by (try simp only [List.map_toArray, List.map_cons, List.map_nil]); first | done | rfl) ?_; (with_reducible refine (laws_big.calls _ _ l0 _ _ l1 false _ ?side1 ?side2 ?side3 ?side4 A3.out).mono ?_); (case side1 => exact zC HR0.out); (case side2 => exact HC0.out); (case side3 => exact zC HR1.out); (case side4 => exact HC1.out); rintro e w' ⟨rfl, ⟨nd, rfl⟩⟩; refine ⟨_, rfl, ?_⟩) | ((with_reducible refine gate_callee (f := 77) rfl ?_); refine goesL_ (some 47) rfl rfl Try.func77 (by kernel_rfl) rfl #[.slice A0 l0.length c0] rfl (by (try simp only [List.map_toArray, List.map_cons, List.map_nil]); first | done | rfl) ?_; (with_reducible refine (spec_DrawDoorsOfCell.calls k _ _ l0 t362 t363 t364 _ ?side1 ?side2 A5.out).mono ?_); (case side1 => exact zC HR0.out); (case side2 => exact HC0.out); rintro e w11 ⟨v365, rfl, ho0, hb⟩; refine ⟨_, rfl, ?_⟩; have n0_ := zA0 (Kd.R_lower ho0 (below_size (zB HB))); have n1_ := zA0 (below_step (zB HB) hb); have HO366 := n0_; replace HB := n1_; clear n0_ n1_; (try clear hb); (try clear hb2); (try clear hk); (try clear hi); (try clear ho0); (try clear ho0S); obtain ⟨Ao12, co12, eo12⟩ := Kd.R_slice HO366.out; subst eo12) | ((with_reducible refine gate_callee (f := 78) rfl ?_); refine goesL_ (some 55) rfl rfl Try.func78 (by kernel_rfl) rfl #[.int .i64 t362, .slice Ao12 t363.length co12, .int .i64 t364] rfl (by (try simp only [List.map_toArray, List.map_cons, List.map_nil]); first | done | rfl) ?_; (with_reducible refine (impl_DoorsOfCell.calls k t362 (fun k_ => some k_ = (.slice Ao12 t363.length co12 : Value).ownBlock) _ _ t363 t364 t367 t370 _ ?side1 A6.out).mono ?_); (case side1 => exact Kd.R_V (Kd.R_tight rfl (HO366.out))); rintro e w13 ⟨v368, rfl, ho0, hb⟩; refine ⟨_, rfl, ?_⟩; (try (have ho0S := ho0; replace ho0 := Kd.S_N ho0S)); (try (have ho0S := ho0; replace ho0 := Kd.S_N ho0S)); have n0_ := zA0 (Kd.R_below (zR HO366) hb); have n1_ := zA0 (Kd.N_lower (Kd.N_mono (ok' := fun k_ => True) ho0 (fun k_ hk_ => trivial)) (below_size (zB HB))); have n2_ := zA0 (below_step (zB HB) hb); replace HO366 := n0_; have HO369 := n1_; replace HB := n2_; clear n0_ n1_ n2_; (try clear hb); (try clear hb2); (try clear hk); (try clear hi); (try clear ho0); (try clear ho0S)) | ((with_reducible refine gate_callee (f := 79) rfl ?_); refine goesL_ (some 62) rfl rfl Try.func79 (by kernel_rfl) rfl #[.int .i64 t362, .slice Ao12 t363.length co12, .int .i64 t364] rfl (by (try simp only [List.map_toArray, List.map_cons, List.map_nil]); first | done | rfl) ?_; (with_reducible refine (spec_DoorsOfCell.calls k t362 _ _ t363 t364 t371 t372 _ ?side1 ?side2 A7.out).mono ?_); (case side1 => exact zC (Kd.R_reads' HO366.out).2.2); (case side2 => exact (Kd.R_reads' HO366.out).2.1); rintro e w14 ⟨v373, rfl, ho0, hb⟩; refine ⟨_, rfl, ?_⟩; (try (have ho0S := ho0; replace ho0 := Kd.S_N ho0S)); (try (have ho0S := ho0; replace ho0 := Kd.S_N ho0S)); have n0_ := zA0 (Kd.R_below (zR HO366) hb); have n1_ := zA0 (Kd.N_elder' (zN HO369) (Kd.N_base ho0) hb); have n2_ := zA0 (Kd.N_lower (Kd.N_mono (ok' := fun k_ => some k_ ≠ (.slice Ao12 t363.length co12 : Value).ownBlock ∧ some k_ ≠ (v368 : Value).ownBlock) (Kd.S_N (Kd.S_bound ho0S)) (fun k_ hk_ => ⟨(Kd.fresh' (Kd.R_lt (zR HO366)) k_ hk_.2.1), (Kd.fresh' (Kd.N_lt (zN HO369)) k_ hk_.2.1)⟩)) (below_size (zB HB))); have n3_ := zA0 (below_step (zB HB) hb); replace HO366 := n0_; replace HO369 := n1_; have HO374 := n2_; replace HB := n3_; clear n0_ n1_ n2_ n3_; (try clear hb); (try clear hb2); (try clear hk); (try clear hi); (try clear ho0); (try clear ho0S)) | ((with_reducible refine gate_callee (f := 80) rfl ?_); refine goesL_ (some 69) rfl rfl Try.func80 (by kernel_rfl) rfl #[.int .i64 t362, .slice Ao12 t363.length co12, .int .i64 t364] rfl (by (try simp only [List.map_toArray, List.map_cons, List.map_nil]); first | done | rfl) ?_; (with_reducible refine (impl_IsFull.calls k t362 _ _ t363 t364 t375 t376 _ ?side1 ?side2 A8.out).mono ?_); (case side1 => exact zC (Kd.R_reads' HO366.out).2.2); (case side2 => exact (Kd.R_reads' HO366.out).2.1); rintro e w15 ⟨rfl, hb⟩; refine ⟨_, rfl, ?_⟩; have n0_ := zA0 (Kd.R_below (zR HO366) hb); have n1_ := zA0 (Kd.N_below (zN HO369) hb); have n2_ := zA0 (Kd.N_below (zN HO374) hb); have n3_ := zA0 (below_step (zB HB) hb); replace HO366 := n0_; replace HO369 := n1_; replace HO374 := n2_; replace HB := n3_; clear n0_ n1_ n2_ n3_; (try clear hb); (try clear hb2); (try clear hk); (try clear hi)) | ((with_reducible refine gate_callee (f := 81) rfl ?_); refine goesL_ (some 76) rfl rfl Try.func81 (by kernel_rfl) rfl #[.int .i64 t362, .slice Ao12 t363.length co12, .int .i64 t364] rfl (by (try simp only [List.map_toArray, List.map_cons, List.map_nil]); first | done | rfl) ?_; (with_reducible refine (spec_IsFull.calls k t362 _ _ t363 t364 t377 t378 _ ?side1 ?side2 A9.out).mono ?_); (case side1 => exact zC (Kd.R_reads' HO366.out).2.2); (case side2 => exact (Kd.R_reads' HO366.out).2.1); rintro e w16 ⟨rfl, hb⟩; refine ⟨_, rfl, ?_⟩; have n0_ := zA0 (Kd.R_below (zR HO366) hb); have n1_ := zA0 (Kd.N_below (zN HO369) hb); have n2_ := zA0 (Kd.N_below (zN HO374) hb); have n3_ := zA0 (below_step (zB HB) hb); replace HO366 := n0_; replace HO369 := n1_; replace HO374 := n2_; replace HB := n3_; clear n0_ n1_ n2_ n3_; (try clear hb); (try clear hb2); (try clear hk); (try clear hi)))
  (try simp only [Act.put, List.setIfInBounds_toArray, List.set_cons_zero, List.set_cons_succ])
  refine wp_cutm false 41 [71, 2, 135] (fun u_ => (fun v102 wc => ∃ (kq : Nat) (x102_9 : Bool), v102 = .bool x102_9 ∧ Aside0 (laws_FnDoorsOfRooms.j0 kq l1 t362 t363 t367 t370 t375 x102_9 = some r) ∧ Aside0 (kq ≤ k) ∧ Aside0 (Kd.R (Kd.int .i64) 3 wc w.heap.size (fun _ => True) (.slice Ao12 t363.length co12) t363) ∧ Aside0 (Kd.N (Kd.slice 3 (Kd.int .i64)) 22 wc w.heap.size (fun _ => True) v368 t367) ∧ Aside0 (Below w.heap.size w wc)) (u_ 102)) ?rest4u1 ?first4u1
  case first4u1 => as_aux_lemma =>
   intro _ _ _ _
   have H := HC10.out
   clear HC10
   by_cases c17 : (t370 != t372) = true
   ·
    rw [if_pos c17] at H
    exact absurd H (by simp)
   ·
    rw [if_neg c17] at H
    have c17b0 : (t370 != t372) = false := by simpa using c17
    (try (have c17b1 : decide (t370 = t372) = true := by simpa using c17))
    (try (have c17b2 : (t370 == t372) = true := by simpa using c17))
    clear c17
    (first | rw [c17b0] | (simp only [i64_w, i32_w]; rw [c17b0]) | skip)
    replace H := Option.bind_eq_some_iff.mp H
    obtain ⟨t379, A180, H⟩ := H
    (try dsimp only at H)
    have A18 := zA0 A180
    clear A180
    by_cases c19 : t379 = true
    ·
     subst c19
     rw [if_pos rfl] at H
     by_cases c20 : (t376 != t378) = true
     ·
      rw [if_pos c20] at H
      exact absurd H (by simp)
     ·
      rw [if_neg c20] at H
      have c20b0 : (t376 != t378) = false := by simpa using c20
      (try (have c20b1 : decide (t376 = t378) = true := by simpa using c20))
      (try (have c20b2 : (t376 == t378) = true := by simpa using c20))
      clear c20
      by_cases c21 : (t375 != t377) = true
      ·
       rw [if_pos c21] at H
       exact absurd H (by simp)
      ·
       rw [if_neg c21] at H
       have c21b0 : (t375 != t377) = false := by simpa using c21
       (try (have c21b1 : decide (t375 = t377) = true := by simpa using c21))
       (try (have c21b2 : (t375 == t377) = true := by simpa using c21))
       clear c21
       have H' := zA0 H
       clear H
       obtain ⟨Ao22, co22, eo22⟩ := Kd.N_slice HO369.out
       subst eo22
       obtain ⟨Ao23, co23, eo23⟩ := Kd.N_slice HO374.out
       subst eo23
       go_wp2_with (first | (go_at_call 70; (with_reducible refine (laws_uSameRows.calls k _ _ t367 _ _ t371 true _ ?side1 ?side2 ?side3 ?side4 A18.out).mono ?_); (case side1 => exact zC (Kd.N_reads' HO369.out).2.2); (case side2 => exact (Kd.N_reads' HO369.out).2.1); (case side3 => exact zC (Kd.N_reads' HO374.out).2.2); (case side4 => exact (Kd.N_reads' HO374.out).2.1); rintro e w' ⟨rfl, ⟨nd, rfl⟩⟩))
       refine Met.m (by assumption) (by kernel_rfl) ?rel
       case rel => exact ⟨_, ((t376 != t370)), (by first | rfl | (simp; done) | (simp [*]; done) | (simp; decide) | (simp; unfold wrap64; omega)), H', ⟨by first | omega | exact Nat.le_refl _⟩, ⟨zR HO366⟩, ⟨by (with_reducible repeat (first | apply znA | apply znN | apply znD)); exact Kd.N_mono HO369.out (fun _ hk => trivial)⟩, ⟨zB HB⟩⟩
    ·
     replace c19 := Bool.eq_false_iff.mpr c19
     subst c19
     rw [if_neg (show ¬ (false = true) by decide)] at H
     exact absurd H (by simp)
  case rest4u1 => as_aux_lemma =>
   intro u_ wc hcut
   dsimp only [zipR, Nat.reduceAdd]
   generalize u_ 102 = u102 at hcut ⊢
   clear HC10
   try clear c1
   try clear c2
   try clear p2
   try clear c4
   try clear p6
   try clear c7
   try clear c8
   try clear c17
   try clear c17b0
   try clear c17b1
   try clear c17b2
   try clear c19
   try clear c20
   try clear c20b0
   try clear c20b1
   try clear c20b2
   try clear c21
   try clear c21b0
   try clear c21b1
   try clear c21b2
   obtain ⟨kq, x102_9, rfl, HA, HJ9, HO_6, HO_8, HB⟩ := hcut
   cases kq with
   | zero => exact absurd HA.out (by simp [laws_FnDoorsOfRooms.j0])
   | succ kj9 =>
    have H := HA.out
    clear HA
    simp only [laws_FnDoorsOfRooms.j0] at H
    by_cases c24 : x102_9 = true
    ·
     subst c24
     rw [if_pos rfl] at H
     exact absurd H (by simp)
    ·
     replace c24 := Bool.eq_false_iff.mpr c24
     subst c24
     rw [if_neg (show ¬ (false = true) by decide)] at H
     have HC25 := zA0 H
     clear H
     go_upto_if 103 with (fail)
     refine wp_cutm false 3 [0, 11, 2, 21, 210] (fun u_ => (fun wc => ∃ (kq : Nat), Aside0 (laws_FnDoorsOfRooms.j3 kq l1 = some r) ∧ Aside0 (kq ≤ kj9) ∧ Aside0 (Below w.heap.size w wc))) ?rest4u2 ?first4u2
     case first4u2 => as_aux_lemma =>
      intro _ _ _ _
      have H := HC25.out
      clear HC25
      by_cases c26 : t370 = true
      ·
       subst c26
       rw [if_pos rfl] at H
       have HC27 := zA0 H
       clear H
       go_upto_region 11 with (fail)
       refine wp_cutm false 41 [71, 2, 135] (fun u_ => (fun v113 wc => ∃ (kq : Nat) (x113_26 : Bool), v113 = .bool x113_26 ∧ Aside0 (laws_FnDoorsOfRooms.j1 kq l1 t362 t363 t367 x113_26 = some r) ∧ Aside0 (kq ≤ kj9) ∧ Aside0 (Kd.R (Kd.int .i64) 3 wc w.heap.size (fun _ => True) (.slice Ao12 t363.length co12) t363) ∧ Aside0 (Kd.N (Kd.slice 3 (Kd.int .i64)) 22 wc w.heap.size (fun _ => True) v368 t367) ∧ Aside0 (Below w.heap.size w wc)) (u_ 113)) ?rest4u3 ?first4u3
       case first4u3 => as_aux_lemma =>
        intro _ _ _ _
        have H := HC27.out
        clear HC27
        by_cases c28 : (t375 != ((t367.length : Int) == 1)) = true
        ·
         rw [if_pos c28] at H
         exact absurd H (by simp)
        ·
         rw [if_neg c28] at H
         have c28b0 : (t375 != ((t367.length : Int) == 1)) = false := by simpa using c28
         (try (have c28b1 : decide (t375 = ((t367.length : Int) == 1)) = true := by simpa using c28))
         (try (have c28b2 : (t375 == ((t367.length : Int) == 1)) = true := by simpa using c28))
         clear c28
         (first | rw [c28b0] | (simp only [i64_w, i32_w]; rw [c28b0]) | skip)
         have H' := zA0 H
         clear H
         obtain ⟨Ao29, co29, eo29⟩ := Kd.N_slice HO_8.out
         subst eo29
         go_wp2
         refine Met.m (by assumption) (by kernel_rfl) ?rel
         case rel => exact ⟨_, (decide ((t367.length : Int) > 2)), (by first | rfl | (simp; done) | (simp [*]; done) | (simp; decide) | (simp; unfold wrap64; omega)), H', ⟨by have := HJ9.out; first | omega | exact Nat.le_refl _⟩, ⟨zR HO_6⟩, ⟨zN HO_8⟩, ⟨zB HB⟩⟩
       case rest4u3 => as_aux_lemma =>
        intro u_ wc hcut
        dsimp only [zipR, Nat.reduceAdd]
        generalize u_ 113 = u113 at hcut ⊢
        clear HC27
        try clear c1
        try clear c2
        try clear p2
        try clear c4
        try clear p6
        try clear c7
        try clear c8
        try clear c17
        try clear c17b0
        try clear c17b1
        try clear c17b2
        try clear c19
        try clear c20
        try clear c20b0
        try clear c20b1
        try clear c20b2
        try clear c21
        try clear c21b0
        try clear c21b1
        try clear c21b2
        try clear c24
        try clear c26
        try clear c28
        try clear c28b0
        try clear c28b1
        try clear c28b2
        try clear p2
        try clear p6
        obtain ⟨kq, x113_26, rfl, HA, HJ26, HO_6, HO_8, HB⟩ := hcut
        cases kq with
        | zero => exact absurd HA.out (by simp [laws_FnDoorsOfRooms.j1])
        | succ kj26 =>
         have H := HA.out
         clear HA
         simp only [laws_FnDoorsOfRooms.j1] at H
         by_cases c30 : x113_26 = true
         ·
          subst c30
          rw [if_pos rfl] at H
          exact absurd H (by simp)
         ·
          replace c30 := Bool.eq_false_iff.mpr c30
          subst c30
          rw [if_neg (show ¬ (false = true) by decide)] at H
          have H' := zA0 H
          clear H
          obtain ⟨Ao31, co31, eo31⟩ := Kd.N_slice HO_8.out
          subst eo31
          go_wp2
          go_loopg [116] kj26 (fun kq v116 w' => ∃ (x116_3 : Int), v116 = .int .i64 x116_3 ∧ Aside0 (laws_FnDoorsOfRooms.l0 kq l1 t362 t363 t367 (t367.length : Int) x116_3 = some r) ∧ Aside0 (kq ≤ kj26) ∧ Aside0 (Kd.R (Kd.int .i64) 3 w' w.heap.size (fun _ => True) (.slice Ao12 t363.length co12) t363) ∧ Aside0 (Kd.N (Kd.slice 3 (Kd.int .i64)) 22 w' w.heap.size (fun _ => True) (.slice Ao31 t367.length co31) t367) ∧ Aside0 (Below w.heap.size w w'))
          case atStart => exact ⟨(0), (by first | rfl | (simp; done) | (simp [*]; done) | (simp; decide) | (simp; unfold wrap64; omega)), H', ⟨Nat.le_refl _⟩, ⟨zR HO_6⟩, ⟨zN HO_8⟩, ⟨zB HB⟩⟩
          case round => as_aux_lemma =>
           clear H'
           try clear c1
           try clear c2
           try clear p2
           try clear c3
           try clear c4
           try clear p6
           try clear c7
           try clear c8
           try clear c17
           try clear c17b0
           try clear c17b1
           try clear c17b2
           try clear c19
           try clear c20
           try clear c20b0
           try clear c20b1
           try clear c20b2
           try clear c21
           try clear c21b0
           try clear c21b1
           try clear c21b2
           try clear c24
           try clear c26
           try clear c28
           try clear c28b0
           try clear c28b1
           try clear c28b2
           try clear c30
           try clear p2
           try clear p6
           obtain ⟨x116_3, rfl, HA, HK3, HO_6, HO_114, HB⟩ := hrel
           cases gk with
           | zero => exact absurd HA.out (by simp [laws_FnDoorsOfRooms.l0])
           | succ k3 =>
            have H := HA.out
            clear HA
            simp only [laws_FnDoorsOfRooms.l0] at H
            by_cases c32 : x116_3 < (t367.length : Int)
            ·
             rw [if_pos c32] at H
             have c32b0 : decide (x116_3 < (t367.length : Int)) = true := decide_eq_true c32
             clear c32
             by_cases c33 : 0 ≤ x116_3
             ·
              rw [if_pos c33] at H
              have c33b0 : decide (0 ≤ x116_3) = true := decide_eq_true c33
              clear c33
              by_cases c34 : x116_3 < (t367.length : Int)
              ·
               rw [if_pos c34] at H
               have c34b0 : decide (x116_3 < (t367.length : Int)) = true := decide_eq_true c34
               clear c34
               by_cases c35 : 0 < ((rd_L2 t367 x116_3).length : Int)
               ·
                rw [if_pos c35] at H
                have c35b0 : decide (0 < ((rd_L2 t367 x116_3).length : Int)) = true := decide_eq_true c35
                have c35b1 : decide (0 < (rd_L2 t367 x116_3).length) = true := decide_eq_true (by omega)
                clear c35
                by_cases c36 : 1 < ((rd_L2 t367 x116_3).length : Int)
                ·
                 rw [if_pos c36] at H
                 have c36b0 : decide (1 < ((rd_L2 t367 x116_3).length : Int)) = true := decide_eq_true c36
                 have c36b1 : decide (1 < (rd_L2 t367 x116_3).length) = true := decide_eq_true (by omega)
                 clear c36
                 replace H := Option.bind_eq_some_iff.mp H
                 obtain ⟨⟨t383, t384⟩, A370, H⟩ := H
                 (try dsimp only at H)
                 have A37 := zA0 A370
                 clear A370
                 by_cases c38 : t384 = true
                 ·
                  subst c38
                  rw [if_pos rfl] at H
                  by_cases c39 : t383 = true
                  ·
                   subst c39
                   rw [if_pos rfl] at H
                   have H' := zA0 H
                   clear H
                   have p380 : 0 ≤ (x116_3 : Int) := of_decide_eq_true (by first | (with_reducible assumption) | assumption)
                   have q380 : x116_3 < (t367.length : Int) := of_decide_eq_true (by first | (with_reducible assumption) | assumption)
                   obtain ⟨ad380, A380_0, c380_0, e380, hx380_0, hl380_0, hi380_0⟩ := at_L2 (Kd.N_reads' HO_114.out).2.2 x116_3 p380 q380
                   cases e380
                   obtain ⟨ce380, hce380, hMe380, hcc380⟩ := Kd.N_get HO_114.out [] x116_3 p380 (by first | exact q380 | exact of_decide_eq_true (by first | (with_reducible assumption) | assumption) | (have e_ := (Kd.N_reads' HO_114.out).1; omega))
                   obtain ⟨ua380_0, uc380_0, rfl, ul380_0, ge380_0⟩ := Kd.FK_slice_open hMe380
                   have hv380_0 := hcc380 0 _ rfl
                   rw [Nat.add_zero, show ((Kd.slice 3 (Kd.int .i64))).sz = 1 from rfl, Nat.mul_one] at hv380_0
                   replace hv380_0 := Option.some.inj (hv380_0.symm.trans hx380_0)
                   injection hv380_0 with hva_ hvn_ hvc_
                   rw [hva_] at ge380_0
                   rw [hvc_] at ul380_0
                   have HL380_0 := zA0 (show Kd.V (Kd.int .i64) 3 _ w.heap.size _ _ (rd_L2 t367 x116_3) from Kd.V_mk ul380_0 ge380_0)
                   clear hva_ hvn_ hvc_ ge380_0 ul380_0
                   clear hcc380 hce380
                   have HR380_0 := zA0 hi380_0
                   have HC380_0 := zA0 hl380_0
                   clear hi380_0 hl380_0
                   replace p380 := eq_true p380
                   replace q380 := eq_true q380
                   try go_wp2
                   have n0_ := zA0 (zrD HO_6.out)
                   have n1_ := zA0 (znD HO_114.out)
                   have n2_ := zA0 (Kd.V_drew HL380_0.out)
                   have n3_ := zA0 (zcD HR380_0.out)
                   have n4_ := zA0 (zpD HB.out)
                   replace HO_6 := n0_; replace HO_114 := n1_; replace HL380_0 := n2_; replace HR380_0 := n3_; replace HB := n4_; clear n0_ n1_ n2_ n3_ n4_
                   have p381 : 0 ≤ (0 : Int) := (by omega)
                   have q381 : 0 < ((rd_L2 t367 x116_3).length : Int) := of_decide_eq_true (by first | (with_reducible assumption) | assumption)
                   obtain ⟨ad381, e381, hx381_0⟩ := Kd.at_int (by repeat (first | (with_reducible exact HR380_0.out) | (with_reducible refine Kd.C_alloc ?_ _) | (with_reducible refine zcN ?_ _) | (with_reducible refine zcD ?_) | exact HR380_0.out)) 0 p381 q381
                   cases e381
                   have qi381 : (0 < (rd_L2 t367 x116_3).length) = True := eq_true (by omega)
                   (try rw [show ((0 : Int)).toNat = 0 from rfl] at hx381_0)
                   (try rw [Addr.add_zero'] at hx381_0)
                   replace p381 := eq_true p381
                   replace q381 := eq_true q381
                   have p382 : 0 ≤ (1 : Int) := (by omega)
                   have q382 : 1 < ((rd_L2 t367 x116_3).length : Int) := of_decide_eq_true (by first | (with_reducible assumption) | assumption)
                   obtain ⟨ad382, e382, hx382_0⟩ := Kd.at_int (by repeat (first | (with_reducible exact HR380_0.out) | (with_reducible refine Kd.C_alloc ?_ _) | (with_reducible refine zcN ?_ _) | (with_reducible refine zcD ?_) | exact HR380_0.out)) 1 p382 q382
                   obtain rfl : ad381 = ad382 := (by injection e382)
                   (try simp only [show (1 : Int).toNat = 1 from rfl, Nat.reduceMul, Nat.reduceEqDiff, Go.Addr.add, ↓reduceIte] at hx382_0)
                   have qi382 : (1 < (rd_L2 t367 x116_3).length) = True := eq_true (by omega)
                   (try rw [show ((1 : Int)).toNat = 1 from rfl] at hx382_0)
                   replace p382 := eq_true p382
                   replace q382 := eq_true q382
                   refine start_ (n := 14) (S := fun w' => w'.cell? ad381 = some (.int .i64 (rd (rd_L2 t367 x116_3) 0)) ∧ w'.cell? ⟨ad381.block, ad381.off + 1, none⟩ = some (.int .i64 (rd (rd_L2 t367 x116_3) 1))) (ds := []) #[false, false, false, false, false, false, false, false, false, false, false, false, false, false] (by kernel_rfl) rfl rfl ⟨hx381_0, hx382_0⟩ (fun hHeld => ?_); refine with_tabW laws_FnDoorsOfRooms.tab16 laws_FnDoorsOfRooms.bits16 (fun HT_ HW_ => ?_)
                   generalize wr.drew = w40 at HO_6 HO_114 HL380_0 HR380_0 HB hx381_0 hx382_0 hHeld ⊢
                   refine pure_ (i := 0) (N := some 121) (v := ?_) (a' := ?_) #[true, false, false, false, false, false, false, false, false, false, false, false, false, false] rfl rfl (any_of HT_.out (by kernel_rfl)) (fun _ _ _ h => h) (Or.inl ⟨by rfl, ?_⟩) ?_ ?_
                   rotate_left
                   ·
                    intro w'
                    go_simp
                    with_reducible rfl
                   rotate_left
                   ·
                    simp only [Act.put, List.setIfInBounds_toArray, List.set_cons_zero, List.set_cons_succ, i64_w, i32_w]
                    rfl
                   refine pure_ (i := 1) (N := some 122) (v := ?_) (a' := ?_) #[true, true, false, false, false, false, false, false, false, false, false, false, false, false] rfl rfl (any_of HT_.out (by kernel_rfl)) (fun _ _ _ h => h) (Or.inl ⟨by rfl, ?_⟩) ?_ ?_
                   rotate_left
                   ·
                    intro w'
                    go_simp
                    with_reducible rfl
                   rotate_left
                   ·
                    simp only [Act.put, List.setIfInBounds_toArray, List.set_cons_zero, List.set_cons_succ, i64_w, i32_w]
                    rfl
                   refine pure_ (i := 2) (N := some 123) (v := ?_) (a' := ?_) #[true, true, true, false, false, false, false, false, false, false, false, false, false, false] rfl rfl (any_of HT_.out (by kernel_rfl)) (fun _ _ _ h => h) (Or.inl ⟨by rfl, ?_⟩) ?_ ?_
                   rotate_left
                   ·
                    intro w'
                    go_simp
                    with_reducible rfl
                   rotate_left
                   ·
                    simp only [Act.put, List.setIfInBounds_toArray, List.set_cons_zero, List.set_cons_succ, i64_w, i32_w]
                    rfl
                   refine pure_ (i := 3) (N := some 124) (v := ?_) (a' := ?_) #[true, true, true, true, false, false, false, false, false, false, false, false, false, false] rfl rfl (any_of HT_.out (by kernel_rfl)) (fun _ _ _ h => h) (Or.inl ⟨by rfl, ?_⟩) ?_ ?_
                   rotate_left
                   ·
                    intro w'
                    go_simp
                    with_reducible rfl
                   rotate_left
                   ·
                    simp only [Act.put, List.setIfInBounds_toArray, List.set_cons_zero, List.set_cons_succ, i64_w, i32_w]
                    rfl
                   refine pure_ (i := 5) (N := some 126) (v := ?_) (a' := ?_) #[true, true, true, true, false, true, false, false, false, false, false, false, false, false] rfl rfl (any_of HT_.out (by kernel_rfl)) (fun _ _ _ h => h) (Or.inl ⟨by rfl, ?_⟩) ?_ ?_
                   rotate_left
                   ·
                    intro w'
                    go_simp
                    with_reducible rfl
                   rotate_left
                   ·
                    simp only [Act.put, List.setIfInBounds_toArray, List.set_cons_zero, List.set_cons_succ, i64_w, i32_w]
                    rfl
                   refine pure_ (i := 6) (N := some 127) (v := ?_) (a' := ?_) #[true, true, true, true, false, true, true, false, false, false, false, false, false, false] rfl rfl (any_of HT_.out (by kernel_rfl)) (fun _ _ _ h => h) (Or.inl ⟨by rfl, ?_⟩) ?_ ?_
                   rotate_left
                   ·
                    intro w'
                    go_simp
                    with_reducible rfl
                   rotate_left
                   ·
                    simp only [Act.put, List.setIfInBounds_toArray, List.set_cons_zero, List.set_cons_succ, i64_w, i32_w]
                    rfl
                   refine take_ (i := 4) (N := some 125) (v := ?_) (a' := ?_) #[true, true, true, true, true, true, true, false, false, false, false, false, false, false] rfl rfl (take_ofW HT_.out HW_.out (by kernel_rfl)) (fun _ _ _ h => h) (Or.inl ⟨by rfl, ?_⟩) hHeld ?_ ?_
                   rotate_left
                   ·
                    rintro w' ⟨s0, s1⟩
                    go_simp
                    with_reducible rfl
                   rotate_left
                   ·
                    simp only [Act.put, List.setIfInBounds_toArray, List.set_cons_zero, List.set_cons_succ, i64_w, i32_w]
                    rfl
                   refine take_ (i := 7) (N := some 128) (v := ?_) (a' := ?_) #[true, true, true, true, true, true, true, true, false, false, false, false, false, false] rfl rfl (take_ofW HT_.out HW_.out (by kernel_rfl)) (fun _ _ _ h => h) (Or.inl ⟨by rfl, ?_⟩) hHeld ?_ ?_
                   rotate_left
                   ·
                    rintro w' ⟨s0, s1⟩
                    go_simp
                    with_reducible rfl
                   rotate_left
                   ·
                    simp only [Act.put, List.setIfInBounds_toArray, List.set_cons_zero, List.set_cons_succ, i64_w, i32_w]
                    rfl
                   refine one_ (i := 8) (N := some 129) #[true, true, true, true, true, true, true, true, true, false, false, false, false, false] rfl rfl (one_of HT_.out (by kernel_rfl)) (by decide) (fun K hK => ?_)
                   refine goes_ Try.func82 (by kernel_rfl) rfl #[.int .i64 t362, .slice Ao12 t363.length co12, .int .i64 (rd (rd_L2 t367 x116_3) 0), .int .i64 (rd (rd_L2 t367 x116_3) 1)] (by rfl) rfl rfl (by (try simp only [List.map_toArray, List.map_cons, List.map_nil]); first | done | rfl) ?_
                   with_reducible refine (impl_IsDoor.calls k3 t362 _ _ t363 (rd (rd_L2 t367 x116_3) 0) (rd (rd_L2 t367 x116_3) 1) true true _ ?side1 ?side2 A37.out).mono ?_
                   (case side1 => exact zC (Kd.R_reads' HO_6.out).2.2)
                   (case side2 => exact (Kd.R_reads' HO_6.out).2.1)
                   rintro e w41 ⟨rfl, hb⟩
                   have HS0_ := (hb.cell (World.block_lt_of_cell? _ _ (hHeld.1))).trans (hHeld.1)
                   have HS1_ := (hb.cell (World.block_lt_of_cell? _ _ (hHeld.2))).trans (hHeld.2)
                   refine ⟨_, rfl, ?_⟩
                   have n0_ := zA0 (Kd.R_below (zR HO_6) hb)
                   have n1_ := zA0 (Kd.N_below (zN HO_114) hb)
                   have n2_ := zA0 (Kd.V_below (zV HL380_0) hb)
                   have n3_ := zA0 (Kd.C_below (by repeat (first | (with_reducible exact HR380_0.out) | (with_reducible refine Kd.C_alloc ?_ _) | (with_reducible refine zcN ?_ _) | (with_reducible refine zcD ?_) | exact HR380_0.out)) hb)
                   have n4_ := zA0 (below_step (zB HB) hb)
                   replace HO_6 := n0_; replace HO_114 := n1_; replace HL380_0 := n2_; replace HR380_0 := n3_; replace HB := n4_; clear n0_ n1_ n2_ n3_ n4_
                   (try clear hb)
                   (try clear hb2)
                   (try clear hk)
                   (try clear hi)
                   refine hK.out _ _ ⟨HS0_, HS1_⟩ (fun hHeld => ?_)
                   clear hK K
                   refine norm_ (a' := ?_) ?_ ?_
                   rotate_left
                   ·
                    show Act.put _ (some 129) _ = _
                    simp only [Act.put, List.setIfInBounds_toArray, List.set_cons_zero, List.set_cons_succ, i64_w, i32_w]
                    rfl
                   refine pure_ (i := 9) (N := some 120) (v := ?_) (a' := ?_) #[true, true, true, true, true, true, true, true, true, true, false, false, false, false] rfl rfl (any_of HT_.out (by kernel_rfl)) (fun _ _ _ h => h) (Or.inl ⟨by rfl, ?_⟩) ?_ ?_
                   rotate_left
                   ·
                    intro w'
                    go_simp
                    with_reducible rfl
                   rotate_left
                   ·
                    simp only [Act.put, List.setIfInBounds_toArray, List.set_cons_zero, List.set_cons_succ, i64_w, i32_w]
                    rfl
                   refine pure_ (i := 10) (N := some 130) (v := ?_) (a' := ?_) #[true, true, true, true, true, true, true, true, true, true, true, false, false, false] rfl rfl (any_of HT_.out (by kernel_rfl)) (fun _ _ _ h => h) (Or.inl ⟨by rfl, ?_⟩) ?_ ?_
                   rotate_left
                   ·
                    intro w'
                    go_simp
                    with_reducible rfl
                   rotate_left
                   ·
                    simp only [Act.put, List.setIfInBounds_toArray, List.set_cons_zero, List.set_cons_succ, i64_w, i32_w]
                    rfl
                   refine pure_ (i := 11) (N := some 131) (v := ?_) (a' := ?_) #[true, true, true, true, true, true, true, true, true, true, true, true, false, false] rfl rfl (any_of HT_.out (by kernel_rfl)) (fun _ _ _ h => h) (Or.inl ⟨by rfl, ?_⟩) ?_ ?_
                   rotate_left
                   ·
                    intro w'
                    go_simp
                    with_reducible rfl
                   rotate_left
                   ·
                    simp only [Act.put, List.setIfInBounds_toArray, List.set_cons_zero, List.set_cons_succ, i64_w, i32_w]
                    rfl
                   refine pure_ (i := 12) (N := some 18) (v := ?_) (a' := ?_) #[true, true, true, true, true, true, true, true, true, true, true, true, true, false] rfl rfl (any_of HT_.out (by kernel_rfl)) (fun _ _ _ h => h) (Or.inl ⟨by rfl, ?_⟩) ?_ ?_
                   rotate_left
                   ·
                    intro w'
                    go_simp
                    with_reducible rfl
                   rotate_left
                   ·
                    simp only [Act.put, List.setIfInBounds_toArray, List.set_cons_zero, List.set_cons_succ, i64_w, i32_w]
                    rfl
                   refine pure_ (i := 13) (N := some 19) (v := ?_) (a' := ?_) #[true, true, true, true, true, true, true, true, true, true, true, true, true, true] rfl rfl (any_of HT_.out (by kernel_rfl)) (fun _ _ _ h => h) (Or.inl ⟨by rfl, ?_⟩) ?_ ?_
                   rotate_left
                   ·
                    intro w'
                    go_simp
                    with_reducible rfl
                   rotate_left
                   ·
                    simp only [Act.put, List.setIfInBounds_toArray, List.set_cons_zero, List.set_cons_succ, i64_w, i32_w]
                    rfl
                   refine done_ (done_of HT_.out (by kernel_rfl)) ?_
                   try go_wp2
                   go_roundg k3
                   case measure => have := HJ9.out; have := HJ26.out; have := HK3.out; omega
                   case rel => exact ⟨(wrap64 (x116_3 + 1)), (by first | rfl | (simp; done) | (simp [*]; done) | (simp; decide) | (simp; unfold wrap64; omega)), H', ⟨by have := HJ9.out; have := HJ26.out; have := HK3.out; omega⟩, ⟨zR HO_6⟩, ⟨zN HO_114⟩, ⟨zB HB⟩⟩
                  ·
                   replace c39 := Bool.eq_false_iff.mpr c39
                   subst c39
                   rw [if_neg (show ¬ (false = true) by decide)] at H
                   exact absurd H (by simp)
                 ·
                  replace c38 := Bool.eq_false_iff.mpr c38
                  subst c38
                  rw [if_neg (show ¬ (false = true) by decide)] at H
                  exact absurd H (by simp)
                ·
                 rw [if_neg c36] at H
                 exact absurd H (by simp)
               ·
                rw [if_neg c35] at H
                exact absurd H (by simp)
              ·
               rw [if_neg c34] at H
               exact absurd H (by simp)
             ·
              rw [if_neg c33] at H
              exact absurd H (by simp)
            ·
             rw [if_neg c32] at H
             have c32b0 : decide (x116_3 < (t367.length : Int)) = false := decide_eq_false c32
             clear c32
             have H' := zA0 H
             clear H
             go_wp2
             refine Met.m (by assumption) (by kernel_rfl) ?rel
             case rel => exact ⟨_, H', ⟨by have := HJ9.out; have := HJ26.out; have := HK3.out; first | omega | exact Nat.le_refl _⟩, ⟨zB HB⟩⟩
      ·
       replace c26 := Bool.eq_false_iff.mpr c26
       subst c26
       rw [if_neg (show ¬ (false = true) by decide)] at H
       have H' := zA0 H
       clear H
       go_wp2
       refine Met.m (by assumption) (by kernel_rfl) ?rel
       case rel => exact ⟨_, H', ⟨by have := HJ9.out; first | omega | exact Nat.le_refl _⟩, ⟨zB HB⟩⟩
     case rest4u2 => as_aux_lemma =>
      intro u_ wc hcut
      dsimp only [zipR, Nat.reduceAdd]
      clear HC25
      try clear c1
      try clear c2
      try clear p2
      try clear c3
      try clear p3
      try clear q3
      try clear hx3
      try clear qi3
      try clear c4
      try clear p6
      try clear c7
      try clear c8
      try clear c17
      try clear c17b0
      try clear c17b1
      try clear c17b2
      try clear c19
      try clear c20
      try clear c20b0
      try clear c20b1
      try clear c20b2
      try clear c21
      try clear c21b0
      try clear c21b1
      try clear c21b2
      try clear c24
      try clear c26
      try clear c28
      try clear c28b0
      try clear c28b1
      try clear c28b2
      try clear c30
      try clear c32
      try clear c32b0
      try clear c33
      try clear c33b0
      try clear c34
      try clear c34b0
      try clear c35
      try clear c35b0
      try clear c35b1
      try clear c36
      try clear c36b0
      try clear c36b1
      try clear c38
      try clear p38
      try clear q38
      try clear hx38
      try clear qi38
      try clear c39
      try clear hx380_0
      try clear hx381_0
      try clear hx382_0
      try clear p2
      try clear p380
      try clear p381
      try clear p382
      try clear p6
      try clear q380
      try clear q381
      try clear q382
      obtain ⟨kq, HA, HJ24, HB⟩ := hcut
      cases kq with
      | zero => exact absurd HA.out (by simp [laws_FnDoorsOfRooms.j3])
      | succ kj24 =>
       have H := HA.out
       clear HA
       simp only [laws_FnDoorsOfRooms.j3] at H
       replace H := Option.bind_eq_some_iff.mp H
       obtain ⟨⟨t385, t386⟩, A420, H⟩ := H
       (try dsimp only at H)
       have A42 := zA0 A420
       clear A420
       replace H := Option.bind_eq_some_iff.mp H
       obtain ⟨⟨t389, t390⟩, A430, H⟩ := H
       (try dsimp only at H)
       have A43 := zA0 A430
       clear A430
       replace H := Option.bind_eq_some_iff.mp H
       obtain ⟨⟨t393, t394⟩, A440, H⟩ := H
       (try dsimp only at H)
       have A44 := zA0 A440
       clear A440
       replace H := Option.bind_eq_some_iff.mp H
       obtain ⟨⟨t397, t400⟩, A450, H⟩ := H
       (try dsimp only at H)
       have A45 := zA0 A450
       clear A450
       replace H := Option.bind_eq_some_iff.mp H
       obtain ⟨⟨t401, t402⟩, A460, H⟩ := H
       (try dsimp only at H)
       have A46 := zA0 A460
       clear A460
       have HC47 := zA0 H
       clear H
       go_upto_region 25 with (first | ((with_reducible refine gate_callee (f := 83) rfl ?_); refine goesL_ (some 141) rfl rfl Try.func83 (by kernel_rfl) rfl #[.slice A1 l1.length c1] rfl (by (try simp only [List.map_toArray, List.map_cons, List.map_nil]); first | done | rfl) ?_; (with_reducible refine (spec_DrawDoorsOf.calls kj24 _ _ l1 t385 t386 _ ?side1 ?side2 A42.out).mono ?_); (case side1 => exact zC (Kd.C_below HR1.out HB.out)); (case side2 => exact HC1.out); rintro e w48 ⟨v387, rfl, ho0, hb⟩; refine ⟨_, rfl, ?_⟩; have n0_ := zA0 (Kd.R_lower ho0 (below_size (zB HB))); have n1_ := zA0 (below_step (zB HB) hb); have HO388 := n0_; replace HB := n1_; clear n0_ n1_; (try clear hb); (try clear hb2); (try clear hk); (try clear hi); (try clear ho0); (try clear ho0S); obtain ⟨Ao49, co49, eo49⟩ := Kd.R_slice HO388.out; subst eo49) | ((with_reducible refine gate_callee (f := 84) rfl ?_); refine goesL_ (some 147) rfl rfl Try.func84 (by kernel_rfl) rfl #[.int .i64 t385, .slice Ao49 t386.length co49] rfl (by (try simp only [List.map_toArray, List.map_cons, List.map_nil]); first | done | rfl) ?_; (with_reducible refine (impl_DoorsOf.calls kj24 t385 _ _ t386 t389 t390 _ ?side1 ?side2 A43.out).mono ?_); (case side1 => exact zC (Kd.R_reads' HO388.out).2.2); (case side2 => exact (Kd.R_reads' HO388.out).2.1); rintro e w50 ⟨v391, rfl, ho0, hb⟩; refine ⟨_, rfl, ?_⟩; have n0_ := zA0 (Kd.R_below (zR HO388) hb); have n1_ := zA0 (Kd.N_lower (Kd.N_mono (ok' := fun k_ => some k_ ≠ (.slice Ao49 t386.length co49 : Value).ownBlock) (Kd.S_N (Kd.S_bound ho0)) (fun k_ hk_ => (Kd.fresh' (Kd.R_lt (zR HO388)) k_ hk_.2.1))) (below_size (zB HB))); have n2_ := zA0 (below_step (zB HB) hb); replace HO388 := n0_; have HO392 := n1_; replace HB := n2_; clear n0_ n1_ n2_; (try clear hb); (try clear hb2); (try clear hk); (try clear hi); (try clear ho0); (try clear ho0S)) | ((with_reducible refine gate_callee (f := 85) rfl ?_); refine goesL_ (some 153) rfl rfl Try.func85 (by kernel_rfl) rfl #[.int .i64 t385, .slice Ao49 t386.length co49] rfl (by (try simp only [List.map_toArray, List.map_cons, List.map_nil]); first | done | rfl) ?_; (with_reducible refine (spec_DoorsOf.calls kj24 t385 _ _ t386 t393 t394 _ ?side1 ?side2 A44.out).mono ?_); (case side1 => exact zC (Kd.R_reads' HO388.out).2.2); (case side2 => exact (Kd.R_reads' HO388.out).2.1); rintro e w51 ⟨v395, rfl, ho0, hb⟩; refine ⟨_, rfl, ?_⟩; (try (have ho0S := ho0; replace ho0 := Kd.S_N ho0S)); (try (have ho0S := ho0; replace ho0 := Kd.S_N ho0S)); have n0_ := zA0 (Kd.R_below (zR HO388) hb); have n1_ := zA0 (Kd.N_elder' (zN HO392) (Kd.N_base ho0) hb); have n2_ := zA0 (Kd.N_lower (Kd.N_mono (ok' := fun k_ => some k_ ≠ (.slice Ao49 t386.length co49 : Value).ownBlock ∧ some k_ ≠ (v391 : Value).ownBlock) (Kd.S_N (Kd.S_bound ho0S)) (fun k_ hk_ => ⟨(Kd.fresh' (Kd.R_lt (zR HO388)) k_ hk_.2.1), (Kd.fresh' (Kd.N_lt (zN HO392)) k_ hk_.2.1)⟩)) (below_size (zB HB))); have n3_ := zA0 (below_step (zB HB) hb); replace HO388 := n0_; replace HO392 := n1_; have HO396 := n2_; replace HB := n3_; clear n0_ n1_ n2_ n3_; (try clear hb); (try clear hb2); (try clear hk); (try clear hi); (try clear ho0); (try clear ho0S)) | ((with_reducible refine gate_callee (f := 86) rfl ?_); refine goesL_ (some 159) rfl rfl Try.func86 (by kernel_rfl) rfl #[.int .i64 t385, .slice Ao49 t386.length co49] rfl (by (try simp only [List.map_toArray, List.map_cons, List.map_nil]); first | done | rfl) ?_; (with_reducible refine (impl_BorderDoors.calls kj24 t385 (fun k_ => some k_ = (.slice Ao49 t386.length co49 : Value).ownBlock) _ _ t386 t397 t400 _ ?side1 A45.out).mono ?_); (case side1 => exact Kd.R_V (Kd.R_tight rfl (Kd.R_apart' (Kd.R_apart' (HO388.out) (Kd.N_typed HO392.out) (by decide)) (Kd.N_typed HO396.out) (by decide)))); rintro e w52 ⟨v398, rfl, ho0, hb⟩; refine ⟨_, rfl, ?_⟩; (try (have ho0S := ho0; replace ho0 := Kd.S_N ho0S)); (try (have ho0S := ho0; replace ho0 := Kd.S_N ho0S)); have n0_ := zA0 (Kd.R_below (zR HO388) hb); have n1_ := zA0 (Kd.N_elder' (zN HO392) (Kd.N_base ho0) hb); have n2_ := zA0 (Kd.N_elder' (zN HO396) (Kd.N_base ho0) hb); have n3_ := zA0 (Kd.N_lower (Kd.N_mono (ok' := fun k_ => some k_ ≠ (v391 : Value).ownBlock ∧ some k_ ≠ (v395 : Value).ownBlock) ho0 (fun k_ hk_ => ⟨Or.elim hk_ (fun hs_ => ((Kd.R_apart' (Kd.R_apart' (HO388.out) (Kd.N_typed HO392.out) (by decide)) (Kd.N_typed HO396.out) (by decide)).1 k_ hs_.symm).1.2) (fun hn_ => (Kd.fresh' (Kd.N_lt (zN HO392)) k_ hn_)), Or.elim hk_ (fun hs_ => ((Kd.R_apart' (Kd.R_apart' (HO388.out) (Kd.N_typed HO392.out) (by decide)) (Kd.N_typed HO396.out) (by decide)).1 k_ hs_.symm).2) (fun hn_ => (Kd.fresh' (Kd.N_lt (zN HO396)) k_ hn_))⟩)) (below_size (zB HB))); have n4_ := zA0 (below_step (zB HB) hb); replace HO388 := n0_; replace HO392 := n1_; replace HO396 := n2_; have HO399 := n3_; replace HB := n4_; clear n0_ n1_ n2_ n3_ n4_; (try clear hb); (try clear hb2); (try clear hk); (try clear hi); (try clear ho0); (try clear ho0S)) | ((with_reducible refine gate_callee (f := 87) rfl ?_); refine goesL_ (some 165) rfl rfl Try.func87 (by kernel_rfl) rfl #[.int .i64 t385, .slice Ao49 t386.length co49] rfl (by (try simp only [List.map_toArray, List.map_cons, List.map_nil]); first | done | rfl) ?_; (with_reducible refine (spec_BorderDoors.calls kj24 t385 _ _ t386 t401 t402 _ ?side1 ?side2 A46.out).mono ?_); (case side1 => exact zC (Kd.R_reads' HO388.out).2.2); (case side2 => exact (Kd.R_reads' HO388.out).2.1); rintro e w53 ⟨v403, rfl, ho0, hb⟩; refine ⟨_, rfl, ?_⟩; (try (have ho0S := ho0; replace ho0 := Kd.S_N ho0S)); (try (have ho0S := ho0; replace ho0 := Kd.S_N ho0S)); have n0_ := zA0 (Kd.R_below (zR HO388) hb); have n1_ := zA0 (Kd.N_elder' (zN HO392) (Kd.N_base ho0) hb); have n2_ := zA0 (Kd.N_elder' (zN HO396) (Kd.N_base ho0) hb); have n3_ := zA0 (Kd.N_elder' (zN HO399) (Kd.N_base ho0) hb); have n4_ := zA0 (Kd.N_lower (Kd.N_mono (ok' := fun k_ => some k_ ≠ (.slice Ao49 t386.length co49 : Value).ownBlock ∧ some k_ ≠ (v391 : Value).ownBlock ∧ some k_ ≠ (v395 : Value).ownBlock ∧ some k_ ≠ (v398 : Value).ownBlock) (Kd.S_N (Kd.S_bound ho0S)) (fun k_ hk_ => ⟨(Kd.fresh' (Kd.R_lt (zR HO388)) k_ hk_.2.1), (Kd.fresh' (Kd.N_lt (zN HO392)) k_ hk_.2.1), (Kd.fresh' (Kd.N_lt (zN HO396)) k_ hk_.2.1), (Kd.fresh' (Kd.N_lt (zN HO399)) k_ hk_.2.1)⟩)) (below_size (zB HB))); have n5_ := zA0 (below_step (zB HB) hb); replace HO388 := n0_; replace HO392 := n1_; replace HO396 := n2_; replace HO399 := n3_; have HO404 := n4_; replace HB := n5_; clear n0_ n1_ n2_ n3_ n4_ n5_; (try clear hb); (try clear hb2); (try clear hk); (try clear hi); (try clear ho0); (try clear ho0S)))
       (try simp only [Act.put, List.setIfInBounds_toArray, List.set_cons_zero, List.set_cons_succ])
       refine wp_cutm false 41 [71, 2, 135] (fun u_ => (fun v192 wc => ∃ (kq : Nat) (x192_46 : Bool), v192 = .bool x192_46 ∧ Aside0 (laws_FnDoorsOfRooms.j4 kq l1 t385 t386 t389 t390 t397 x192_46 = some r) ∧ Aside0 (kq ≤ kj24) ∧ Aside0 (Kd.R (Kd.int .i64) 3 wc w.heap.size (fun _ => True) (.slice Ao49 t386.length co49) t386) ∧ Aside0 (Kd.N (Kd.slice 3 (Kd.int .i64)) 22 wc w.heap.size (fun k_ => some k_ ≠ ((.slice Ao49 t386.length co49) : Value).ownBlock ∧ some k_ ≠ (v398 : Value).ownBlock) v391 t389) ∧ Aside0 (Kd.N (Kd.slice 3 (Kd.int .i64)) 22 wc w.heap.size (fun k_ => some k_ ≠ (v391 : Value).ownBlock) v398 t397) ∧ Aside0 (Below w.heap.size w wc)) (u_ 192)) ?rest4u4 ?first4u4
       case first4u4 => as_aux_lemma =>
        intro _ _ _ _
        have H := HC47.out
        clear HC47
        by_cases c54 : (t390 != t394) = true
        ·
         rw [if_pos c54] at H
         exact absurd H (by simp)
        ·
         rw [if_neg c54] at H
         have c54b0 : (t390 != t394) = false := by simpa using c54
         (try (have c54b1 : decide (t390 = t394) = true := by simpa using c54))
         (try (have c54b2 : (t390 == t394) = true := by simpa using c54))
         clear c54
         (first | rw [c54b0] | (simp only [i64_w, i32_w]; rw [c54b0]) | skip)
         replace H := Option.bind_eq_some_iff.mp H
         obtain ⟨t405, A550, H⟩ := H
         (try dsimp only at H)
         have A55 := zA0 A550
         clear A550
         by_cases c56 : t405 = true
         ·
          subst c56
          rw [if_pos rfl] at H
          by_cases c57 : (t400 != t402) = true
          ·
           rw [if_pos c57] at H
           exact absurd H (by simp)
          ·
           rw [if_neg c57] at H
           have c57b0 : (t400 != t402) = false := by simpa using c57
           (try (have c57b1 : decide (t400 = t402) = true := by simpa using c57))
           (try (have c57b2 : (t400 == t402) = true := by simpa using c57))
           clear c57
           replace H := Option.bind_eq_some_iff.mp H
           obtain ⟨t406, A580, H⟩ := H
           (try dsimp only at H)
           have A58 := zA0 A580
           clear A580
           by_cases c59 : t406 = true
           ·
            subst c59
            rw [if_pos rfl] at H
            have H' := zA0 H
            clear H
            obtain ⟨Ao60, co60, eo60⟩ := Kd.N_slice HO392.out
            subst eo60
            obtain ⟨Ao61, co61, eo61⟩ := Kd.N_slice HO396.out
            subst eo61
            go_wp2_with (first | (go_at_call 70; (with_reducible refine (laws_uSameRows.calls kj24 _ _ t389 _ _ t393 true _ ?side1 ?side2 ?side3 ?side4 A55.out).mono ?_); (case side1 => exact zC (Kd.N_reads' HO392.out).2.2); (case side2 => exact (Kd.N_reads' HO392.out).2.1); (case side3 => exact zC (Kd.N_reads' HO396.out).2.2); (case side4 => exact (Kd.N_reads' HO396.out).2.1); rintro e w' ⟨rfl, ⟨nd, rfl⟩⟩; obtain ⟨Ao62, co62, eo62⟩ := Kd.N_slice HO399.out; subst eo62; obtain ⟨Ao63, co63, eo63⟩ := Kd.N_slice HO404.out; subst eo63) | (go_at_call 70; (with_reducible refine (laws_uSameRows.calls kj24 _ _ t397 _ _ t401 true _ ?side1 ?side2 ?side3 ?side4 A58.out).mono ?_); (case side1 => exact zC (Kd.N_reads' HO399.out).2.2); (case side2 => exact (Kd.N_reads' HO399.out).2.1); (case side3 => exact zC (Kd.N_reads' HO404.out).2.2); (case side4 => exact (Kd.N_reads' HO404.out).2.1); rintro e w' ⟨rfl, ⟨nd, rfl⟩⟩))
            refine Met.m (by assumption) (by kernel_rfl) ?rel
            case rel => exact ⟨_, ((t400 != t390)), (by first | rfl | (simp; done) | (simp [*]; done) | (simp; decide) | (simp; unfold wrap64; omega)), H', ⟨by have := HJ9.out; have := HJ24.out; first | omega | exact Nat.le_refl _⟩, ⟨zR HO388⟩, ⟨by (with_reducible repeat (first | apply znA | apply znN | apply znD)); exact Kd.N_mono HO392.out (fun _ hk => ⟨hk.1.1.1, hk.1.2⟩)⟩, ⟨by (with_reducible repeat (first | apply znA | apply znN | apply znD)); exact Kd.N_mono HO399.out (fun _ hk => hk.1.1)⟩, ⟨zB HB⟩⟩
           ·
            replace c59 := Bool.eq_false_iff.mpr c59
            subst c59
            rw [if_neg (show ¬ (false = true) by decide)] at H
            exact absurd H (by simp)
         ·
          replace c56 := Bool.eq_false_iff.mpr c56
          subst c56
          rw [if_neg (show ¬ (false = true) by decide)] at H
          exact absurd H (by simp)
       case rest4u4 => as_aux_lemma =>
        intro u_ wc hcut
        dsimp only [zipR, Nat.reduceAdd]
        generalize u_ 192 = u192 at hcut ⊢
        clear HC47
        try clear c1
        try clear c2
        try clear p2
        try clear c3
        try clear p3
        try clear q3
        try clear hx3
        try clear qi3
        try clear c4
        try clear c5
        try clear p6
        try clear c7
        try clear c8
        try clear c17
        try clear c17b0
        try clear c17b1
        try clear c17b2
        try clear c19
        try clear c20
        try clear c20b0
        try clear c20b1
        try clear c20b2
        try clear c21
        try clear c21b0
        try clear c21b1
        try clear c21b2
        try clear c24
        try clear c26
        try clear c28
        try clear c28b0
        try clear c28b1
        try clear c28b2
        try clear c30
        try clear c32
        try clear c32b0
        try clear c33
        try clear c33b0
        try clear c34
        try clear c34b0
        try clear c35
        try clear c35b0
        try clear c35b1
        try clear c36
        try clear c36b0
        try clear c36b1
        try clear c38
        try clear p38
        try clear q38
        try clear hx38
        try clear qi38
        try clear c39
        try clear c54
        try clear c54b0
        try clear c54b1
        try clear c54b2
        try clear c56
        try clear c57
        try clear c57b0
        try clear c57b1
        try clear c57b2
        try clear c59
        try clear hx380_0
        try clear hx381_0
        try clear hx382_0
        try clear p2
        try clear p3
        try clear p38
        try clear p380
        try clear p381
        try clear p382
        try clear p6
        try clear q3
        try clear q38
        try clear q380
        try clear q381
        try clear q382
        obtain ⟨kq, x192_46, rfl, HA, HJ46, HO_21, HO_22, HO_26, HB⟩ := hcut
        cases kq with
        | zero => exact absurd HA.out (by simp [laws_FnDoorsOfRooms.j4])
        | succ kj46 =>
         have H := HA.out
         clear HA
         simp only [laws_FnDoorsOfRooms.j4] at H
         by_cases c64 : x192_46 = true
         ·
          subst c64
          rw [if_pos rfl] at H
          exact absurd H (by simp)
         ·
          replace c64 := Bool.eq_false_iff.mpr c64
          subst c64
          rw [if_neg (show ¬ (false = true) by decide)] at H
          by_cases c65 : t390 = true
          ·
           subst c65
           rw [if_pos rfl] at H
           have H' := zA0 H
           clear H
           go_wp2
           go_loopg [30, 31] kj46 (fun kq v30 v31 w' => ∃ (x30_4 : Int) (x31_4 : Int), v30 = .int .i64 x30_4 ∧ v31 = .int .i64 x31_4 ∧ Aside0 (laws_FnDoorsOfRooms.l1 kq l1 t385 t386 t389 t397 x30_4 x31_4 = some r) ∧ Aside0 (kq ≤ kj46) ∧ Aside0 (Kd.R (Kd.int .i64) 3 w' w.heap.size (fun _ => True) (.slice Ao49 t386.length co49) t386) ∧ Aside0 (Kd.N (Kd.slice 3 (Kd.int .i64)) 22 w' w.heap.size (fun k_ => some k_ ≠ ((.slice Ao49 t386.length co49) : Value).ownBlock ∧ some k_ ≠ (v398 : Value).ownBlock) v391 t389) ∧ Aside0 (Kd.N (Kd.slice 3 (Kd.int .i64)) 22 w' w.heap.size (fun k_ => some k_ ≠ (v391 : Value).ownBlock) v398 t397) ∧ Aside0 (Below w.heap.size w w'))
           case atStart => exact ⟨(0), (0), (by first | rfl | (simp; done) | (simp [*]; done) | (simp; decide) | (simp; unfold wrap64; omega)), (by first | rfl | (simp; done) | (simp [*]; done) | (simp; decide) | (simp; unfold wrap64; omega)), H', ⟨Nat.le_refl _⟩, ⟨zR HO_21⟩, ⟨zN HO_22⟩, ⟨zN HO_26⟩, ⟨zB HB⟩⟩
           case round => as_aux_lemma =>
            clear H'
            try clear c1
            try clear c2
            try clear p2
            try clear c3
            try clear p3
            try clear q3
            try clear hx3
            try clear qi3
            try clear c4
            try clear c5
            try clear c6
            try clear p6
            try clear c7
            try clear c8
            try clear c17
            try clear c17b0
            try clear c17b1
            try clear c17b2
            try clear c19
            try clear c20
            try clear c20b0
            try clear c20b1
            try clear c20b2
            try clear c21
            try clear c21b0
            try clear c21b1
            try clear c21b2
            try clear c24
            try clear c26
            try clear c28
            try clear c28b0
            try clear c28b1
            try clear c28b2
            try clear c30
            try clear c32
            try clear c32b0
            try clear c33
            try clear c33b0
            try clear c34
            try clear c34b0
            try clear c35
            try clear c35b0
            try clear c35b1
            try clear c36
            try clear c36b0
            try clear c36b1
            try clear c38
            try clear p38
            try clear q38
            try clear hx38
            try clear qi38
            try clear c39
            try clear c54
            try clear c54b0
            try clear c54b1
            try clear c54b2
            try clear c56
            try clear c57
            try clear c57b0
            try clear c57b1
            try clear c57b2
            try clear c59
            try clear c64
            try clear p64
            try clear c65
            try clear hx380_0
            try clear hx381_0
            try clear hx382_0
            try clear p2
            try clear p3
            try clear p38
            try clear p380
            try clear p381
            try clear p382
            try clear p6
            try clear q3
            try clear q38
            try clear q380
            try clear q381
            try clear q382
            obtain ⟨x30_4, x31_4, rfl, rfl, HA, HK4, HO_21, HO_22, HO_26, HB⟩ := hrel
            cases gk with
            | zero => exact absurd HA.out (by simp [laws_FnDoorsOfRooms.l1])
            | succ k4 =>
             have H := HA.out
             clear HA
             simp only [laws_FnDoorsOfRooms.l1] at H
             by_cases c66 : x31_4 < (wrap64 (t385 * t385))
             ·
              rw [if_pos c66] at H
              have c66b0 : decide (x31_4 < (wrap64 (t385 * t385))) = true := decide_eq_true c66
              (try have c66w0 : decide (x31_4 < (IntKind.i64.wrap (t385 * t385))) = true := by first | exact c66b0 | (simp only [i64_w]; exact c66b0))
              clear c66
              replace H := Option.bind_eq_some_iff.mp H
              obtain ⟨⟨t407, t410⟩, A670, H⟩ := H
              (try dsimp only at H)
              have A67 := zA0 A670
              clear A670
              by_cases c68 : t410 = true
              ·
               subst c68
               rw [if_pos rfl] at H
               have H' := zA0 H
               clear H
               go_wp2_with (first | ((with_reducible refine gate_callee (f := 78) rfl ?_); refine goesL_ (some 205) rfl rfl Try.func78 (by kernel_rfl) rfl #[.int .i64 t385, .slice Ao49 t386.length co49, .int .i64 x31_4] rfl (by (try simp only [List.map_toArray, List.map_cons, List.map_nil]); first | done | rfl) ?_; (with_reducible refine (impl_DoorsOfCell.calls k4 t385 (fun k_ => some k_ = (.slice Ao49 t386.length co49 : Value).ownBlock) _ _ t386 x31_4 t407 true _ ?side1 A67.out).mono ?_); (case side1 => exact Kd.R_V (Kd.R_tight rfl (Kd.R_apart' (Kd.R_apart' (HO_21.out) (Kd.N_typed HO_22.out) (by decide)) (Kd.N_typed HO_26.out) (by decide)))); rintro e w69 ⟨v408, rfl, ho0, hb⟩; refine ⟨_, rfl, ?_⟩; (try (have ho0S := ho0; replace ho0 := Kd.S_N ho0S)); (try (have ho0S := ho0; replace ho0 := Kd.S_N ho0S)); have n0_ := zA0 (Kd.R_below (zR HO_21) hb); have n1_ := zA0 (Kd.N_elder' (zN HO_22) (Kd.N_base ho0) hb); have n2_ := zA0 (Kd.N_elder' (zN HO_26) (Kd.N_base ho0) hb); have n3_ := zA0 (Kd.N_lower (Kd.N_mono (ok' := fun k_ => some k_ ≠ (v391 : Value).ownBlock ∧ some k_ ≠ (v398 : Value).ownBlock) ho0 (fun k_ hk_ => ⟨Or.elim hk_ (fun hs_ => ((Kd.R_apart' (Kd.R_apart' (HO_21.out) (Kd.N_typed HO_22.out) (by decide)) (Kd.N_typed HO_26.out) (by decide)).1 k_ hs_.symm).1.2) (fun hn_ => (Kd.fresh' (Kd.N_lt (zN HO_22)) k_ hn_)), Or.elim hk_ (fun hs_ => ((Kd.R_apart' (Kd.R_apart' (HO_21.out) (Kd.N_typed HO_22.out) (by decide)) (Kd.N_typed HO_26.out) (by decide)).1 k_ hs_.symm).2) (fun hn_ => (Kd.fresh' (Kd.N_lt (zN HO_26)) k_ hn_))⟩)) (below_size (zB HB))); have n4_ := zA0 (below_step (zB HB) hb); replace HO_21 := n0_; replace HO_22 := n1_; replace HO_26 := n2_; have HO409 := n3_; replace HB := n4_; clear n0_ n1_ n2_ n3_ n4_; (try clear hb); (try clear hb2); (try clear hk); (try clear hi); (try clear ho0); (try clear ho0S); obtain ⟨Ao70, co70, eo70⟩ := Kd.N_slice HO409.out; subst eo70))
               go_roundg k4
               case measure => have := HJ9.out; have := HJ24.out; have := HJ46.out; have := HK4.out; omega
               case rel => exact ⟨(wrap64 (x30_4 + (t407.length : Int))), (wrap64 (x31_4 + 1)), (by first | rfl | (simp; done) | (simp [*]; done) | (simp; decide) | (simp; unfold wrap64; omega)), (by first | rfl | (simp; done) | (simp [*]; done) | (simp; decide) | (simp; unfold wrap64; omega)), H', ⟨by have := HJ9.out; have := HJ24.out; have := HJ46.out; have := HK4.out; omega⟩, ⟨zR HO_21⟩, ⟨by (with_reducible repeat (first | apply znA | apply znN | apply znD)); exact Kd.N_mono HO_22.out (fun _ hk => ⟨hk.1.1, hk.1.2⟩)⟩, ⟨by (with_reducible repeat (first | apply znA | apply znN | apply znD)); exact Kd.N_mono HO_26.out (fun _ hk => hk.1)⟩, ⟨zB HB⟩⟩
              ·
               replace c68 := Bool.eq_false_iff.mpr c68
               subst c68
               rw [if_neg (show ¬ (false = true) by decide)] at H
               exact absurd H (by simp)
             ·
              rw [if_neg c66] at H
              have c66b0 : decide (x31_4 < (wrap64 (t385 * t385))) = false := decide_eq_false c66
              (try have c66w0 : decide (x31_4 < (IntKind.i64.wrap (t385 * t385))) = false := by first | exact c66b0 | (simp only [i64_w]; exact c66b0))
              clear c66
              by_cases c71 : x30_4 = (wrap64 ((wrap64 (2 * (t389.length : Int))) - (t397.length : Int)))
              ·
               rw [if_pos c71] at H
               have c71b0 : (x30_4 == (wrap64 ((wrap64 (2 * (t389.length : Int))) - (t397.length : Int)))) = true := beq_iff_eq.mpr c71
               have c71b1 : (x30_4 != (wrap64 ((wrap64 (2 * (t389.length : Int))) - (t397.length : Int)))) = false := bne_eq_false_iff_eq.mpr c71
               (try have c71w0 : (x30_4 == (IntKind.i64.wrap ((IntKind.i64.wrap (2 * (t389.length : Int))) - (t397.length : Int)))) = true := by first | exact c71b0 | (simp only [i64_w]; exact c71b0))
               (try have c71w1 : (x30_4 != (IntKind.i64.wrap ((IntKind.i64.wrap (2 * (t389.length : Int))) - (t397.length : Int)))) = false := by first | exact c71b1 | (simp only [i64_w]; exact c71b1))
               clear c71
               replace H := Option.bind_eq_some_iff.mp H
               obtain ⟨⟨t411, t412, t413, t414⟩, A720, H⟩ := H
               (try dsimp only at H)
               have A72 := zA0 A720
               clear A720
               replace H := Option.bind_eq_some_iff.mp H
               obtain ⟨⟨t417, t418⟩, A730, H⟩ := H
               (try dsimp only at H)
               have A73 := zA0 A730
               clear A730
               replace H := Option.bind_eq_some_iff.mp H
               obtain ⟨⟨t419, t420⟩, A740, H⟩ := H
               (try dsimp only at H)
               have A74 := zA0 A740
               clear A740
               by_cases c75 : (t418 == t420) = true
               ·
                rw [if_pos c75] at H
                have c75b0 : (t418 == t420) = true := c75
                (try (have c75b1 : decide (t418 = t420) = true := by simpa using c75))
                (try (have c75b2 : (t418 == t420) = true := by simpa using c75))
                clear c75
                obtain rfl := Option.some.inj H
                obtain ⟨Ao76, co76, eo76⟩ := Kd.N_slice HO_22.out
                subst eo76
                obtain ⟨Ao77, co77, eo77⟩ := Kd.N_slice HO_26.out
                subst eo77
                go_wp2_with (first | ((with_reducible refine gate_callee (f := 88) rfl ?_); refine goesL_ (some 224) rfl rfl Try.func88 (by kernel_rfl) rfl #[.slice A1 l1.length c1] rfl (by (try simp only [List.map_toArray, List.map_cons, List.map_nil]); first | done | rfl) ?_; (with_reducible refine (spec_DrawIsDoor.calls k4 _ _ l1 t411 t412 t413 t414 _ ?side1 ?side2 A72.out).mono ?_); (case side1 => exact zC (Kd.C_below HR1.out HB.out)); (case side2 => exact HC1.out); rintro e w78 ⟨v415, rfl, ho0, hb⟩; refine ⟨_, rfl, ?_⟩; have n0_ := zA0 (Kd.R_elder' (zR HO_21) (Kd.R_base ho0) hb); have n1_ := zA0 (Kd.N_elder' (zN HO_22) (Kd.R_base ho0) hb); have n2_ := zA0 (Kd.N_elder' (zN HO_26) (Kd.R_base ho0) hb); have n3_ := zA0 (Kd.R_lower (Kd.R_new' ho0 (Kd.R_lt (zR HO_21))) (below_size (zB HB))); have n4_ := zA0 (below_step (zB HB) hb); replace HO_21 := n0_; replace HO_22 := n1_; replace HO_26 := n2_; have HO416 := n3_; replace HB := n4_; clear n0_ n1_ n2_ n3_ n4_; (try clear hb); (try clear hb2); (try clear hk); (try clear hi); (try clear ho0); (try clear ho0S); obtain ⟨Ao79, co79, eo79⟩ := Kd.R_slice HO416.out; subst eo79) | ((with_reducible refine gate_callee (f := 82) rfl ?_); refine goesL_ (some 234) rfl rfl Try.func82 (by kernel_rfl) rfl #[.int .i64 t411, .slice Ao79 t412.length co79, .int .i64 t413, .int .i64 t414] rfl (by (try simp only [List.map_toArray, List.map_cons, List.map_nil]); first | done | rfl) ?_; (with_reducible refine (impl_IsDoor.calls k4 t411 _ _ t412 t413 t414 t417 t418 _ ?side1 ?side2 A73.out).mono ?_); (case side1 => exact zC (Kd.R_reads' HO416.out).2.2); (case side2 => exact (Kd.R_reads' HO416.out).2.1); rintro e w80 ⟨rfl, hb⟩; refine ⟨_, rfl, ?_⟩; have n0_ := zA0 (Kd.R_below (zR HO_21) hb); have n1_ := zA0 (Kd.N_below (zN HO_22) hb); have n2_ := zA0 (Kd.N_below (zN HO_26) hb); have n3_ := zA0 (Kd.R_below (zR HO416) hb); have n4_ := zA0 (below_step (zB HB) hb); replace HO_21 := n0_; replace HO_22 := n1_; replace HO_26 := n2_; replace HO416 := n3_; replace HB := n4_; clear n0_ n1_ n2_ n3_ n4_; (try clear hb); (try clear hb2); (try clear hk); (try clear hi)) | ((with_reducible refine gate_callee (f := 89) rfl ?_); refine goesL_ (some 242) rfl rfl Try.func89 (by kernel_rfl) rfl #[.int .i64 t411, .slice Ao79 t412.length co79, .int .i64 t413, .int .i64 t414] rfl (by (try simp only [List.map_toArray, List.map_cons, List.map_nil]); first | done | rfl) ?_; (with_reducible refine (spec_IsDoor.calls k4 t411 _ _ t412 t413 t414 t419 t420 _ ?side1 ?side2 A74.out).mono ?_); (case side1 => exact zC (Kd.R_reads' HO416.out).2.2); (case side2 => exact (Kd.R_reads' HO416.out).2.1); rintro e w81 ⟨rfl, hb⟩; refine ⟨_, rfl, ?_⟩; have n0_ := zA0 (Kd.R_below (zR HO_21) hb); have n1_ := zA0 (Kd.N_below (zN HO_22) hb); have n2_ := zA0 (Kd.N_below (zN HO_26) hb); have n3_ := zA0 (Kd.R_below (zR HO416) hb); have n4_ := zA0 (below_step (zB HB) hb); replace HO_21 := n0_; replace HO_22 := n1_; replace HO_26 := n2_; replace HO416 := n3_; replace HB := n4_; clear n0_ n1_ n2_ n3_ n4_; (try clear hb); (try clear hb2); (try clear hk); (try clear hi)))
                go_ret
                exact ⟨by first | rfl | (simp [errW_none, errW_some] <;> rfl) | (simp [*, errW_none, errW_some] <;> rfl), zB HB⟩
               ·
                rw [if_neg c75] at H
                exact absurd H (by simp)
              ·
               rw [if_neg c71] at H
               exact absurd H (by simp)
          ·
           replace c65 := Bool.eq_false_iff.mpr c65
           subst c65
           rw [if_neg (show ¬ (false = true) by decide)] at H
           replace H := Option.bind_eq_some_iff.mp H
           obtain ⟨⟨t421, t422, t423, t424⟩, A820, H⟩ := H
           (try dsimp only at H)
           have A82 := zA0 A820
           clear A820
           replace H := Option.bind_eq_some_iff.mp H
           obtain ⟨⟨t427, t428⟩, A830, H⟩ := H
           (try dsimp only at H)
           have A83 := zA0 A830
           clear A830
           replace H := Option.bind_eq_some_iff.mp H
           obtain ⟨⟨t429, t430⟩, A840, H⟩ := H
           (try dsimp only at H)
           have A84 := zA0 A840
           clear A840
           by_cases c85 : (t428 == t430) = true
           ·
            rw [if_pos c85] at H
            have c85b0 : (t428 == t430) = true := c85
            (try (have c85b1 : decide (t428 = t430) = true := by simpa using c85))
            (try (have c85b2 : (t428 == t430) = true := by simpa using c85))
            clear c85
            obtain rfl := Option.some.inj H
            go_wp2_with (first | ((with_reducible refine gate_callee (f := 88) rfl ?_); refine goesL_ (some 224) rfl rfl Try.func88 (by kernel_rfl) rfl #[.slice A1 l1.length c1] rfl (by (try simp only [List.map_toArray, List.map_cons, List.map_nil]); first | done | rfl) ?_; (with_reducible refine (spec_DrawIsDoor.calls kj46 _ _ l1 t421 t422 t423 t424 _ ?side1 ?side2 A82.out).mono ?_); (case side1 => exact zC (Kd.C_below HR1.out HB.out)); (case side2 => exact HC1.out); rintro e w86 ⟨v425, rfl, ho0, hb⟩; refine ⟨_, rfl, ?_⟩; have n0_ := zA0 (Kd.R_elder' (zR HO_21) (Kd.R_base ho0) hb); have n1_ := zA0 (Kd.N_elder' (zN HO_22) (Kd.R_base ho0) hb); have n2_ := zA0 (Kd.N_elder' (zN HO_26) (Kd.R_base ho0) hb); have n3_ := zA0 (Kd.R_lower (Kd.R_new' ho0 (Kd.R_lt (zR HO_21))) (below_size (zB HB))); have n4_ := zA0 (below_step (zB HB) hb); replace HO_21 := n0_; replace HO_22 := n1_; replace HO_26 := n2_; have HO426 := n3_; replace HB := n4_; clear n0_ n1_ n2_ n3_ n4_; (try clear hb); (try clear hb2); (try clear hk); (try clear hi); (try clear ho0); (try clear ho0S); obtain ⟨Ao87, co87, eo87⟩ := Kd.R_slice HO426.out; subst eo87) | ((with_reducible refine gate_callee (f := 82) rfl ?_); refine goesL_ (some 234) rfl rfl Try.func82 (by kernel_rfl) rfl #[.int .i64 t421, .slice Ao87 t422.length co87, .int .i64 t423, .int .i64 t424] rfl (by (try simp only [List.map_toArray, List.map_cons, List.map_nil]); first | done | rfl) ?_; (with_reducible refine (impl_IsDoor.calls kj46 t421 _ _ t422 t423 t424 t427 t428 _ ?side1 ?side2 A83.out).mono ?_); (case side1 => exact zC (Kd.R_reads' HO426.out).2.2); (case side2 => exact (Kd.R_reads' HO426.out).2.1); rintro e w88 ⟨rfl, hb⟩; refine ⟨_, rfl, ?_⟩; have n0_ := zA0 (Kd.R_below (zR HO_21) hb); have n1_ := zA0 (Kd.N_below (zN HO_22) hb); have n2_ := zA0 (Kd.N_below (zN HO_26) hb); have n3_ := zA0 (Kd.R_below (zR HO426) hb); have n4_ := zA0 (below_step (zB HB) hb); replace HO_21 := n0_; replace HO_22 := n1_; replace HO_26 := n2_; replace HO426 := n3_; replace HB := n4_; clear n0_ n1_ n2_ n3_ n4_; (try clear hb); (try clear hb2); (try clear hk); (try clear hi)) | ((with_reducible refine gate_callee (f := 89) rfl ?_); refine goesL_ (some 242) rfl rfl Try.func89 (by kernel_rfl) rfl #[.int .i64 t421, .slice Ao87 t422.length co87, .int .i64 t423, .int .i64 t424] rfl (by (try simp only [List.map_toArray, List.map_cons, List.map_nil]); first | done | rfl) ?_; (with_reducible refine (spec_IsDoor.calls kj46 t421 _ _ t422 t423 t424 t429 t430 _ ?side1 ?side2 A84.out).mono ?_); (case side1 => exact zC (Kd.R_reads' HO426.out).2.2); (case side2 => exact (Kd.R_reads' HO426.out).2.1); rintro e w89 ⟨rfl, hb⟩; refine ⟨_, rfl, ?_⟩; have n0_ := zA0 (Kd.R_below (zR HO_21) hb); have n1_ := zA0 (Kd.N_below (zN HO_22) hb); have n2_ := zA0 (Kd.N_below (zN HO_26) hb); have n3_ := zA0 (Kd.R_below (zR HO426) hb); have n4_ := zA0 (below_step (zB HB) hb); replace HO_21 := n0_; replace HO_22 := n1_; replace HO_26 := n2_; replace HO426 := n3_; replace HB := n4_; clear n0_ n1_ n2_ n3_ n4_; (try clear hb); (try clear hb2); (try clear hk); (try clear hi)))
            go_ret
            exact ⟨by first | rfl | (simp [errW_none, errW_some] <;> rfl) | (simp [*, errW_none, errW_some] <;> rfl), zB HB⟩
           ·
            rw [if_neg c85] at H
            exact absurd H (by simp)
theorem laws_FnDoorsOfRooms.walk (P : laws_FnDoorsOfRooms.Pure) (a0 : Option Addr) (len0 cap0 : Nat) (z0 : List Int) (a1 : Option Addr) (len1 cap1 : Nat) (z1 : List Int) (w : World) (w0 : (a0 = none ∧ len0 = 0 ∧ cap0 = 0 ∧ z0 = []) ∨ ∃ x, a0 = some x ∧ len0 ≤ cap0 ∧ cap0 ≤ maxLen ∧ z0.length = cap0 ∧ (∀ i, i < z0.length → w.cell? (x.add i) = some (.int .u8 (z0.getD i 0))) ∧ ∀ n ∈ z0, (Lit.int .u8 n).wf = true) (y0 : len0 * 1 ≤ 140737488351232) (w1 : (a1 = none ∧ len1 = 0 ∧ cap1 = 0 ∧ z1 = []) ∨ ∃ x, a1 = some x ∧ len1 ≤ cap1 ∧ cap1 ≤ maxLen ∧ z1.length = cap1 ∧ (∀ i, i < z1.length → w.cell? (x.add i) = some (.int .u8 (z1.getD i 0))) ∧ ∀ n ∈ z1, (Lit.int .u8 n).wf = true) (y1 : len1 * 1 ≤ 140737488351232) :
    Calls Try.prog 8 #[.slice a0 len0 cap0, .slice a1 len1 cap1] w fun e w' => e = .returned (.bool true) ∧ Below w.heap.size w w' := by
  obtain ⟨l0, rfl, hr0, hm0, hw0, hc0⟩ := ReadsInt.ofRowC w0
  obtain ⟨l1, rfl, hr1, hm1, hw1, hc1⟩ := ReadsInt.ofRowC w1
  obtain ⟨k, h⟩ := P l0 l1 hm0 y0 hw0 hm1 y1 hw1
  refine (laws_FnDoorsOfRooms.calls k _ _ l0 _ _ l1 true w (Kd.C_of_reads (d := (0 : Int)) (h1 := fun _ => rfl) hr0) hc0 (Kd.C_of_reads (d := (0 : Int)) (h1 := fun _ => rfl) hr1) hc1 h).mono ?_
  rintro e w' ⟨rfl, hd⟩
  exact ⟨rfl, hd⟩
end Go.Proofs.Ytckiebdehlcjoaa.P
